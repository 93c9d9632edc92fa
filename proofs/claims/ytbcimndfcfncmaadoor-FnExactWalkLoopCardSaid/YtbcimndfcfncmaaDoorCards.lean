/-
  DERIVED. GIVEN WITH THE SEED: THE CARDS: each row of YtbcimndfcfncmaaDoorRows.lean that lists a variable, with what it lists TIED to the program's text (the seventh form; the later family's looks); each row that meets fmt, with fmt's text TOLD by the authors' own Lean function (tested against real Go, not proved from fmt's source: count such statements apart). THE CARD IS WHAT COUNTS. Prove the row's statement (the work); the ties are given (YtbcimndfcfncmaaDoorTie.lean); close each card by the builder's one call (the guide's Derived/Test/ToyasCard.lean, 'card_holds'). Laid BY PROGRAM, IN A SANDBOX (cutbox-door.mjs). By AI agents, Wed Nov 11 2026. No macro, syntax, notation, axiom, sorry.
-/
import Derived.Test.YtbcimndfcfncmaaDoorRows
import GoSem.ClaimSeven
namespace Go.Proofs.YtbcimndfcfncmaaDoor
namespace Rows

/-- THE TIED CARD OF 'laws.FnExactWalkLoop'. -/
def fnExactWalkLoopCard : Claim7 := { stood := { row := fnExactWalkLoopRow, standIns := [], harness := (true, "5e8e975d58baba9a0e1dcb8562e90aaaea7ce10e2ebc05df0e94ae4f49ff686b"), looks := false }, kinds := [], alts := [], laidByText := true, laidKinds := [.data, .data, .data], laidTests := true, laidLooks := .later }
def FnExactWalkLoopCardSaid : Prop := Claim7.holds Tryd.pinned (.plain (OpenSpec.ofChange fnExactWalkLoopSpec)) fnExactWalkLoopCard

/-- THE SECOND FORM's CARD OF 'laws.FnExactWalkLoop'. -/
def fnExactWalkLoopUptoCard : Claim7 := { stood := { row := fnExactWalkLoopUptoRow, standIns := [], harness := (true, "5e8e975d58baba9a0e1dcb8562e90aaaea7ce10e2ebc05df0e94ae4f49ff686b"), looks := false }, kinds := [], alts := [], laidByText := true, laidKinds := [.data, .data, .data], laidTests := true, laidLooks := .later }
def FnExactWalkLoopUptoCardSaid : Prop := Claim7.holds Tryd.pinned (.plain (OpenSpec.upto fnExactWalkLoopSpec)) fnExactWalkLoopUptoCard
end Rows
end Go.Proofs.YtbcimndfcfncmaaDoor
