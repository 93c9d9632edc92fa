/-
  DERIVED. GIVEN WITH THE SEED: THE CARDS: each row of YtmjjmibgoeobpaaDoorRows.lean that lists a variable, with what it lists TIED to the program's text (the seventh form; the later family's looks); each row that meets fmt, with fmt's text TOLD by the authors' own Lean function (tested against real Go, not proved from fmt's source: count such statements apart). THE CARD IS WHAT COUNTS. Prove the row's statement (the work); the ties are given (YtmjjmibgoeobpaaDoorTie.lean); close each card by the builder's one call (the guide's Derived/Test/ToyasCard.lean, 'card_holds'). Laid BY PROGRAM, IN A SANDBOX (cutbox-door.mjs). By AI agents, Wed Nov 11 2026. No macro, syntax, notation, axiom, sorry.
-/
import Derived.Test.YtmjjmibgoeobpaaDoorRows
import GoSem.ClaimSeven
namespace Go.Proofs.YtmjjmibgoeobpaaDoor
namespace Rows

/-- THE TIED CARD OF 'laws.FnExactTableOfRule'. -/
def fnExactTableOfRuleCard : Claim7 := { stood := { row := fnExactTableOfRuleRow, standIns := [], harness := (true, "717d0722ae7db8543e966e9e01d99445ad0bb762e5cde632e2584c2ad61b210a"), looks := true }, kinds := [], alts := [], laidByText := true, laidKinds := [.data, .pinned], laidTests := true, laidLooks := .later }
def FnExactTableOfRuleCardSaid : Prop := Claim7.holds Tryd.pinned (.plain (OpenSpec.ofChange fnExactTableOfRuleSpec)) fnExactTableOfRuleCard

/-- THE TIED CARD OF 'laws.FnExactTableText'. -/
def fnExactTableTextCard : Claim7 := { stood := { row := fnExactTableTextRow, standIns := [], harness := (true, "717d0722ae7db8543e966e9e01d99445ad0bb762e5cde632e2584c2ad61b210a"), looks := true }, kinds := [], alts := [], laidByText := true, laidKinds := [.data, .data, .data], laidTests := true, laidLooks := .later }
def FnExactTableTextCardSaid : Prop := Claim7.holds Tryd.pinned (.plain (OpenSpec.ofChange fnExactTableTextSpec)) fnExactTableTextCard

/-- THE TIED CARD OF 'laws.FnExactParseTable'. -/
def fnExactParseTableCard : Claim7 := { stood := { row := fnExactParseTableRow, standIns := [], harness := (true, "717d0722ae7db8543e966e9e01d99445ad0bb762e5cde632e2584c2ad61b210a"), looks := true }, kinds := [], alts := [], laidByText := true, laidKinds := [.data, .data, .data, .data, .sentinel, .sentinel, .pinned], laidTests := true, laidLooks := .later }
def FnExactParseTableCardSaid : Prop := Claim7.holds Tryd.pinned (.plain (OpenSpec.ofChange fnExactParseTableSpec)) fnExactParseTableCard

/-- THE SECOND FORM's CARD OF 'laws.FnExactTableOfRule'. -/
def fnExactTableOfRuleUptoCard : Claim7 := { stood := { row := fnExactTableOfRuleUptoRow, standIns := [], harness := (true, "717d0722ae7db8543e966e9e01d99445ad0bb762e5cde632e2584c2ad61b210a"), looks := true }, kinds := [], alts := [], laidByText := true, laidKinds := [.data, .pinned], laidTests := true, laidLooks := .later }
def FnExactTableOfRuleUptoCardSaid : Prop := Claim7.holds Tryd.pinned (.plain (OpenSpec.upto fnExactTableOfRuleSpec)) fnExactTableOfRuleUptoCard

/-- THE SECOND FORM's CARD OF 'laws.FnExactTableText'. -/
def fnExactTableTextUptoCard : Claim7 := { stood := { row := fnExactTableTextUptoRow, standIns := [], harness := (true, "717d0722ae7db8543e966e9e01d99445ad0bb762e5cde632e2584c2ad61b210a"), looks := true }, kinds := [], alts := [], laidByText := true, laidKinds := [.data, .data, .data], laidTests := true, laidLooks := .later }
def FnExactTableTextUptoCardSaid : Prop := Claim7.holds Tryd.pinned (.plain (OpenSpec.upto fnExactTableTextSpec)) fnExactTableTextUptoCard

/-- THE SECOND FORM's CARD OF 'laws.FnExactParseTable'. -/
def fnExactParseTableUptoCard : Claim7 := { stood := { row := fnExactParseTableUptoRow, standIns := [], harness := (true, "717d0722ae7db8543e966e9e01d99445ad0bb762e5cde632e2584c2ad61b210a"), looks := true }, kinds := [], alts := [], laidByText := true, laidKinds := [.data, .data, .data, .data, .sentinel, .sentinel, .pinned], laidTests := true, laidLooks := .later }
def FnExactParseTableUptoCardSaid : Prop := Claim7.holds Tryd.pinned (.plain (OpenSpec.upto fnExactParseTableSpec)) fnExactParseTableUptoCard
end Rows
end Go.Proofs.YtmjjmibgoeobpaaDoor
