/-
  No cell of these rows narrows 'for every input' (looked for: loops, veiled, ifaces, maps, wideKeys, modest, calm, conditions, laid).
  DERIVED. THE GIVEN ROWS OF THIS SEAT. 7 by the template 'for every input the law returns true; each argument reads behind the call as it read before'; 0 by the template 'total and deterministic' (their statements: YtanecddhfdlnlaaTotals.lean).
  GIVEN WITH THE SEED: the statements are not yours to turn. If you find one false, say at which input.
  Laid BY PROGRAM, IN A SANDBOX (cutbox-rows.mjs): the forced cells as the released guide's own fill.sh prints them over the translation 4a249061b67d4bed… (all of the seat's roots in one cut). By AI agents, Wed Nov 11 2026. No macro, syntax, notation, axiom, sorry.
-/
import Derived.Test.YtanecddhfdlnlaaChecked
import GoSem.Claim
import GoSem.ClaimJoined
import GoSem.ClaimMapViews
import Derived.JoinedTies
import Derived.KernelRfl
namespace Go.Proofs.Ytanecddhfdlnlaa
/- THE CELL 'sum', in the pinned program and in every row, IS THE sha256 OF THE DUMP (.gsa) THAT YtanecddhfdlnlaaProg.lean LOADS. Nothing in Lean hashes anything: it is a label: what it is worth is what the hold of that sum in a sandbox is worth. -/
noncomputable def Try.pinned : Pinned := { name := "ytanecddhfdlnlaa", sum := "4a249061b67d4bed75ae85749457107bffb0b1805c7b4f7ac9c31387d6b520aa", checked := Try.checked }
namespace Rows
def none {H : Type} : Left H := { results := [], args := [] }

/-- 'laws.FnExactRowOf': WHATEVER THE INPUT: true; the input reads as it did. -/
def fnExactRowOfSpec : ChangeSpec := { name := "fnExactRowOf", fn := fun _ => fun
  | [d1, d2, d3] => { results := [.lit (.bool true)], args := [d1, d2, d3] }
  | _ => none }
def fnExactRowOfRow : OpenClaim := { program := "ytanecddhfdlnlaa", sum := "4a249061b67d4bed75ae85749457107bffb0b1805c7b4f7ac9c31387d6b520aa", func := "loop.example/g01276/laws.FnExactRowOf", spec := "fnExactRowOf", inPlace := ["internal/bytealg.IndexByteString", "internal/bytealg.IndexString"], unfollowed := true, recurses := true, named := ["internal/bytealg.MaxLen"], apart := false }
def FnExactRowOfSaid : Prop := fnExactRowOfRow.holds Try.pinned (OpenSpec.ofChange fnExactRowOfSpec)

/-- ITS FALSE NEIGHBOUR: 'it returns false'. Refute it at one input. -/
def fnExactRowOfWrong : ChangeSpec := { name := "fnExactRowOf", fn := fun _ => fun
  | [d1, d2, d3] => { results := [.lit (.bool false)], args := [d1, d2, d3] }
  | _ => none }
def FnExactRowOfWrongFalsely : Prop := fnExactRowOfRow.holds Try.pinned (OpenSpec.ofChange fnExactRowOfWrong)

/-- 'laws.FnExactCanUndo': WHATEVER THE INPUT: true; the input reads as it did. -/
def fnExactCanUndoSpec : ChangeSpec := { name := "fnExactCanUndo", fn := fun _ => fun
  | [d] => { results := [.lit (.bool true)], args := [d] }
  | _ => none }
def fnExactCanUndoRow : OpenClaim := { program := "ytanecddhfdlnlaa", sum := "4a249061b67d4bed75ae85749457107bffb0b1805c7b4f7ac9c31387d6b520aa", func := "loop.example/g01276/laws.FnExactCanUndo", spec := "fnExactCanUndo", inPlace := ["internal/bytealg.IndexByteString", "internal/bytealg.IndexString"], unfollowed := true, recurses := true, named := ["internal/bytealg.MaxLen"], apart := false }
def FnExactCanUndoSaid : Prop := fnExactCanUndoRow.holds Try.pinned (OpenSpec.ofChange fnExactCanUndoSpec)

/-- ITS FALSE NEIGHBOUR: 'it returns false'. Refute it at one input. -/
def fnExactCanUndoWrong : ChangeSpec := { name := "fnExactCanUndo", fn := fun _ => fun
  | [d] => { results := [.lit (.bool false)], args := [d] }
  | _ => none }
def FnExactCanUndoWrongFalsely : Prop := fnExactCanUndoRow.holds Try.pinned (OpenSpec.ofChange fnExactCanUndoWrong)

/-- 'laws.FnExactIsScene': WHATEVER THE INPUT: true; the input reads as it did. -/
def fnExactIsSceneSpec : ChangeSpec := { name := "fnExactIsScene", fn := fun _ => fun
  | [d] => { results := [.lit (.bool true)], args := [d] }
  | _ => none }
def fnExactIsSceneRow : OpenClaim := { program := "ytanecddhfdlnlaa", sum := "4a249061b67d4bed75ae85749457107bffb0b1805c7b4f7ac9c31387d6b520aa", func := "loop.example/g01276/laws.FnExactIsScene", spec := "fnExactIsScene", inPlace := ["internal/bytealg.IndexByteString", "internal/bytealg.IndexString"], unfollowed := true, recurses := true, named := ["internal/bytealg.MaxLen"], apart := false }
def FnExactIsSceneSaid : Prop := fnExactIsSceneRow.holds Try.pinned (OpenSpec.ofChange fnExactIsSceneSpec)

/-- ITS FALSE NEIGHBOUR: 'it returns false'. Refute it at one input. -/
def fnExactIsSceneWrong : ChangeSpec := { name := "fnExactIsScene", fn := fun _ => fun
  | [d] => { results := [.lit (.bool false)], args := [d] }
  | _ => none }
def FnExactIsSceneWrongFalsely : Prop := fnExactIsSceneRow.holds Try.pinned (OpenSpec.ofChange fnExactIsSceneWrong)

/-- 'laws.FnExactRenameStates': WHATEVER THE INPUT: true; the input reads as it did. -/
def fnExactRenameStatesSpec : ChangeSpec := { name := "fnExactRenameStates", fn := fun _ => fun
  | [d1, d2] => { results := [.lit (.bool true)], args := [d1, d2] }
  | _ => none }
def fnExactRenameStatesRow : OpenClaim := { program := "ytanecddhfdlnlaa", sum := "4a249061b67d4bed75ae85749457107bffb0b1805c7b4f7ac9c31387d6b520aa", func := "loop.example/g01276/laws.FnExactRenameStates", spec := "fnExactRenameStates", inPlace := ["internal/bytealg.IndexByteString", "internal/bytealg.IndexString"], unfollowed := true, recurses := true, named := ["internal/bytealg.MaxLen"], apart := false }
def FnExactRenameStatesSaid : Prop := fnExactRenameStatesRow.holds Try.pinned (OpenSpec.ofChange fnExactRenameStatesSpec)

/-- ITS FALSE NEIGHBOUR: 'it returns false'. Refute it at one input. -/
def fnExactRenameStatesWrong : ChangeSpec := { name := "fnExactRenameStates", fn := fun _ => fun
  | [d1, d2] => { results := [.lit (.bool false)], args := [d1, d2] }
  | _ => none }
def FnExactRenameStatesWrongFalsely : Prop := fnExactRenameStatesRow.holds Try.pinned (OpenSpec.ofChange fnExactRenameStatesWrong)

/-- 'laws.FnExactRenameTints': WHATEVER THE INPUT: true; the input reads as it did. -/
def fnExactRenameTintsSpec : ChangeSpec := { name := "fnExactRenameTints", fn := fun _ => fun
  | [d1, d2] => { results := [.lit (.bool true)], args := [d1, d2] }
  | _ => none }
def fnExactRenameTintsRow : OpenClaim := { program := "ytanecddhfdlnlaa", sum := "4a249061b67d4bed75ae85749457107bffb0b1805c7b4f7ac9c31387d6b520aa", func := "loop.example/g01276/laws.FnExactRenameTints", spec := "fnExactRenameTints", inPlace := ["internal/bytealg.IndexByteString", "internal/bytealg.IndexString"], unfollowed := true, recurses := true, named := ["internal/bytealg.MaxLen"], apart := false }
def FnExactRenameTintsSaid : Prop := fnExactRenameTintsRow.holds Try.pinned (OpenSpec.ofChange fnExactRenameTintsSpec)

/-- ITS FALSE NEIGHBOUR: 'it returns false'. Refute it at one input. -/
def fnExactRenameTintsWrong : ChangeSpec := { name := "fnExactRenameTints", fn := fun _ => fun
  | [d1, d2] => { results := [.lit (.bool false)], args := [d1, d2] }
  | _ => none }
def FnExactRenameTintsWrongFalsely : Prop := fnExactRenameTintsRow.holds Try.pinned (OpenSpec.ofChange fnExactRenameTintsWrong)

/-- 'laws.FnExactEmptyScene': WHATEVER THE INPUT: true; the input reads as it did. -/
def fnExactEmptySceneSpec : ChangeSpec := { name := "fnExactEmptyScene", fn := fun _ => fun
  | [d1, d2, d3] => { results := [.lit (.bool true)], args := [d1, d2, d3] }
  | _ => none }
def fnExactEmptySceneRow : OpenClaim := { program := "ytanecddhfdlnlaa", sum := "4a249061b67d4bed75ae85749457107bffb0b1805c7b4f7ac9c31387d6b520aa", func := "loop.example/g01276/laws.FnExactEmptyScene", spec := "fnExactEmptyScene", inPlace := ["internal/bytealg.IndexByteString", "internal/bytealg.IndexString", "internal/abi.NoEscape", "internal/bytealg.MakeNoZero"], unfollowed := true, recurses := true, named := ["internal/bytealg.MaxLen"], apart := false }
def FnExactEmptySceneSaid : Prop := fnExactEmptySceneRow.holds Try.pinned (OpenSpec.ofChange fnExactEmptySceneSpec)

/-- ITS FALSE NEIGHBOUR: 'it returns false'. Refute it at one input. -/
def fnExactEmptySceneWrong : ChangeSpec := { name := "fnExactEmptyScene", fn := fun _ => fun
  | [d1, d2, d3] => { results := [.lit (.bool false)], args := [d1, d2, d3] }
  | _ => none }
def FnExactEmptySceneWrongFalsely : Prop := fnExactEmptySceneRow.holds Try.pinned (OpenSpec.ofChange fnExactEmptySceneWrong)

/-- 'laws.FnExactStatesReached': WHATEVER THE INPUT: true; the input reads as it did. -/
def fnExactStatesReachedSpec : ChangeSpec := { name := "fnExactStatesReached", fn := fun _ => fun
  | [d] => { results := [.lit (.bool true)], args := [d] }
  | _ => none }
def fnExactStatesReachedRow : OpenClaim := { program := "ytanecddhfdlnlaa", sum := "4a249061b67d4bed75ae85749457107bffb0b1805c7b4f7ac9c31387d6b520aa", func := "loop.example/g01276/laws.FnExactStatesReached", spec := "fnExactStatesReached", inPlace := ["internal/bytealg.IndexByteString", "internal/bytealg.IndexString"], unfollowed := true, recurses := true, named := ["internal/bytealg.MaxLen"], apart := false }
def FnExactStatesReachedSaid : Prop := fnExactStatesReachedRow.holds Try.pinned (OpenSpec.ofChange fnExactStatesReachedSpec)

/-- ITS FALSE NEIGHBOUR: 'it returns false'. Refute it at one input. -/
def fnExactStatesReachedWrong : ChangeSpec := { name := "fnExactStatesReached", fn := fun _ => fun
  | [d] => { results := [.lit (.bool false)], args := [d] }
  | _ => none }
def FnExactStatesReachedWrongFalsely : Prop := fnExactStatesReachedRow.holds Try.pinned (OpenSpec.ofChange fnExactStatesReachedWrong)

/- THE SECOND FORM. 'bulk': how many values and letters a reading holds, each counted each time it is reached (what is shared counts as often as it is met; a slice's spare places count too). A statement '..UptoSaid' is the law's where the arguments, and the package variables that the reading takes, are together of bulk at most 1048576: NARROWER than '..Said'. Prove '..Said' where nothing that the law and all that it calls make is longer than what came in: it says more and counts as full. Else prove '..UptoSaid'. A law counts once. -/
mutual
def uptoBulk {H : Type} : DataW H → Nat
  | .lit (.string bytes) => bytes.length + 1
  | .lit _ => 1
  | .nil => 1
  | .ptr d => uptoBulk d + 1
  | .slice elems spare => uptoBulkAll elems + uptoBulkAll spare + 1
  | .agg parts => uptoBulkAll parts + 1
  | .iface _ d => uptoBulk d + 1
  | .map entries => uptoBulkEntries entries + 1
  | .held _ => 1
def uptoBulkAll {H : Type} : List (DataW H) → Nat
  | [] => 0
  | d :: r => uptoBulk d + uptoBulkAll r
def uptoBulkEntries {H : Type} : List (Lit × DataW H) → Nat
  | [] => 0
  | x :: r => uptoBulkEntry x + uptoBulkEntries r
def uptoBulkEntry {H : Type} : Lit × DataW H → Nat
  | (.string bytes, d) => bytes.length + uptoBulk d + 1
  | (_, d) => uptoBulk d + 1
 end
def uptoSmall : (H : Type) → List (DataW H) → Bool := fun _ ds => decide (uptoBulkAll ds ≤ 1048576)
def OpenSpec.upto (s : _root_.Go.ChangeSpec) : _root_.Go.OpenSpec := { _root_.Go.OpenSpec.ofChange s with cond := some uptoSmall }

/-- 'laws.FnExactRowOf', WHERE WHAT IT READS IS OF BULK AT MOST 1048576: true; the input reads as it did. -/
def fnExactRowOfUptoRow : OpenClaim := { program := "ytanecddhfdlnlaa", sum := "4a249061b67d4bed75ae85749457107bffb0b1805c7b4f7ac9c31387d6b520aa", func := "loop.example/g01276/laws.FnExactRowOf", spec := "fnExactRowOf", inPlace := ["internal/bytealg.IndexByteString", "internal/bytealg.IndexString"], unfollowed := true, recurses := true, named := ["internal/bytealg.MaxLen"], apart := false, narrowed := true }
def FnExactRowOfUptoSaid : Prop := fnExactRowOfUptoRow.holds Try.pinned (OpenSpec.upto fnExactRowOfSpec)

/-- 'laws.FnExactCanUndo', WHERE WHAT IT READS IS OF BULK AT MOST 1048576: true; the input reads as it did. -/
def fnExactCanUndoUptoRow : OpenClaim := { program := "ytanecddhfdlnlaa", sum := "4a249061b67d4bed75ae85749457107bffb0b1805c7b4f7ac9c31387d6b520aa", func := "loop.example/g01276/laws.FnExactCanUndo", spec := "fnExactCanUndo", inPlace := ["internal/bytealg.IndexByteString", "internal/bytealg.IndexString"], unfollowed := true, recurses := true, named := ["internal/bytealg.MaxLen"], apart := false, narrowed := true }
def FnExactCanUndoUptoSaid : Prop := fnExactCanUndoUptoRow.holds Try.pinned (OpenSpec.upto fnExactCanUndoSpec)

/-- 'laws.FnExactIsScene', WHERE WHAT IT READS IS OF BULK AT MOST 1048576: true; the input reads as it did. -/
def fnExactIsSceneUptoRow : OpenClaim := { program := "ytanecddhfdlnlaa", sum := "4a249061b67d4bed75ae85749457107bffb0b1805c7b4f7ac9c31387d6b520aa", func := "loop.example/g01276/laws.FnExactIsScene", spec := "fnExactIsScene", inPlace := ["internal/bytealg.IndexByteString", "internal/bytealg.IndexString"], unfollowed := true, recurses := true, named := ["internal/bytealg.MaxLen"], apart := false, narrowed := true }
def FnExactIsSceneUptoSaid : Prop := fnExactIsSceneUptoRow.holds Try.pinned (OpenSpec.upto fnExactIsSceneSpec)

/-- 'laws.FnExactRenameStates', WHERE WHAT IT READS IS OF BULK AT MOST 1048576: true; the input reads as it did. -/
def fnExactRenameStatesUptoRow : OpenClaim := { program := "ytanecddhfdlnlaa", sum := "4a249061b67d4bed75ae85749457107bffb0b1805c7b4f7ac9c31387d6b520aa", func := "loop.example/g01276/laws.FnExactRenameStates", spec := "fnExactRenameStates", inPlace := ["internal/bytealg.IndexByteString", "internal/bytealg.IndexString"], unfollowed := true, recurses := true, named := ["internal/bytealg.MaxLen"], apart := false, narrowed := true }
def FnExactRenameStatesUptoSaid : Prop := fnExactRenameStatesUptoRow.holds Try.pinned (OpenSpec.upto fnExactRenameStatesSpec)

/-- 'laws.FnExactRenameTints', WHERE WHAT IT READS IS OF BULK AT MOST 1048576: true; the input reads as it did. -/
def fnExactRenameTintsUptoRow : OpenClaim := { program := "ytanecddhfdlnlaa", sum := "4a249061b67d4bed75ae85749457107bffb0b1805c7b4f7ac9c31387d6b520aa", func := "loop.example/g01276/laws.FnExactRenameTints", spec := "fnExactRenameTints", inPlace := ["internal/bytealg.IndexByteString", "internal/bytealg.IndexString"], unfollowed := true, recurses := true, named := ["internal/bytealg.MaxLen"], apart := false, narrowed := true }
def FnExactRenameTintsUptoSaid : Prop := fnExactRenameTintsUptoRow.holds Try.pinned (OpenSpec.upto fnExactRenameTintsSpec)

/-- 'laws.FnExactEmptyScene', WHERE WHAT IT READS IS OF BULK AT MOST 1048576: true; the input reads as it did. -/
def fnExactEmptySceneUptoRow : OpenClaim := { program := "ytanecddhfdlnlaa", sum := "4a249061b67d4bed75ae85749457107bffb0b1805c7b4f7ac9c31387d6b520aa", func := "loop.example/g01276/laws.FnExactEmptyScene", spec := "fnExactEmptyScene", inPlace := ["internal/bytealg.IndexByteString", "internal/bytealg.IndexString", "internal/abi.NoEscape", "internal/bytealg.MakeNoZero"], unfollowed := true, recurses := true, named := ["internal/bytealg.MaxLen"], apart := false, narrowed := true }
def FnExactEmptySceneUptoSaid : Prop := fnExactEmptySceneUptoRow.holds Try.pinned (OpenSpec.upto fnExactEmptySceneSpec)

/-- 'laws.FnExactStatesReached', WHERE WHAT IT READS IS OF BULK AT MOST 1048576: true; the input reads as it did. -/
def fnExactStatesReachedUptoRow : OpenClaim := { program := "ytanecddhfdlnlaa", sum := "4a249061b67d4bed75ae85749457107bffb0b1805c7b4f7ac9c31387d6b520aa", func := "loop.example/g01276/laws.FnExactStatesReached", spec := "fnExactStatesReached", inPlace := ["internal/bytealg.IndexByteString", "internal/bytealg.IndexString"], unfollowed := true, recurses := true, named := ["internal/bytealg.MaxLen"], apart := false, narrowed := true }
def FnExactStatesReachedUptoSaid : Prop := fnExactStatesReachedUptoRow.holds Try.pinned (OpenSpec.upto fnExactStatesReachedSpec)

end Rows
end Go.Proofs.Ytanecddhfdlnlaa
