/-
  No cell of these rows narrows 'for every input' (looked for: loops, veiled, ifaces, maps, wideKeys, modest, calm, conditions, laid).
  DERIVED. THE GIVEN ROWS OF THIS SEAT. 3 by the template 'for every input the law returns true; each argument reads behind the call as it read before'; 0 by the template 'total and deterministic' (their statements: YtmjjmibgoeobpaaTotals.lean).
  GIVEN WITH THE SEED: the statements are not yours to turn. If you find one false, say at which input.
  Laid BY PROGRAM, IN A SANDBOX (cutbox-rows.mjs): the forced cells as the released guide's own fill.sh prints them over the translation bca9c9f519e7699d… (all of the seat's roots in one cut). By AI agents, Wed Nov 11 2026. No macro, syntax, notation, axiom, sorry.
-/
import Derived.Test.YtmjjmibgoeobpaaChecked
import GoSem.Claim
import GoSem.ClaimJoined
import GoSem.ClaimMapViews
import Derived.JoinedTies
import Derived.KernelRfl
namespace Go.Proofs.Ytmjjmibgoeobpaa
/- THE CELL 'sum', in the pinned program and in every row, IS THE sha256 OF THE DUMP (.gsa) THAT YtmjjmibgoeobpaaProg.lean LOADS. Nothing in Lean hashes anything: it is a label: what it is worth is what the hold of that sum in a sandbox is worth. -/
noncomputable def Try.pinned : Pinned := { name := "ytmjjmibgoeobpaa", sum := "bca9c9f519e7699d7d5a2007652b1b7f65afd994711a5e3d17a945ae447984c7", checked := Try.checked }
namespace Rows
def none {H : Type} : Left H := { results := [], args := [] }

/-- 'laws.FnExactRenameStates': WHATEVER THE INPUT: true; the input reads as it did. -/
def fnExactRenameStatesSpec : ChangeSpec := { name := "fnExactRenameStates", fn := fun _ => fun
  | [d1, d2] => { results := [.lit (.bool true)], args := [d1, d2] }
  | _ => none }
def fnExactRenameStatesRow : OpenClaim := { program := "ytmjjmibgoeobpaa", sum := "bca9c9f519e7699d7d5a2007652b1b7f65afd994711a5e3d17a945ae447984c7", func := "loop.example/g01276/laws.FnExactRenameStates", spec := "fnExactRenameStates", inPlace := ["internal/bytealg.IndexByteString", "internal/bytealg.IndexString"], unfollowed := true, recurses := true, named := ["internal/bytealg.MaxLen"], apart := false }
def FnExactRenameStatesSaid : Prop := fnExactRenameStatesRow.holds Try.pinned (OpenSpec.ofChange fnExactRenameStatesSpec)

/-- ITS FALSE NEIGHBOUR: 'it returns false'. Refute it at one input. -/
def fnExactRenameStatesWrong : ChangeSpec := { name := "fnExactRenameStates", fn := fun _ => fun
  | [d1, d2] => { results := [.lit (.bool false)], args := [d1, d2] }
  | _ => none }
def FnExactRenameStatesWrongFalsely : Prop := fnExactRenameStatesRow.holds Try.pinned (OpenSpec.ofChange fnExactRenameStatesWrong)

/-- 'laws.FnExactRenameTints': WHATEVER THE INPUT: true; the input reads as it did. -/
def fnExactRenameTintsSpec : ChangeSpec := { name := "fnExactRenameTints", fn := fun _ => fun
  | [d1, d2] => { results := [.lit (.bool true)], args := [d1, d2] }
  | _ => none }
def fnExactRenameTintsRow : OpenClaim := { program := "ytmjjmibgoeobpaa", sum := "bca9c9f519e7699d7d5a2007652b1b7f65afd994711a5e3d17a945ae447984c7", func := "loop.example/g01276/laws.FnExactRenameTints", spec := "fnExactRenameTints", inPlace := ["internal/bytealg.IndexByteString", "internal/bytealg.IndexString"], unfollowed := true, recurses := true, named := ["internal/bytealg.MaxLen"], apart := false }
def FnExactRenameTintsSaid : Prop := fnExactRenameTintsRow.holds Try.pinned (OpenSpec.ofChange fnExactRenameTintsSpec)

/-- ITS FALSE NEIGHBOUR: 'it returns false'. Refute it at one input. -/
def fnExactRenameTintsWrong : ChangeSpec := { name := "fnExactRenameTints", fn := fun _ => fun
  | [d1, d2] => { results := [.lit (.bool false)], args := [d1, d2] }
  | _ => none }
def FnExactRenameTintsWrongFalsely : Prop := fnExactRenameTintsRow.holds Try.pinned (OpenSpec.ofChange fnExactRenameTintsWrong)

/-- 'laws.FnExactStatesReached': WHATEVER THE INPUT: true; the input reads as it did. -/
def fnExactStatesReachedSpec : ChangeSpec := { name := "fnExactStatesReached", fn := fun _ => fun
  | [d] => { results := [.lit (.bool true)], args := [d] }
  | _ => none }
def fnExactStatesReachedRow : OpenClaim := { program := "ytmjjmibgoeobpaa", sum := "bca9c9f519e7699d7d5a2007652b1b7f65afd994711a5e3d17a945ae447984c7", func := "loop.example/g01276/laws.FnExactStatesReached", spec := "fnExactStatesReached", inPlace := ["internal/bytealg.IndexByteString", "internal/bytealg.IndexString"], unfollowed := true, recurses := true, named := ["internal/bytealg.MaxLen"], apart := false }
def FnExactStatesReachedSaid : Prop := fnExactStatesReachedRow.holds Try.pinned (OpenSpec.ofChange fnExactStatesReachedSpec)

/-- ITS FALSE NEIGHBOUR: 'it returns false'. Refute it at one input. -/
def fnExactStatesReachedWrong : ChangeSpec := { name := "fnExactStatesReached", fn := fun _ => fun
  | [d] => { results := [.lit (.bool false)], args := [d] }
  | _ => none }
def FnExactStatesReachedWrongFalsely : Prop := fnExactStatesReachedRow.holds Try.pinned (OpenSpec.ofChange fnExactStatesReachedWrong)

/- THE SECOND FORM. 'bulk': how many values and letters a reading holds, each counted each time it is reached (what is shared counts as often as it is met; a slice's spare places count too). A statement '..UptoSaid' is the law's where the arguments, and the package variables that the reading takes, are together of bulk at most 1048576: NARROWER than '..Said'. Prove '..Said' where nothing that the law and all that it calls make is longer than what came in: it says more and counts as full. Else prove '..UptoSaid'. A law counts once. -/
mutual
def uptoBulk {H : Type} : DataW H → Nat
  | .lit (.string bytes) => bytes.length + 1
  | .lit _ => 1
  | .nil => 1
  | .ptr d => uptoBulk d + 1
  | .slice elems spare => uptoBulkAll elems + uptoBulkAll spare + 1
  | .agg parts => uptoBulkAll parts + 1
  | .iface _ d => uptoBulk d + 1
  | .map entries => uptoBulkEntries entries + 1
  | .held _ => 1
def uptoBulkAll {H : Type} : List (DataW H) → Nat
  | [] => 0
  | d :: r => uptoBulk d + uptoBulkAll r
def uptoBulkEntries {H : Type} : List (Lit × DataW H) → Nat
  | [] => 0
  | x :: r => uptoBulkEntry x + uptoBulkEntries r
def uptoBulkEntry {H : Type} : Lit × DataW H → Nat
  | (.string bytes, d) => bytes.length + uptoBulk d + 1
  | (_, d) => uptoBulk d + 1
 end
def uptoSmall : (H : Type) → List (DataW H) → Bool := fun _ ds => decide (uptoBulkAll ds ≤ 1048576)
def OpenSpec.upto (s : _root_.Go.ChangeSpec) : _root_.Go.OpenSpec := { _root_.Go.OpenSpec.ofChange s with cond := some uptoSmall }

/-- 'laws.FnExactRenameStates', WHERE WHAT IT READS IS OF BULK AT MOST 1048576: true; the input reads as it did. -/
def fnExactRenameStatesUptoRow : OpenClaim := { program := "ytmjjmibgoeobpaa", sum := "bca9c9f519e7699d7d5a2007652b1b7f65afd994711a5e3d17a945ae447984c7", func := "loop.example/g01276/laws.FnExactRenameStates", spec := "fnExactRenameStates", inPlace := ["internal/bytealg.IndexByteString", "internal/bytealg.IndexString"], unfollowed := true, recurses := true, named := ["internal/bytealg.MaxLen"], apart := false, narrowed := true }
def FnExactRenameStatesUptoSaid : Prop := fnExactRenameStatesUptoRow.holds Try.pinned (OpenSpec.upto fnExactRenameStatesSpec)

/-- 'laws.FnExactRenameTints', WHERE WHAT IT READS IS OF BULK AT MOST 1048576: true; the input reads as it did. -/
def fnExactRenameTintsUptoRow : OpenClaim := { program := "ytmjjmibgoeobpaa", sum := "bca9c9f519e7699d7d5a2007652b1b7f65afd994711a5e3d17a945ae447984c7", func := "loop.example/g01276/laws.FnExactRenameTints", spec := "fnExactRenameTints", inPlace := ["internal/bytealg.IndexByteString", "internal/bytealg.IndexString"], unfollowed := true, recurses := true, named := ["internal/bytealg.MaxLen"], apart := false, narrowed := true }
def FnExactRenameTintsUptoSaid : Prop := fnExactRenameTintsUptoRow.holds Try.pinned (OpenSpec.upto fnExactRenameTintsSpec)

/-- 'laws.FnExactStatesReached', WHERE WHAT IT READS IS OF BULK AT MOST 1048576: true; the input reads as it did. -/
def fnExactStatesReachedUptoRow : OpenClaim := { program := "ytmjjmibgoeobpaa", sum := "bca9c9f519e7699d7d5a2007652b1b7f65afd994711a5e3d17a945ae447984c7", func := "loop.example/g01276/laws.FnExactStatesReached", spec := "fnExactStatesReached", inPlace := ["internal/bytealg.IndexByteString", "internal/bytealg.IndexString"], unfollowed := true, recurses := true, named := ["internal/bytealg.MaxLen"], apart := false, narrowed := true }
def FnExactStatesReachedUptoSaid : Prop := fnExactStatesReachedUptoRow.holds Try.pinned (OpenSpec.upto fnExactStatesReachedSpec)

end Rows
end Go.Proofs.Ytmjjmibgoeobpaa
