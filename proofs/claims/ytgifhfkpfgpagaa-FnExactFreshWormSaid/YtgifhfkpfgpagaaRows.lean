/-
  No cell of these rows narrows 'for every input' (looked for: loops, veiled, ifaces, maps, wideKeys, modest, calm, conditions, laid).
  DERIVED. THE GIVEN ROWS OF THIS SEAT. 14 by the template 'for every input the law returns true; each argument reads behind the call as it read before'; 0 by the template 'total and deterministic' (their statements: YtgifhfkpfgpagaaTotals.lean).
  GIVEN WITH THE SEED: the statements are not yours to turn. If you find one false, say at which input.
  Laid BY PROGRAM, IN A SANDBOX (cutbox-rows.mjs): the forced cells as the released guide's own fill.sh prints them over the translation 6728c314d26c281f… (all of the seat's roots in one cut). By AI agents, Wed Nov 11 2026. No macro, syntax, notation, axiom, sorry.
-/
import Derived.Test.YtgifhfkpfgpagaaChecked
import GoSem.Claim
import GoSem.ClaimJoined
import GoSem.ClaimMapViews
import Derived.JoinedTies
import Derived.KernelRfl
namespace Go.Proofs.Ytgifhfkpfgpagaa
/- THE CELL 'sum', in the pinned program and in every row, IS THE sha256 OF THE DUMP (.gsa) THAT YtgifhfkpfgpagaaProg.lean LOADS. Nothing in Lean hashes anything: it is a label: what it is worth is what the hold of that sum in a sandbox is worth. -/
noncomputable def Try.pinned : Pinned := { name := "ytgifhfkpfgpagaa", sum := "6728c314d26c281f03c2b14e5ad020fdd6b23e49339e0755c745bdc7b78a2dcb", checked := Try.checked }
namespace Rows
def none {H : Type} : Left H := { results := [], args := [] }

/-- 'laws.FnExactIsTaste': WHATEVER THE INPUT: true; the input reads as it did. -/
def fnExactIsTasteSpec : ChangeSpec := { name := "fnExactIsTaste", fn := fun _ => fun
  | [d] => { results := [.lit (.bool true)], args := [d] }
  | _ => none }
def fnExactIsTasteRow : OpenClaim := { program := "ytgifhfkpfgpagaa", sum := "6728c314d26c281f03c2b14e5ad020fdd6b23e49339e0755c745bdc7b78a2dcb", func := "loop.example/g01276/laws.FnExactIsTaste", spec := "fnExactIsTaste", apart := false }
def FnExactIsTasteSaid : Prop := fnExactIsTasteRow.holds Try.pinned (OpenSpec.ofChange fnExactIsTasteSpec)

/-- ITS FALSE NEIGHBOUR: 'it returns false'. Refute it at one input. -/
def fnExactIsTasteWrong : ChangeSpec := { name := "fnExactIsTaste", fn := fun _ => fun
  | [d] => { results := [.lit (.bool false)], args := [d] }
  | _ => none }
def FnExactIsTasteWrongFalsely : Prop := fnExactIsTasteRow.holds Try.pinned (OpenSpec.ofChange fnExactIsTasteWrong)

/-- 'laws.FnExactIsWorm': WHATEVER THE INPUT: true; the input reads as it did. -/
def fnExactIsWormSpec : ChangeSpec := { name := "fnExactIsWorm", fn := fun _ => fun
  | [d] => { results := [.lit (.bool true)], args := [d] }
  | _ => none }
def fnExactIsWormRow : OpenClaim := { program := "ytgifhfkpfgpagaa", sum := "6728c314d26c281f03c2b14e5ad020fdd6b23e49339e0755c745bdc7b78a2dcb", func := "loop.example/g01276/laws.FnExactIsWorm", spec := "fnExactIsWorm", apart := false }
def FnExactIsWormSaid : Prop := fnExactIsWormRow.holds Try.pinned (OpenSpec.ofChange fnExactIsWormSpec)

/-- ITS FALSE NEIGHBOUR: 'it returns false'. Refute it at one input. -/
def fnExactIsWormWrong : ChangeSpec := { name := "fnExactIsWorm", fn := fun _ => fun
  | [d] => { results := [.lit (.bool false)], args := [d] }
  | _ => none }
def FnExactIsWormWrongFalsely : Prop := fnExactIsWormRow.holds Try.pinned (OpenSpec.ofChange fnExactIsWormWrong)

/-- 'laws.FnExactLinesAt': WHATEVER THE INPUT: true; the input reads as it did. -/
def fnExactLinesAtSpec : ChangeSpec := { name := "fnExactLinesAt", fn := fun _ => fun
  | [d1, d2, d3] => { results := [.lit (.bool true)], args := [d1, d2, d3] }
  | _ => none }
def fnExactLinesAtRow : OpenClaim := { program := "ytgifhfkpfgpagaa", sum := "6728c314d26c281f03c2b14e5ad020fdd6b23e49339e0755c745bdc7b78a2dcb", func := "loop.example/g01276/laws.FnExactLinesAt", spec := "fnExactLinesAt", apart := false }
def FnExactLinesAtSaid : Prop := fnExactLinesAtRow.holds Try.pinned (OpenSpec.ofChange fnExactLinesAtSpec)

/-- ITS FALSE NEIGHBOUR: 'it returns false'. Refute it at one input. -/
def fnExactLinesAtWrong : ChangeSpec := { name := "fnExactLinesAt", fn := fun _ => fun
  | [d1, d2, d3] => { results := [.lit (.bool false)], args := [d1, d2, d3] }
  | _ => none }
def FnExactLinesAtWrongFalsely : Prop := fnExactLinesAtRow.holds Try.pinned (OpenSpec.ofChange fnExactLinesAtWrong)

/-- 'laws.FnExactPiecesLeft': WHATEVER THE INPUT: true; the input reads as it did. -/
def fnExactPiecesLeftSpec : ChangeSpec := { name := "fnExactPiecesLeft", fn := fun _ => fun
  | [d] => { results := [.lit (.bool true)], args := [d] }
  | _ => none }
def fnExactPiecesLeftRow : OpenClaim := { program := "ytgifhfkpfgpagaa", sum := "6728c314d26c281f03c2b14e5ad020fdd6b23e49339e0755c745bdc7b78a2dcb", func := "loop.example/g01276/laws.FnExactPiecesLeft", spec := "fnExactPiecesLeft", apart := false }
def FnExactPiecesLeftSaid : Prop := fnExactPiecesLeftRow.holds Try.pinned (OpenSpec.ofChange fnExactPiecesLeftSpec)

/-- ITS FALSE NEIGHBOUR: 'it returns false'. Refute it at one input. -/
def fnExactPiecesLeftWrong : ChangeSpec := { name := "fnExactPiecesLeft", fn := fun _ => fun
  | [d] => { results := [.lit (.bool false)], args := [d] }
  | _ => none }
def FnExactPiecesLeftWrongFalsely : Prop := fnExactPiecesLeftRow.holds Try.pinned (OpenSpec.ofChange fnExactPiecesLeftWrong)

/-- 'laws.FnExactOddNodes': WHATEVER THE INPUT: true; the input reads as it did. -/
def fnExactOddNodesSpec : ChangeSpec := { name := "fnExactOddNodes", fn := fun _ => fun
  | [d] => { results := [.lit (.bool true)], args := [d] }
  | _ => none }
def fnExactOddNodesRow : OpenClaim := { program := "ytgifhfkpfgpagaa", sum := "6728c314d26c281f03c2b14e5ad020fdd6b23e49339e0755c745bdc7b78a2dcb", func := "loop.example/g01276/laws.FnExactOddNodes", spec := "fnExactOddNodes", apart := false }
def FnExactOddNodesSaid : Prop := fnExactOddNodesRow.holds Try.pinned (OpenSpec.ofChange fnExactOddNodesSpec)

/-- ITS FALSE NEIGHBOUR: 'it returns false'. Refute it at one input. -/
def fnExactOddNodesWrong : ChangeSpec := { name := "fnExactOddNodes", fn := fun _ => fun
  | [d] => { results := [.lit (.bool false)], args := [d] }
  | _ => none }
def FnExactOddNodesWrongFalsely : Prop := fnExactOddNodesRow.holds Try.pinned (OpenSpec.ofChange fnExactOddNodesWrong)

/-- 'laws.FnExactGiveBack': WHATEVER THE INPUT: true; the input reads as it did. -/
def fnExactGiveBackSpec : ChangeSpec := { name := "fnExactGiveBack", fn := fun _ => fun
  | [d1, d2] => { results := [.lit (.bool true)], args := [d1, d2] }
  | _ => none }
def fnExactGiveBackRow : OpenClaim := { program := "ytgifhfkpfgpagaa", sum := "6728c314d26c281f03c2b14e5ad020fdd6b23e49339e0755c745bdc7b78a2dcb", func := "loop.example/g01276/laws.FnExactGiveBack", spec := "fnExactGiveBack", apart := false }
def FnExactGiveBackSaid : Prop := fnExactGiveBackRow.holds Try.pinned (OpenSpec.ofChange fnExactGiveBackSpec)

/-- ITS FALSE NEIGHBOUR: 'it returns false'. Refute it at one input. -/
def fnExactGiveBackWrong : ChangeSpec := { name := "fnExactGiveBack", fn := fun _ => fun
  | [d1, d2] => { results := [.lit (.bool false)], args := [d1, d2] }
  | _ => none }
def FnExactGiveBackWrongFalsely : Prop := fnExactGiveBackRow.holds Try.pinned (OpenSpec.ofChange fnExactGiveBackWrong)

/-- 'laws.FnExactFreshWorm': WHATEVER THE INPUT: true; the input reads as it did. -/
def fnExactFreshWormSpec : ChangeSpec := { name := "fnExactFreshWorm", fn := fun _ => fun
  | [d1, d2] => { results := [.lit (.bool true)], args := [d1, d2] }
  | _ => none }
def fnExactFreshWormRow : OpenClaim := { program := "ytgifhfkpfgpagaa", sum := "6728c314d26c281f03c2b14e5ad020fdd6b23e49339e0755c745bdc7b78a2dcb", func := "loop.example/g01276/laws.FnExactFreshWorm", spec := "fnExactFreshWorm", inPlace := ["internal/abi.NoEscape", "internal/bytealg.MakeNoZero"], apart := false }
def FnExactFreshWormSaid : Prop := fnExactFreshWormRow.holds Try.pinned (OpenSpec.ofChange fnExactFreshWormSpec)

/-- ITS FALSE NEIGHBOUR: 'it returns false'. Refute it at one input. -/
def fnExactFreshWormWrong : ChangeSpec := { name := "fnExactFreshWorm", fn := fun _ => fun
  | [d1, d2] => { results := [.lit (.bool false)], args := [d1, d2] }
  | _ => none }
def FnExactFreshWormWrongFalsely : Prop := fnExactFreshWormRow.holds Try.pinned (OpenSpec.ofChange fnExactFreshWormWrong)

/-- 'laws.FnExactLinesLeft': WHATEVER THE INPUT: true; the input reads as it did. -/
def fnExactLinesLeftSpec : ChangeSpec := { name := "fnExactLinesLeft", fn := fun _ => fun
  | [d] => { results := [.lit (.bool true)], args := [d] }
  | _ => none }
def fnExactLinesLeftRow : OpenClaim := { program := "ytgifhfkpfgpagaa", sum := "6728c314d26c281f03c2b14e5ad020fdd6b23e49339e0755c745bdc7b78a2dcb", func := "loop.example/g01276/laws.FnExactLinesLeft", spec := "fnExactLinesLeft", inPlace := ["internal/bytealg.CountString", "internal/bytealg.IndexByteString", "internal/bytealg.IndexString"], named := ["internal/bytealg.MaxLen"], apart := false }
def FnExactLinesLeftSaid : Prop := fnExactLinesLeftRow.holds Try.pinned (OpenSpec.ofChange fnExactLinesLeftSpec)

/-- ITS FALSE NEIGHBOUR: 'it returns false'. Refute it at one input. -/
def fnExactLinesLeftWrong : ChangeSpec := { name := "fnExactLinesLeft", fn := fun _ => fun
  | [d] => { results := [.lit (.bool false)], args := [d] }
  | _ => none }
def FnExactLinesLeftWrongFalsely : Prop := fnExactLinesLeftRow.holds Try.pinned (OpenSpec.ofChange fnExactLinesLeftWrong)

/-- 'laws.FnExactEatLine': WHATEVER THE INPUT: true; the input reads as it did. -/
def fnExactEatLineSpec : ChangeSpec := { name := "fnExactEatLine", fn := fun _ => fun
  | [d1, d2] => { results := [.lit (.bool true)], args := [d1, d2] }
  | _ => none }
def fnExactEatLineRow : OpenClaim := { program := "ytgifhfkpfgpagaa", sum := "6728c314d26c281f03c2b14e5ad020fdd6b23e49339e0755c745bdc7b78a2dcb", func := "loop.example/g01276/laws.FnExactEatLine", spec := "fnExactEatLine", apart := false }
def FnExactEatLineSaid : Prop := fnExactEatLineRow.holds Try.pinned (OpenSpec.ofChange fnExactEatLineSpec)

/-- ITS FALSE NEIGHBOUR: 'it returns false'. Refute it at one input. -/
def fnExactEatLineWrong : ChangeSpec := { name := "fnExactEatLine", fn := fun _ => fun
  | [d1, d2] => { results := [.lit (.bool false)], args := [d1, d2] }
  | _ => none }
def FnExactEatLineWrongFalsely : Prop := fnExactEatLineRow.holds Try.pinned (OpenSpec.ofChange fnExactEatLineWrong)

/-- 'laws.FnExactWormAfter': WHATEVER THE INPUT: true; the input reads as it did. -/
def fnExactWormAfterSpec : ChangeSpec := { name := "fnExactWormAfter", fn := fun _ => fun
  | [d1, d2, d3] => { results := [.lit (.bool true)], args := [d1, d2, d3] }
  | _ => none }
def fnExactWormAfterRow : OpenClaim := { program := "ytgifhfkpfgpagaa", sum := "6728c314d26c281f03c2b14e5ad020fdd6b23e49339e0755c745bdc7b78a2dcb", func := "loop.example/g01276/laws.FnExactWormAfter", spec := "fnExactWormAfter", apart := false }
def FnExactWormAfterSaid : Prop := fnExactWormAfterRow.holds Try.pinned (OpenSpec.ofChange fnExactWormAfterSpec)

/-- ITS FALSE NEIGHBOUR: 'it returns false'. Refute it at one input. -/
def fnExactWormAfterWrong : ChangeSpec := { name := "fnExactWormAfter", fn := fun _ => fun
  | [d1, d2, d3] => { results := [.lit (.bool false)], args := [d1, d2, d3] }
  | _ => none }
def FnExactWormAfterWrongFalsely : Prop := fnExactWormAfterRow.holds Try.pinned (OpenSpec.ofChange fnExactWormAfterWrong)

/-- 'laws.FnExactLifeOf': WHATEVER THE INPUT: true; the input reads as it did. -/
def fnExactLifeOfSpec : ChangeSpec := { name := "fnExactLifeOf", fn := fun _ => fun
  | [d1, d2] => { results := [.lit (.bool true)], args := [d1, d2] }
  | _ => none }
def fnExactLifeOfRow : OpenClaim := { program := "ytgifhfkpfgpagaa", sum := "6728c314d26c281f03c2b14e5ad020fdd6b23e49339e0755c745bdc7b78a2dcb", func := "loop.example/g01276/laws.FnExactLifeOf", spec := "fnExactLifeOf", apart := false }
def FnExactLifeOfSaid : Prop := fnExactLifeOfRow.holds Try.pinned (OpenSpec.ofChange fnExactLifeOfSpec)

/-- ITS FALSE NEIGHBOUR: 'it returns false'. Refute it at one input. -/
def fnExactLifeOfWrong : ChangeSpec := { name := "fnExactLifeOf", fn := fun _ => fun
  | [d1, d2] => { results := [.lit (.bool false)], args := [d1, d2] }
  | _ => none }
def FnExactLifeOfWrongFalsely : Prop := fnExactLifeOfRow.holds Try.pinned (OpenSpec.ofChange fnExactLifeOfWrong)

/-- 'laws.FnExactMealsOfWorm': WHATEVER THE INPUT: true; the input reads as it did. -/
def fnExactMealsOfWormSpec : ChangeSpec := { name := "fnExactMealsOfWorm", fn := fun _ => fun
  | [d1, d2] => { results := [.lit (.bool true)], args := [d1, d2] }
  | _ => none }
def fnExactMealsOfWormRow : OpenClaim := { program := "ytgifhfkpfgpagaa", sum := "6728c314d26c281f03c2b14e5ad020fdd6b23e49339e0755c745bdc7b78a2dcb", func := "loop.example/g01276/laws.FnExactMealsOfWorm", spec := "fnExactMealsOfWorm", apart := false }
def FnExactMealsOfWormSaid : Prop := fnExactMealsOfWormRow.holds Try.pinned (OpenSpec.ofChange fnExactMealsOfWormSpec)

/-- ITS FALSE NEIGHBOUR: 'it returns false'. Refute it at one input. -/
def fnExactMealsOfWormWrong : ChangeSpec := { name := "fnExactMealsOfWorm", fn := fun _ => fun
  | [d1, d2] => { results := [.lit (.bool false)], args := [d1, d2] }
  | _ => none }
def FnExactMealsOfWormWrongFalsely : Prop := fnExactMealsOfWormRow.holds Try.pinned (OpenSpec.ofChange fnExactMealsOfWormWrong)

/-- 'laws.FnExactDeathOf': WHATEVER THE INPUT: true; the input reads as it did. -/
def fnExactDeathOfSpec : ChangeSpec := { name := "fnExactDeathOf", fn := fun _ => fun
  | [d1, d2] => { results := [.lit (.bool true)], args := [d1, d2] }
  | _ => none }
def fnExactDeathOfRow : OpenClaim := { program := "ytgifhfkpfgpagaa", sum := "6728c314d26c281f03c2b14e5ad020fdd6b23e49339e0755c745bdc7b78a2dcb", func := "loop.example/g01276/laws.FnExactDeathOf", spec := "fnExactDeathOf", apart := false }
def FnExactDeathOfSaid : Prop := fnExactDeathOfRow.holds Try.pinned (OpenSpec.ofChange fnExactDeathOfSpec)

/-- ITS FALSE NEIGHBOUR: 'it returns false'. Refute it at one input. -/
def fnExactDeathOfWrong : ChangeSpec := { name := "fnExactDeathOf", fn := fun _ => fun
  | [d1, d2] => { results := [.lit (.bool false)], args := [d1, d2] }
  | _ => none }
def FnExactDeathOfWrongFalsely : Prop := fnExactDeathOfRow.holds Try.pinned (OpenSpec.ofChange fnExactDeathOfWrong)

/-- 'laws.FnExactShiftWorm': WHATEVER THE INPUT: true; the input reads as it did. -/
def fnExactShiftWormSpec : ChangeSpec := { name := "fnExactShiftWorm", fn := fun _ => fun
  | [d1, d2, d3] => { results := [.lit (.bool true)], args := [d1, d2, d3] }
  | _ => none }
def fnExactShiftWormRow : OpenClaim := { program := "ytgifhfkpfgpagaa", sum := "6728c314d26c281f03c2b14e5ad020fdd6b23e49339e0755c745bdc7b78a2dcb", func := "loop.example/g01276/laws.FnExactShiftWorm", spec := "fnExactShiftWorm", unfollowed := true, recurses := true, apart := false }
def FnExactShiftWormSaid : Prop := fnExactShiftWormRow.holds Try.pinned (OpenSpec.ofChange fnExactShiftWormSpec)

/-- ITS FALSE NEIGHBOUR: 'it returns false'. Refute it at one input. -/
def fnExactShiftWormWrong : ChangeSpec := { name := "fnExactShiftWorm", fn := fun _ => fun
  | [d1, d2, d3] => { results := [.lit (.bool false)], args := [d1, d2, d3] }
  | _ => none }
def FnExactShiftWormWrongFalsely : Prop := fnExactShiftWormRow.holds Try.pinned (OpenSpec.ofChange fnExactShiftWormWrong)

/- THE SECOND FORM. 'bulk': how many values and letters a reading holds, each counted each time it is reached (what is shared counts as often as it is met; a slice's spare places count too). A statement '..UptoSaid' is the law's where the arguments, and the package variables that the reading takes, are together of bulk at most 1048576: NARROWER than '..Said'. Prove '..Said' where nothing that the law and all that it calls make is longer than what came in: it says more and counts as full. Else prove '..UptoSaid'. A law counts once. -/
mutual
def uptoBulk {H : Type} : DataW H → Nat
  | .lit (.string bytes) => bytes.length + 1
  | .lit _ => 1
  | .nil => 1
  | .ptr d => uptoBulk d + 1
  | .slice elems spare => uptoBulkAll elems + uptoBulkAll spare + 1
  | .agg parts => uptoBulkAll parts + 1
  | .iface _ d => uptoBulk d + 1
  | .map entries => uptoBulkEntries entries + 1
  | .held _ => 1
def uptoBulkAll {H : Type} : List (DataW H) → Nat
  | [] => 0
  | d :: r => uptoBulk d + uptoBulkAll r
def uptoBulkEntries {H : Type} : List (Lit × DataW H) → Nat
  | [] => 0
  | x :: r => uptoBulkEntry x + uptoBulkEntries r
def uptoBulkEntry {H : Type} : Lit × DataW H → Nat
  | (.string bytes, d) => bytes.length + uptoBulk d + 1
  | (_, d) => uptoBulk d + 1
 end
def uptoSmall : (H : Type) → List (DataW H) → Bool := fun _ ds => decide (uptoBulkAll ds ≤ 1048576)
def OpenSpec.upto (s : _root_.Go.ChangeSpec) : _root_.Go.OpenSpec := { _root_.Go.OpenSpec.ofChange s with cond := some uptoSmall }

/-- 'laws.FnExactIsTaste', WHERE WHAT IT READS IS OF BULK AT MOST 1048576: true; the input reads as it did. -/
def fnExactIsTasteUptoRow : OpenClaim := { program := "ytgifhfkpfgpagaa", sum := "6728c314d26c281f03c2b14e5ad020fdd6b23e49339e0755c745bdc7b78a2dcb", func := "loop.example/g01276/laws.FnExactIsTaste", spec := "fnExactIsTaste", apart := false, narrowed := true }
def FnExactIsTasteUptoSaid : Prop := fnExactIsTasteUptoRow.holds Try.pinned (OpenSpec.upto fnExactIsTasteSpec)

/-- 'laws.FnExactIsWorm', WHERE WHAT IT READS IS OF BULK AT MOST 1048576: true; the input reads as it did. -/
def fnExactIsWormUptoRow : OpenClaim := { program := "ytgifhfkpfgpagaa", sum := "6728c314d26c281f03c2b14e5ad020fdd6b23e49339e0755c745bdc7b78a2dcb", func := "loop.example/g01276/laws.FnExactIsWorm", spec := "fnExactIsWorm", apart := false, narrowed := true }
def FnExactIsWormUptoSaid : Prop := fnExactIsWormUptoRow.holds Try.pinned (OpenSpec.upto fnExactIsWormSpec)

/-- 'laws.FnExactLinesAt', WHERE WHAT IT READS IS OF BULK AT MOST 1048576: true; the input reads as it did. -/
def fnExactLinesAtUptoRow : OpenClaim := { program := "ytgifhfkpfgpagaa", sum := "6728c314d26c281f03c2b14e5ad020fdd6b23e49339e0755c745bdc7b78a2dcb", func := "loop.example/g01276/laws.FnExactLinesAt", spec := "fnExactLinesAt", apart := false, narrowed := true }
def FnExactLinesAtUptoSaid : Prop := fnExactLinesAtUptoRow.holds Try.pinned (OpenSpec.upto fnExactLinesAtSpec)

/-- 'laws.FnExactPiecesLeft', WHERE WHAT IT READS IS OF BULK AT MOST 1048576: true; the input reads as it did. -/
def fnExactPiecesLeftUptoRow : OpenClaim := { program := "ytgifhfkpfgpagaa", sum := "6728c314d26c281f03c2b14e5ad020fdd6b23e49339e0755c745bdc7b78a2dcb", func := "loop.example/g01276/laws.FnExactPiecesLeft", spec := "fnExactPiecesLeft", apart := false, narrowed := true }
def FnExactPiecesLeftUptoSaid : Prop := fnExactPiecesLeftUptoRow.holds Try.pinned (OpenSpec.upto fnExactPiecesLeftSpec)

/-- 'laws.FnExactOddNodes', WHERE WHAT IT READS IS OF BULK AT MOST 1048576: true; the input reads as it did. -/
def fnExactOddNodesUptoRow : OpenClaim := { program := "ytgifhfkpfgpagaa", sum := "6728c314d26c281f03c2b14e5ad020fdd6b23e49339e0755c745bdc7b78a2dcb", func := "loop.example/g01276/laws.FnExactOddNodes", spec := "fnExactOddNodes", apart := false, narrowed := true }
def FnExactOddNodesUptoSaid : Prop := fnExactOddNodesUptoRow.holds Try.pinned (OpenSpec.upto fnExactOddNodesSpec)

/-- 'laws.FnExactGiveBack', WHERE WHAT IT READS IS OF BULK AT MOST 1048576: true; the input reads as it did. -/
def fnExactGiveBackUptoRow : OpenClaim := { program := "ytgifhfkpfgpagaa", sum := "6728c314d26c281f03c2b14e5ad020fdd6b23e49339e0755c745bdc7b78a2dcb", func := "loop.example/g01276/laws.FnExactGiveBack", spec := "fnExactGiveBack", apart := false, narrowed := true }
def FnExactGiveBackUptoSaid : Prop := fnExactGiveBackUptoRow.holds Try.pinned (OpenSpec.upto fnExactGiveBackSpec)

/-- 'laws.FnExactFreshWorm', WHERE WHAT IT READS IS OF BULK AT MOST 1048576: true; the input reads as it did. -/
def fnExactFreshWormUptoRow : OpenClaim := { program := "ytgifhfkpfgpagaa", sum := "6728c314d26c281f03c2b14e5ad020fdd6b23e49339e0755c745bdc7b78a2dcb", func := "loop.example/g01276/laws.FnExactFreshWorm", spec := "fnExactFreshWorm", inPlace := ["internal/abi.NoEscape", "internal/bytealg.MakeNoZero"], apart := false, narrowed := true }
def FnExactFreshWormUptoSaid : Prop := fnExactFreshWormUptoRow.holds Try.pinned (OpenSpec.upto fnExactFreshWormSpec)

/-- 'laws.FnExactLinesLeft', WHERE WHAT IT READS IS OF BULK AT MOST 1048576: true; the input reads as it did. -/
def fnExactLinesLeftUptoRow : OpenClaim := { program := "ytgifhfkpfgpagaa", sum := "6728c314d26c281f03c2b14e5ad020fdd6b23e49339e0755c745bdc7b78a2dcb", func := "loop.example/g01276/laws.FnExactLinesLeft", spec := "fnExactLinesLeft", inPlace := ["internal/bytealg.CountString", "internal/bytealg.IndexByteString", "internal/bytealg.IndexString"], named := ["internal/bytealg.MaxLen"], apart := false, narrowed := true }
def FnExactLinesLeftUptoSaid : Prop := fnExactLinesLeftUptoRow.holds Try.pinned (OpenSpec.upto fnExactLinesLeftSpec)

/-- 'laws.FnExactEatLine', WHERE WHAT IT READS IS OF BULK AT MOST 1048576: true; the input reads as it did. -/
def fnExactEatLineUptoRow : OpenClaim := { program := "ytgifhfkpfgpagaa", sum := "6728c314d26c281f03c2b14e5ad020fdd6b23e49339e0755c745bdc7b78a2dcb", func := "loop.example/g01276/laws.FnExactEatLine", spec := "fnExactEatLine", apart := false, narrowed := true }
def FnExactEatLineUptoSaid : Prop := fnExactEatLineUptoRow.holds Try.pinned (OpenSpec.upto fnExactEatLineSpec)

/-- 'laws.FnExactWormAfter', WHERE WHAT IT READS IS OF BULK AT MOST 1048576: true; the input reads as it did. -/
def fnExactWormAfterUptoRow : OpenClaim := { program := "ytgifhfkpfgpagaa", sum := "6728c314d26c281f03c2b14e5ad020fdd6b23e49339e0755c745bdc7b78a2dcb", func := "loop.example/g01276/laws.FnExactWormAfter", spec := "fnExactWormAfter", apart := false, narrowed := true }
def FnExactWormAfterUptoSaid : Prop := fnExactWormAfterUptoRow.holds Try.pinned (OpenSpec.upto fnExactWormAfterSpec)

/-- 'laws.FnExactLifeOf', WHERE WHAT IT READS IS OF BULK AT MOST 1048576: true; the input reads as it did. -/
def fnExactLifeOfUptoRow : OpenClaim := { program := "ytgifhfkpfgpagaa", sum := "6728c314d26c281f03c2b14e5ad020fdd6b23e49339e0755c745bdc7b78a2dcb", func := "loop.example/g01276/laws.FnExactLifeOf", spec := "fnExactLifeOf", apart := false, narrowed := true }
def FnExactLifeOfUptoSaid : Prop := fnExactLifeOfUptoRow.holds Try.pinned (OpenSpec.upto fnExactLifeOfSpec)

/-- 'laws.FnExactMealsOfWorm', WHERE WHAT IT READS IS OF BULK AT MOST 1048576: true; the input reads as it did. -/
def fnExactMealsOfWormUptoRow : OpenClaim := { program := "ytgifhfkpfgpagaa", sum := "6728c314d26c281f03c2b14e5ad020fdd6b23e49339e0755c745bdc7b78a2dcb", func := "loop.example/g01276/laws.FnExactMealsOfWorm", spec := "fnExactMealsOfWorm", apart := false, narrowed := true }
def FnExactMealsOfWormUptoSaid : Prop := fnExactMealsOfWormUptoRow.holds Try.pinned (OpenSpec.upto fnExactMealsOfWormSpec)

/-- 'laws.FnExactDeathOf', WHERE WHAT IT READS IS OF BULK AT MOST 1048576: true; the input reads as it did. -/
def fnExactDeathOfUptoRow : OpenClaim := { program := "ytgifhfkpfgpagaa", sum := "6728c314d26c281f03c2b14e5ad020fdd6b23e49339e0755c745bdc7b78a2dcb", func := "loop.example/g01276/laws.FnExactDeathOf", spec := "fnExactDeathOf", apart := false, narrowed := true }
def FnExactDeathOfUptoSaid : Prop := fnExactDeathOfUptoRow.holds Try.pinned (OpenSpec.upto fnExactDeathOfSpec)

/-- 'laws.FnExactShiftWorm', WHERE WHAT IT READS IS OF BULK AT MOST 1048576: true; the input reads as it did. -/
def fnExactShiftWormUptoRow : OpenClaim := { program := "ytgifhfkpfgpagaa", sum := "6728c314d26c281f03c2b14e5ad020fdd6b23e49339e0755c745bdc7b78a2dcb", func := "loop.example/g01276/laws.FnExactShiftWorm", spec := "fnExactShiftWorm", unfollowed := true, recurses := true, apart := false, narrowed := true }
def FnExactShiftWormUptoSaid : Prop := fnExactShiftWormUptoRow.holds Try.pinned (OpenSpec.upto fnExactShiftWormSpec)

end Rows
end Go.Proofs.Ytgifhfkpfgpagaa
