/-
  No cell of these rows narrows 'for every input' (looked for: loops, veiled, ifaces, maps, wideKeys, modest, calm, conditions, laid).
  DERIVED. THE GIVEN ROWS OF THIS SEAT. 9 by the template 'for every input the law returns true; each argument reads behind the call as it read before'; 0 by the template 'total and deterministic' (their statements: YthngapcocbclgaaTotals.lean).
  GIVEN WITH THE SEED: the statements are not yours to turn. If you find one false, say at which input.
  Laid BY PROGRAM, IN A SANDBOX (cutbox-rows.mjs): the forced cells as the released guide's own fill.sh prints them over the translation 9bc9b2c5bb38beec… (all of the seat's roots in one cut). By AI agents, Wed Nov 11 2026. No macro, syntax, notation, axiom, sorry.
-/
import Derived.Test.YthngapcocbclgaaChecked
import GoSem.Claim
import GoSem.ClaimJoined
import GoSem.ClaimMapViews
import Derived.JoinedTies
import Derived.KernelRfl
namespace Go.Proofs.Ythngapcocbclgaa
/- THE CELL 'sum', in the pinned program and in every row, IS THE sha256 OF THE DUMP (.gsa) THAT YthngapcocbclgaaProg.lean LOADS. Nothing in Lean hashes anything: it is a label: what it is worth is what the hold of that sum in a sandbox is worth. -/
noncomputable def Try.pinned : Pinned := { name := "ythngapcocbclgaa", sum := "9bc9b2c5bb38beec16dcd5a6bde0d1efd89cfd173c71072f7378dc4e3598abf7", checked := Try.checked }
namespace Rows
def none {H : Type} : Left H := { results := [], args := [] }

/-- 'laws.FnExactPlaceAfter': WHATEVER THE INPUT: true; the input reads as it did. -/
def fnExactPlaceAfterSpec : ChangeSpec := { name := "fnExactPlaceAfter", fn := fun _ => fun
  | [d1, d2] => { results := [.lit (.bool true)], args := [d1, d2] }
  | _ => none }
def fnExactPlaceAfterRow : OpenClaim := { program := "ythngapcocbclgaa", sum := "9bc9b2c5bb38beec16dcd5a6bde0d1efd89cfd173c71072f7378dc4e3598abf7", func := "loop.example/g01276/laws.FnExactPlaceAfter", spec := "fnExactPlaceAfter", inPlace := ["internal/bytealg.IndexByteString", "internal/bytealg.IndexString"], unfollowed := true, recurses := true, named := ["internal/bytealg.MaxLen"], plainKeys := false, apart := false }
def FnExactPlaceAfterSaid : Prop := fnExactPlaceAfterRow.holds Try.pinned (OpenSpec.ofChange fnExactPlaceAfterSpec)

/-- ITS FALSE NEIGHBOUR: 'it returns false'. Refute it at one input. -/
def fnExactPlaceAfterWrong : ChangeSpec := { name := "fnExactPlaceAfter", fn := fun _ => fun
  | [d1, d2] => { results := [.lit (.bool false)], args := [d1, d2] }
  | _ => none }
def FnExactPlaceAfterWrongFalsely : Prop := fnExactPlaceAfterRow.holds Try.pinned (OpenSpec.ofChange fnExactPlaceAfterWrong)

/-- 'laws.FnExactClosesAfter': WHATEVER THE INPUT: true; the input reads as it did. -/
def fnExactClosesAfterSpec : ChangeSpec := { name := "fnExactClosesAfter", fn := fun _ => fun
  | [d] => { results := [.lit (.bool true)], args := [d] }
  | _ => none }
def fnExactClosesAfterRow : OpenClaim := { program := "ythngapcocbclgaa", sum := "9bc9b2c5bb38beec16dcd5a6bde0d1efd89cfd173c71072f7378dc4e3598abf7", func := "loop.example/g01276/laws.FnExactClosesAfter", spec := "fnExactClosesAfter", inPlace := ["internal/bytealg.IndexByteString", "internal/bytealg.IndexString"], unfollowed := true, recurses := true, named := ["internal/bytealg.MaxLen"], plainKeys := false, apart := false }
def FnExactClosesAfterSaid : Prop := fnExactClosesAfterRow.holds Try.pinned (OpenSpec.ofChange fnExactClosesAfterSpec)

/-- ITS FALSE NEIGHBOUR: 'it returns false'. Refute it at one input. -/
def fnExactClosesAfterWrong : ChangeSpec := { name := "fnExactClosesAfter", fn := fun _ => fun
  | [d] => { results := [.lit (.bool false)], args := [d] }
  | _ => none }
def FnExactClosesAfterWrongFalsely : Prop := fnExactClosesAfterRow.holds Try.pinned (OpenSpec.ofChange fnExactClosesAfterWrong)

/-- 'laws.FnExactTwiceArea': WHATEVER THE INPUT: true; the input reads as it did. -/
def fnExactTwiceAreaSpec : ChangeSpec := { name := "fnExactTwiceArea", fn := fun _ => fun
  | [d] => { results := [.lit (.bool true)], args := [d] }
  | _ => none }
def fnExactTwiceAreaRow : OpenClaim := { program := "ythngapcocbclgaa", sum := "9bc9b2c5bb38beec16dcd5a6bde0d1efd89cfd173c71072f7378dc4e3598abf7", func := "loop.example/g01276/laws.FnExactTwiceArea", spec := "fnExactTwiceArea", inPlace := ["internal/bytealg.IndexByteString", "internal/bytealg.IndexString"], unfollowed := true, recurses := true, named := ["internal/bytealg.MaxLen"], plainKeys := false, apart := false }
def FnExactTwiceAreaSaid : Prop := fnExactTwiceAreaRow.holds Try.pinned (OpenSpec.ofChange fnExactTwiceAreaSpec)

/-- ITS FALSE NEIGHBOUR: 'it returns false'. Refute it at one input. -/
def fnExactTwiceAreaWrong : ChangeSpec := { name := "fnExactTwiceArea", fn := fun _ => fun
  | [d] => { results := [.lit (.bool false)], args := [d] }
  | _ => none }
def FnExactTwiceAreaWrongFalsely : Prop := fnExactTwiceAreaRow.holds Try.pinned (OpenSpec.ofChange fnExactTwiceAreaWrong)

/-- 'laws.FnExactPointsOf': WHATEVER THE INPUT: true; the input reads as it did. -/
def fnExactPointsOfSpec : ChangeSpec := { name := "fnExactPointsOf", fn := fun _ => fun
  | [d1, d2] => { results := [.lit (.bool true)], args := [d1, d2] }
  | _ => none }
def fnExactPointsOfRow : OpenClaim := { program := "ythngapcocbclgaa", sum := "9bc9b2c5bb38beec16dcd5a6bde0d1efd89cfd173c71072f7378dc4e3598abf7", func := "loop.example/g01276/laws.FnExactPointsOf", spec := "fnExactPointsOf", inPlace := ["internal/bytealg.IndexByteString", "internal/bytealg.IndexString"], unfollowed := true, recurses := true, named := ["internal/bytealg.MaxLen"], plainKeys := false, apart := false }
def FnExactPointsOfSaid : Prop := fnExactPointsOfRow.holds Try.pinned (OpenSpec.ofChange fnExactPointsOfSpec)

/-- ITS FALSE NEIGHBOUR: 'it returns false'. Refute it at one input. -/
def fnExactPointsOfWrong : ChangeSpec := { name := "fnExactPointsOf", fn := fun _ => fun
  | [d1, d2] => { results := [.lit (.bool false)], args := [d1, d2] }
  | _ => none }
def FnExactPointsOfWrongFalsely : Prop := fnExactPointsOfRow.holds Try.pinned (OpenSpec.ofChange fnExactPointsOfWrong)

/-- 'laws.FnExactCrossesOf': WHATEVER THE INPUT: true; the input reads as it did. -/
def fnExactCrossesOfSpec : ChangeSpec := { name := "fnExactCrossesOf", fn := fun _ => fun
  | [d1, d2] => { results := [.lit (.bool true)], args := [d1, d2] }
  | _ => none }
def fnExactCrossesOfRow : OpenClaim := { program := "ythngapcocbclgaa", sum := "9bc9b2c5bb38beec16dcd5a6bde0d1efd89cfd173c71072f7378dc4e3598abf7", func := "loop.example/g01276/laws.FnExactCrossesOf", spec := "fnExactCrossesOf", inPlace := ["internal/bytealg.IndexByteString", "internal/bytealg.IndexString"], unfollowed := true, recurses := true, named := ["internal/bytealg.MaxLen"], plainKeys := false, apart := false }
def FnExactCrossesOfSaid : Prop := fnExactCrossesOfRow.holds Try.pinned (OpenSpec.ofChange fnExactCrossesOfSpec)

/-- ITS FALSE NEIGHBOUR: 'it returns false'. Refute it at one input. -/
def fnExactCrossesOfWrong : ChangeSpec := { name := "fnExactCrossesOf", fn := fun _ => fun
  | [d1, d2] => { results := [.lit (.bool false)], args := [d1, d2] }
  | _ => none }
def FnExactCrossesOfWrongFalsely : Prop := fnExactCrossesOfRow.holds Try.pinned (OpenSpec.ofChange fnExactCrossesOfWrong)

/-- 'laws.FnExactBoxAfter': WHATEVER THE INPUT: true; the input reads as it did. -/
def fnExactBoxAfterSpec : ChangeSpec := { name := "fnExactBoxAfter", fn := fun _ => fun
  | [d1, d2] => { results := [.lit (.bool true)], args := [d1, d2] }
  | _ => none }
def fnExactBoxAfterRow : OpenClaim := { program := "ythngapcocbclgaa", sum := "9bc9b2c5bb38beec16dcd5a6bde0d1efd89cfd173c71072f7378dc4e3598abf7", func := "loop.example/g01276/laws.FnExactBoxAfter", spec := "fnExactBoxAfter", inPlace := ["internal/bytealg.IndexByteString", "internal/bytealg.IndexString"], unfollowed := true, recurses := true, named := ["internal/bytealg.MaxLen"], plainKeys := false, apart := false }
def FnExactBoxAfterSaid : Prop := fnExactBoxAfterRow.holds Try.pinned (OpenSpec.ofChange fnExactBoxAfterSpec)

/-- ITS FALSE NEIGHBOUR: 'it returns false'. Refute it at one input. -/
def fnExactBoxAfterWrong : ChangeSpec := { name := "fnExactBoxAfter", fn := fun _ => fun
  | [d1, d2] => { results := [.lit (.bool false)], args := [d1, d2] }
  | _ => none }
def FnExactBoxAfterWrongFalsely : Prop := fnExactBoxAfterRow.holds Try.pinned (OpenSpec.ofChange fnExactBoxAfterWrong)

/-- 'laws.FnExactWindingOf': WHATEVER THE INPUT: true; the input reads as it did. -/
def fnExactWindingOfSpec : ChangeSpec := { name := "fnExactWindingOf", fn := fun _ => fun
  | [d] => { results := [.lit (.bool true)], args := [d] }
  | _ => none }
def fnExactWindingOfRow : OpenClaim := { program := "ythngapcocbclgaa", sum := "9bc9b2c5bb38beec16dcd5a6bde0d1efd89cfd173c71072f7378dc4e3598abf7", func := "loop.example/g01276/laws.FnExactWindingOf", spec := "fnExactWindingOf", inPlace := ["internal/bytealg.IndexByteString", "internal/bytealg.IndexString", "internal/bytealg.CountString"], unfollowed := true, recurses := true, named := ["internal/bytealg.MaxLen"], plainKeys := false, apart := false }
def FnExactWindingOfSaid : Prop := fnExactWindingOfRow.holds Try.pinned (OpenSpec.ofChange fnExactWindingOfSpec)

/-- ITS FALSE NEIGHBOUR: 'it returns false'. Refute it at one input. -/
def fnExactWindingOfWrong : ChangeSpec := { name := "fnExactWindingOf", fn := fun _ => fun
  | [d] => { results := [.lit (.bool false)], args := [d] }
  | _ => none }
def FnExactWindingOfWrongFalsely : Prop := fnExactWindingOfRow.holds Try.pinned (OpenSpec.ofChange fnExactWindingOfWrong)

/-- 'laws.FnExactCornersAfter': WHATEVER THE INPUT: true; the input reads as it did. -/
def fnExactCornersAfterSpec : ChangeSpec := { name := "fnExactCornersAfter", fn := fun _ => fun
  | [d1, d2] => { results := [.lit (.bool true)], args := [d1, d2] }
  | _ => none }
def fnExactCornersAfterRow : OpenClaim := { program := "ythngapcocbclgaa", sum := "9bc9b2c5bb38beec16dcd5a6bde0d1efd89cfd173c71072f7378dc4e3598abf7", func := "loop.example/g01276/laws.FnExactCornersAfter", spec := "fnExactCornersAfter", inPlace := ["internal/bytealg.IndexByteString", "internal/bytealg.IndexString"], unfollowed := true, recurses := true, named := ["internal/bytealg.MaxLen"], plainKeys := false, apart := false }
def FnExactCornersAfterSaid : Prop := fnExactCornersAfterRow.holds Try.pinned (OpenSpec.ofChange fnExactCornersAfterSpec)

/-- ITS FALSE NEIGHBOUR: 'it returns false'. Refute it at one input. -/
def fnExactCornersAfterWrong : ChangeSpec := { name := "fnExactCornersAfter", fn := fun _ => fun
  | [d1, d2] => { results := [.lit (.bool false)], args := [d1, d2] }
  | _ => none }
def FnExactCornersAfterWrongFalsely : Prop := fnExactCornersAfterRow.holds Try.pinned (OpenSpec.ofChange fnExactCornersAfterWrong)

/-- 'laws.FnExactTurtleDraws': WHATEVER THE INPUT: true; the input reads as it did. -/
def fnExactTurtleDrawsSpec : ChangeSpec := { name := "fnExactTurtleDraws", fn := fun _ => fun
  | [d1, d2] => { results := [.lit (.bool true)], args := [d1, d2] }
  | _ => none }
def fnExactTurtleDrawsRow : OpenClaim := { program := "ythngapcocbclgaa", sum := "9bc9b2c5bb38beec16dcd5a6bde0d1efd89cfd173c71072f7378dc4e3598abf7", func := "loop.example/g01276/laws.FnExactTurtleDraws", spec := "fnExactTurtleDraws", inPlace := ["internal/bytealg.IndexByteString", "internal/bytealg.IndexString", "internal/abi.NoEscape", "internal/bytealg.MakeNoZero"], unfollowed := true, recurses := true, named := ["internal/bytealg.MaxLen"], plainKeys := false, apart := false }
def FnExactTurtleDrawsSaid : Prop := fnExactTurtleDrawsRow.holds Try.pinned (OpenSpec.ofChange fnExactTurtleDrawsSpec)

/-- ITS FALSE NEIGHBOUR: 'it returns false'. Refute it at one input. -/
def fnExactTurtleDrawsWrong : ChangeSpec := { name := "fnExactTurtleDraws", fn := fun _ => fun
  | [d1, d2] => { results := [.lit (.bool false)], args := [d1, d2] }
  | _ => none }
def FnExactTurtleDrawsWrongFalsely : Prop := fnExactTurtleDrawsRow.holds Try.pinned (OpenSpec.ofChange fnExactTurtleDrawsWrong)

/- THE SECOND FORM. 'bulk': how many values and letters a reading holds, each counted each time it is reached (what is shared counts as often as it is met; a slice's spare places count too). A statement '..UptoSaid' is the law's where the arguments, and the package variables that the reading takes, are together of bulk at most 1048576: NARROWER than '..Said'. Prove '..Said' where nothing that the law and all that it calls make is longer than what came in: it says more and counts as full. Else prove '..UptoSaid'. A law counts once. -/
mutual
def uptoBulk {H : Type} : DataW H → Nat
  | .lit (.string bytes) => bytes.length + 1
  | .lit _ => 1
  | .nil => 1
  | .ptr d => uptoBulk d + 1
  | .slice elems spare => uptoBulkAll elems + uptoBulkAll spare + 1
  | .agg parts => uptoBulkAll parts + 1
  | .iface _ d => uptoBulk d + 1
  | .map entries => uptoBulkEntries entries + 1
  | .held _ => 1
def uptoBulkAll {H : Type} : List (DataW H) → Nat
  | [] => 0
  | d :: r => uptoBulk d + uptoBulkAll r
def uptoBulkEntries {H : Type} : List (Lit × DataW H) → Nat
  | [] => 0
  | x :: r => uptoBulkEntry x + uptoBulkEntries r
def uptoBulkEntry {H : Type} : Lit × DataW H → Nat
  | (.string bytes, d) => bytes.length + uptoBulk d + 1
  | (_, d) => uptoBulk d + 1
 end
def uptoSmall : (H : Type) → List (DataW H) → Bool := fun _ ds => decide (uptoBulkAll ds ≤ 1048576)
def OpenSpec.upto (s : _root_.Go.ChangeSpec) : _root_.Go.OpenSpec := { _root_.Go.OpenSpec.ofChange s with cond := some uptoSmall }

/-- 'laws.FnExactPlaceAfter', WHERE WHAT IT READS IS OF BULK AT MOST 1048576: true; the input reads as it did. -/
def fnExactPlaceAfterUptoRow : OpenClaim := { program := "ythngapcocbclgaa", sum := "9bc9b2c5bb38beec16dcd5a6bde0d1efd89cfd173c71072f7378dc4e3598abf7", func := "loop.example/g01276/laws.FnExactPlaceAfter", spec := "fnExactPlaceAfter", inPlace := ["internal/bytealg.IndexByteString", "internal/bytealg.IndexString"], unfollowed := true, recurses := true, named := ["internal/bytealg.MaxLen"], plainKeys := false, apart := false, narrowed := true }
def FnExactPlaceAfterUptoSaid : Prop := fnExactPlaceAfterUptoRow.holds Try.pinned (OpenSpec.upto fnExactPlaceAfterSpec)

/-- 'laws.FnExactClosesAfter', WHERE WHAT IT READS IS OF BULK AT MOST 1048576: true; the input reads as it did. -/
def fnExactClosesAfterUptoRow : OpenClaim := { program := "ythngapcocbclgaa", sum := "9bc9b2c5bb38beec16dcd5a6bde0d1efd89cfd173c71072f7378dc4e3598abf7", func := "loop.example/g01276/laws.FnExactClosesAfter", spec := "fnExactClosesAfter", inPlace := ["internal/bytealg.IndexByteString", "internal/bytealg.IndexString"], unfollowed := true, recurses := true, named := ["internal/bytealg.MaxLen"], plainKeys := false, apart := false, narrowed := true }
def FnExactClosesAfterUptoSaid : Prop := fnExactClosesAfterUptoRow.holds Try.pinned (OpenSpec.upto fnExactClosesAfterSpec)

/-- 'laws.FnExactTwiceArea', WHERE WHAT IT READS IS OF BULK AT MOST 1048576: true; the input reads as it did. -/
def fnExactTwiceAreaUptoRow : OpenClaim := { program := "ythngapcocbclgaa", sum := "9bc9b2c5bb38beec16dcd5a6bde0d1efd89cfd173c71072f7378dc4e3598abf7", func := "loop.example/g01276/laws.FnExactTwiceArea", spec := "fnExactTwiceArea", inPlace := ["internal/bytealg.IndexByteString", "internal/bytealg.IndexString"], unfollowed := true, recurses := true, named := ["internal/bytealg.MaxLen"], plainKeys := false, apart := false, narrowed := true }
def FnExactTwiceAreaUptoSaid : Prop := fnExactTwiceAreaUptoRow.holds Try.pinned (OpenSpec.upto fnExactTwiceAreaSpec)

/-- 'laws.FnExactPointsOf', WHERE WHAT IT READS IS OF BULK AT MOST 1048576: true; the input reads as it did. -/
def fnExactPointsOfUptoRow : OpenClaim := { program := "ythngapcocbclgaa", sum := "9bc9b2c5bb38beec16dcd5a6bde0d1efd89cfd173c71072f7378dc4e3598abf7", func := "loop.example/g01276/laws.FnExactPointsOf", spec := "fnExactPointsOf", inPlace := ["internal/bytealg.IndexByteString", "internal/bytealg.IndexString"], unfollowed := true, recurses := true, named := ["internal/bytealg.MaxLen"], plainKeys := false, apart := false, narrowed := true }
def FnExactPointsOfUptoSaid : Prop := fnExactPointsOfUptoRow.holds Try.pinned (OpenSpec.upto fnExactPointsOfSpec)

/-- 'laws.FnExactCrossesOf', WHERE WHAT IT READS IS OF BULK AT MOST 1048576: true; the input reads as it did. -/
def fnExactCrossesOfUptoRow : OpenClaim := { program := "ythngapcocbclgaa", sum := "9bc9b2c5bb38beec16dcd5a6bde0d1efd89cfd173c71072f7378dc4e3598abf7", func := "loop.example/g01276/laws.FnExactCrossesOf", spec := "fnExactCrossesOf", inPlace := ["internal/bytealg.IndexByteString", "internal/bytealg.IndexString"], unfollowed := true, recurses := true, named := ["internal/bytealg.MaxLen"], plainKeys := false, apart := false, narrowed := true }
def FnExactCrossesOfUptoSaid : Prop := fnExactCrossesOfUptoRow.holds Try.pinned (OpenSpec.upto fnExactCrossesOfSpec)

/-- 'laws.FnExactBoxAfter', WHERE WHAT IT READS IS OF BULK AT MOST 1048576: true; the input reads as it did. -/
def fnExactBoxAfterUptoRow : OpenClaim := { program := "ythngapcocbclgaa", sum := "9bc9b2c5bb38beec16dcd5a6bde0d1efd89cfd173c71072f7378dc4e3598abf7", func := "loop.example/g01276/laws.FnExactBoxAfter", spec := "fnExactBoxAfter", inPlace := ["internal/bytealg.IndexByteString", "internal/bytealg.IndexString"], unfollowed := true, recurses := true, named := ["internal/bytealg.MaxLen"], plainKeys := false, apart := false, narrowed := true }
def FnExactBoxAfterUptoSaid : Prop := fnExactBoxAfterUptoRow.holds Try.pinned (OpenSpec.upto fnExactBoxAfterSpec)

/-- 'laws.FnExactWindingOf', WHERE WHAT IT READS IS OF BULK AT MOST 1048576: true; the input reads as it did. -/
def fnExactWindingOfUptoRow : OpenClaim := { program := "ythngapcocbclgaa", sum := "9bc9b2c5bb38beec16dcd5a6bde0d1efd89cfd173c71072f7378dc4e3598abf7", func := "loop.example/g01276/laws.FnExactWindingOf", spec := "fnExactWindingOf", inPlace := ["internal/bytealg.IndexByteString", "internal/bytealg.IndexString", "internal/bytealg.CountString"], unfollowed := true, recurses := true, named := ["internal/bytealg.MaxLen"], plainKeys := false, apart := false, narrowed := true }
def FnExactWindingOfUptoSaid : Prop := fnExactWindingOfUptoRow.holds Try.pinned (OpenSpec.upto fnExactWindingOfSpec)

/-- 'laws.FnExactCornersAfter', WHERE WHAT IT READS IS OF BULK AT MOST 1048576: true; the input reads as it did. -/
def fnExactCornersAfterUptoRow : OpenClaim := { program := "ythngapcocbclgaa", sum := "9bc9b2c5bb38beec16dcd5a6bde0d1efd89cfd173c71072f7378dc4e3598abf7", func := "loop.example/g01276/laws.FnExactCornersAfter", spec := "fnExactCornersAfter", inPlace := ["internal/bytealg.IndexByteString", "internal/bytealg.IndexString"], unfollowed := true, recurses := true, named := ["internal/bytealg.MaxLen"], plainKeys := false, apart := false, narrowed := true }
def FnExactCornersAfterUptoSaid : Prop := fnExactCornersAfterUptoRow.holds Try.pinned (OpenSpec.upto fnExactCornersAfterSpec)

/-- 'laws.FnExactTurtleDraws', WHERE WHAT IT READS IS OF BULK AT MOST 1048576: true; the input reads as it did. -/
def fnExactTurtleDrawsUptoRow : OpenClaim := { program := "ythngapcocbclgaa", sum := "9bc9b2c5bb38beec16dcd5a6bde0d1efd89cfd173c71072f7378dc4e3598abf7", func := "loop.example/g01276/laws.FnExactTurtleDraws", spec := "fnExactTurtleDraws", inPlace := ["internal/bytealg.IndexByteString", "internal/bytealg.IndexString", "internal/abi.NoEscape", "internal/bytealg.MakeNoZero"], unfollowed := true, recurses := true, named := ["internal/bytealg.MaxLen"], plainKeys := false, apart := false, narrowed := true }
def FnExactTurtleDrawsUptoSaid : Prop := fnExactTurtleDrawsUptoRow.holds Try.pinned (OpenSpec.upto fnExactTurtleDrawsSpec)

end Rows
end Go.Proofs.Ythngapcocbclgaa
