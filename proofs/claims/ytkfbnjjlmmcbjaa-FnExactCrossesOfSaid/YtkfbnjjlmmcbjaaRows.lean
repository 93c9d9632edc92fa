/-
  No cell of these rows narrows 'for every input' (looked for: loops, veiled, ifaces, maps, wideKeys, modest, calm, conditions, laid).
  DERIVED. THE GIVEN ROWS OF THIS SEAT. 3 by the template 'for every input the law returns true; each argument reads behind the call as it read before'; 0 by the template 'total and deterministic' (their statements: YtkfbnjjlmmcbjaaTotals.lean).
  GIVEN WITH THE SEED: the statements are not yours to turn. If you find one false, say at which input.
  Laid BY PROGRAM, IN A SANDBOX (cutbox-rows.mjs): the forced cells as the released guide's own fill.sh prints them over the translation 351c4b3056fec76c… (all of the seat's roots in one cut). By AI agents, Wed Nov 11 2026. No macro, syntax, notation, axiom, sorry.
-/
import Derived.Test.YtkfbnjjlmmcbjaaChecked
import GoSem.Claim
import GoSem.ClaimJoined
import GoSem.ClaimMapViews
import Derived.JoinedTies
import Derived.KernelRfl
namespace Go.Proofs.Ytkfbnjjlmmcbjaa
/- THE CELL 'sum', in the pinned program and in every row, IS THE sha256 OF THE DUMP (.gsa) THAT YtkfbnjjlmmcbjaaProg.lean LOADS. Nothing in Lean hashes anything: it is a label: what it is worth is what the hold of that sum in a sandbox is worth. -/
noncomputable def Try.pinned : Pinned := { name := "ytkfbnjjlmmcbjaa", sum := "351c4b3056fec76cbd67181b0cbd2937b2a309436378c70584337a6bcbd51038", checked := Try.checked }
namespace Rows
def none {H : Type} : Left H := { results := [], args := [] }

/-- 'laws.FnExactPointsOf': WHATEVER THE INPUT: true; the input reads as it did. -/
def fnExactPointsOfSpec : ChangeSpec := { name := "fnExactPointsOf", fn := fun _ => fun
  | [d1, d2] => { results := [.lit (.bool true)], args := [d1, d2] }
  | _ => none }
def fnExactPointsOfRow : OpenClaim := { program := "ytkfbnjjlmmcbjaa", sum := "351c4b3056fec76cbd67181b0cbd2937b2a309436378c70584337a6bcbd51038", func := "loop.example/g01276/laws.FnExactPointsOf", spec := "fnExactPointsOf", inPlace := ["internal/bytealg.IndexByteString", "internal/bytealg.IndexString"], unfollowed := true, recurses := true, named := ["internal/bytealg.MaxLen"], plainKeys := false, apart := false }
def FnExactPointsOfSaid : Prop := fnExactPointsOfRow.holds Try.pinned (OpenSpec.ofChange fnExactPointsOfSpec)

/-- ITS FALSE NEIGHBOUR: 'it returns false'. Refute it at one input. -/
def fnExactPointsOfWrong : ChangeSpec := { name := "fnExactPointsOf", fn := fun _ => fun
  | [d1, d2] => { results := [.lit (.bool false)], args := [d1, d2] }
  | _ => none }
def FnExactPointsOfWrongFalsely : Prop := fnExactPointsOfRow.holds Try.pinned (OpenSpec.ofChange fnExactPointsOfWrong)

/-- 'laws.FnExactCrossesOf': WHATEVER THE INPUT: true; the input reads as it did. -/
def fnExactCrossesOfSpec : ChangeSpec := { name := "fnExactCrossesOf", fn := fun _ => fun
  | [d1, d2] => { results := [.lit (.bool true)], args := [d1, d2] }
  | _ => none }
def fnExactCrossesOfRow : OpenClaim := { program := "ytkfbnjjlmmcbjaa", sum := "351c4b3056fec76cbd67181b0cbd2937b2a309436378c70584337a6bcbd51038", func := "loop.example/g01276/laws.FnExactCrossesOf", spec := "fnExactCrossesOf", inPlace := ["internal/bytealg.IndexByteString", "internal/bytealg.IndexString"], unfollowed := true, recurses := true, named := ["internal/bytealg.MaxLen"], plainKeys := false, apart := false }
def FnExactCrossesOfSaid : Prop := fnExactCrossesOfRow.holds Try.pinned (OpenSpec.ofChange fnExactCrossesOfSpec)

/-- ITS FALSE NEIGHBOUR: 'it returns false'. Refute it at one input. -/
def fnExactCrossesOfWrong : ChangeSpec := { name := "fnExactCrossesOf", fn := fun _ => fun
  | [d1, d2] => { results := [.lit (.bool false)], args := [d1, d2] }
  | _ => none }
def FnExactCrossesOfWrongFalsely : Prop := fnExactCrossesOfRow.holds Try.pinned (OpenSpec.ofChange fnExactCrossesOfWrong)

/-- 'laws.FnExactTurtleDraws': WHATEVER THE INPUT: true; the input reads as it did. -/
def fnExactTurtleDrawsSpec : ChangeSpec := { name := "fnExactTurtleDraws", fn := fun _ => fun
  | [d1, d2] => { results := [.lit (.bool true)], args := [d1, d2] }
  | _ => none }
def fnExactTurtleDrawsRow : OpenClaim := { program := "ytkfbnjjlmmcbjaa", sum := "351c4b3056fec76cbd67181b0cbd2937b2a309436378c70584337a6bcbd51038", func := "loop.example/g01276/laws.FnExactTurtleDraws", spec := "fnExactTurtleDraws", inPlace := ["internal/bytealg.IndexByteString", "internal/bytealg.IndexString", "internal/abi.NoEscape", "internal/bytealg.MakeNoZero"], unfollowed := true, recurses := true, named := ["internal/bytealg.MaxLen"], plainKeys := false, apart := false }
def FnExactTurtleDrawsSaid : Prop := fnExactTurtleDrawsRow.holds Try.pinned (OpenSpec.ofChange fnExactTurtleDrawsSpec)

/-- ITS FALSE NEIGHBOUR: 'it returns false'. Refute it at one input. -/
def fnExactTurtleDrawsWrong : ChangeSpec := { name := "fnExactTurtleDraws", fn := fun _ => fun
  | [d1, d2] => { results := [.lit (.bool false)], args := [d1, d2] }
  | _ => none }
def FnExactTurtleDrawsWrongFalsely : Prop := fnExactTurtleDrawsRow.holds Try.pinned (OpenSpec.ofChange fnExactTurtleDrawsWrong)

/- THE SECOND FORM. 'bulk': how many values and letters a reading holds, each counted each time it is reached (what is shared counts as often as it is met; a slice's spare places count too). A statement '..UptoSaid' is the law's where the arguments, and the package variables that the reading takes, are together of bulk at most 1048576: NARROWER than '..Said'. Prove '..Said' where nothing that the law and all that it calls make is longer than what came in: it says more and counts as full. Else prove '..UptoSaid'. A law counts once. -/
mutual
def uptoBulk {H : Type} : DataW H → Nat
  | .lit (.string bytes) => bytes.length + 1
  | .lit _ => 1
  | .nil => 1
  | .ptr d => uptoBulk d + 1
  | .slice elems spare => uptoBulkAll elems + uptoBulkAll spare + 1
  | .agg parts => uptoBulkAll parts + 1
  | .iface _ d => uptoBulk d + 1
  | .map entries => uptoBulkEntries entries + 1
  | .held _ => 1
def uptoBulkAll {H : Type} : List (DataW H) → Nat
  | [] => 0
  | d :: r => uptoBulk d + uptoBulkAll r
def uptoBulkEntries {H : Type} : List (Lit × DataW H) → Nat
  | [] => 0
  | x :: r => uptoBulkEntry x + uptoBulkEntries r
def uptoBulkEntry {H : Type} : Lit × DataW H → Nat
  | (.string bytes, d) => bytes.length + uptoBulk d + 1
  | (_, d) => uptoBulk d + 1
 end
def uptoSmall : (H : Type) → List (DataW H) → Bool := fun _ ds => decide (uptoBulkAll ds ≤ 1048576)
def OpenSpec.upto (s : _root_.Go.ChangeSpec) : _root_.Go.OpenSpec := { _root_.Go.OpenSpec.ofChange s with cond := some uptoSmall }

/-- 'laws.FnExactPointsOf', WHERE WHAT IT READS IS OF BULK AT MOST 1048576: true; the input reads as it did. -/
def fnExactPointsOfUptoRow : OpenClaim := { program := "ytkfbnjjlmmcbjaa", sum := "351c4b3056fec76cbd67181b0cbd2937b2a309436378c70584337a6bcbd51038", func := "loop.example/g01276/laws.FnExactPointsOf", spec := "fnExactPointsOf", inPlace := ["internal/bytealg.IndexByteString", "internal/bytealg.IndexString"], unfollowed := true, recurses := true, named := ["internal/bytealg.MaxLen"], plainKeys := false, apart := false, narrowed := true }
def FnExactPointsOfUptoSaid : Prop := fnExactPointsOfUptoRow.holds Try.pinned (OpenSpec.upto fnExactPointsOfSpec)

/-- 'laws.FnExactCrossesOf', WHERE WHAT IT READS IS OF BULK AT MOST 1048576: true; the input reads as it did. -/
def fnExactCrossesOfUptoRow : OpenClaim := { program := "ytkfbnjjlmmcbjaa", sum := "351c4b3056fec76cbd67181b0cbd2937b2a309436378c70584337a6bcbd51038", func := "loop.example/g01276/laws.FnExactCrossesOf", spec := "fnExactCrossesOf", inPlace := ["internal/bytealg.IndexByteString", "internal/bytealg.IndexString"], unfollowed := true, recurses := true, named := ["internal/bytealg.MaxLen"], plainKeys := false, apart := false, narrowed := true }
def FnExactCrossesOfUptoSaid : Prop := fnExactCrossesOfUptoRow.holds Try.pinned (OpenSpec.upto fnExactCrossesOfSpec)

/-- 'laws.FnExactTurtleDraws', WHERE WHAT IT READS IS OF BULK AT MOST 1048576: true; the input reads as it did. -/
def fnExactTurtleDrawsUptoRow : OpenClaim := { program := "ytkfbnjjlmmcbjaa", sum := "351c4b3056fec76cbd67181b0cbd2937b2a309436378c70584337a6bcbd51038", func := "loop.example/g01276/laws.FnExactTurtleDraws", spec := "fnExactTurtleDraws", inPlace := ["internal/bytealg.IndexByteString", "internal/bytealg.IndexString", "internal/abi.NoEscape", "internal/bytealg.MakeNoZero"], unfollowed := true, recurses := true, named := ["internal/bytealg.MaxLen"], plainKeys := false, apart := false, narrowed := true }
def FnExactTurtleDrawsUptoSaid : Prop := fnExactTurtleDrawsUptoRow.holds Try.pinned (OpenSpec.upto fnExactTurtleDrawsSpec)

end Rows
end Go.Proofs.Ytkfbnjjlmmcbjaa
