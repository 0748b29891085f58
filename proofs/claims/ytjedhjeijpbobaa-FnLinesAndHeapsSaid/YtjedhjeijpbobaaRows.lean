/-
  No cell of these rows narrows 'for every input' (looked for: loops, veiled, ifaces, maps, wideKeys, modest, calm, conditions, laid).
  DERIVED. THE GIVEN ROWS OF THIS SEAT. 15 by the template 'for every input the law returns true; each argument reads behind the call as it read before'; 0 by the template 'total and deterministic' (their statements: YtjedhjeijpbobaaTotals.lean).
  GIVEN WITH THE SEED: the statements are not yours to turn. If you find one false, say at which input.
  Laid BY PROGRAM, IN A SANDBOX (cutbox-rows.mjs): the forced cells as the released guide's own fill.sh prints them over the translation 78706f7515865a4a… (all of the seat's roots in one cut). By AI agents, Wed Nov 11 2026. No macro, syntax, notation, axiom, sorry.
-/
import Derived.Test.YtjedhjeijpbobaaChecked
import GoSem.Claim
import GoSem.ClaimJoined
import GoSem.ClaimMapViews
import Derived.JoinedTies
import Derived.KernelRfl
namespace Go.Proofs.Ytjedhjeijpbobaa
/- THE CELL 'sum', in the pinned program and in every row, IS THE sha256 OF THE DUMP (.gsa) THAT YtjedhjeijpbobaaProg.lean LOADS. Nothing in Lean hashes anything: it is a label: what it is worth is what the hold of that sum in a sandbox is worth. -/
noncomputable def Try.pinned : Pinned := { name := "ytjedhjeijpbobaa", sum := "78706f7515865a4a0c238b6b7d8585d2984e4d8d7326b4fba05a4ee670a460de", checked := Try.checked }
namespace Rows
def none {H : Type} : Left H := { results := [], args := [] }

/-- 'laws.FnExactStepsToGrow': WHATEVER THE INPUT: true; the input reads as it did. -/
def fnExactStepsToGrowSpec : ChangeSpec := { name := "fnExactStepsToGrow", fn := fun _ => fun
  | [d1, d2] => { results := [.lit (.bool true)], args := [d1, d2] }
  | _ => none }
def fnExactStepsToGrowRow : OpenClaim := { program := "ytjedhjeijpbobaa", sum := "78706f7515865a4a0c238b6b7d8585d2984e4d8d7326b4fba05a4ee670a460de", func := "loop.example/g01162/laws.FnExactStepsToGrow", spec := "fnExactStepsToGrow", unfollowed := true, recurses := true, plainKeys := false, apart := false }
def FnExactStepsToGrowSaid : Prop := fnExactStepsToGrowRow.holds Try.pinned (OpenSpec.ofChange fnExactStepsToGrowSpec)

/-- ITS FALSE NEIGHBOUR: 'it returns false'. Refute it at one input. -/
def fnExactStepsToGrowWrong : ChangeSpec := { name := "fnExactStepsToGrow", fn := fun _ => fun
  | [d1, d2] => { results := [.lit (.bool false)], args := [d1, d2] }
  | _ => none }
def FnExactStepsToGrowWrongFalsely : Prop := fnExactStepsToGrowRow.holds Try.pinned (OpenSpec.ofChange fnExactStepsToGrowWrong)

/-- 'laws.FnExactLineSteps': WHATEVER THE INPUT: true; the input reads as it did. -/
def fnExactLineStepsSpec : ChangeSpec := { name := "fnExactLineSteps", fn := fun _ => fun
  | [d1, d2] => { results := [.lit (.bool true)], args := [d1, d2] }
  | _ => none }
def fnExactLineStepsRow : OpenClaim := { program := "ytjedhjeijpbobaa", sum := "78706f7515865a4a0c238b6b7d8585d2984e4d8d7326b4fba05a4ee670a460de", func := "loop.example/g01162/laws.FnExactLineSteps", spec := "fnExactLineSteps", unfollowed := true, recurses := true, plainKeys := false, apart := false }
def FnExactLineStepsSaid : Prop := fnExactLineStepsRow.holds Try.pinned (OpenSpec.ofChange fnExactLineStepsSpec)

/-- ITS FALSE NEIGHBOUR: 'it returns false'. Refute it at one input. -/
def fnExactLineStepsWrong : ChangeSpec := { name := "fnExactLineSteps", fn := fun _ => fun
  | [d1, d2] => { results := [.lit (.bool false)], args := [d1, d2] }
  | _ => none }
def FnExactLineStepsWrongFalsely : Prop := fnExactLineStepsRow.holds Try.pinned (OpenSpec.ofChange fnExactLineStepsWrong)

/-- 'laws.FnExactIsGrown': WHATEVER THE INPUT: true; the input reads as it did. -/
def fnExactIsGrownSpec : ChangeSpec := { name := "fnExactIsGrown", fn := fun _ => fun
  | [d1, d2, d3, d4] => { results := [.lit (.bool true)], args := [d1, d2, d3, d4] }
  | _ => none }
def fnExactIsGrownRow : OpenClaim := { program := "ytjedhjeijpbobaa", sum := "78706f7515865a4a0c238b6b7d8585d2984e4d8d7326b4fba05a4ee670a460de", func := "loop.example/g01162/laws.FnExactIsGrown", spec := "fnExactIsGrown", unfollowed := true, recurses := true, plainKeys := false, apart := false }
def FnExactIsGrownSaid : Prop := fnExactIsGrownRow.holds Try.pinned (OpenSpec.ofChange fnExactIsGrownSpec)

/-- ITS FALSE NEIGHBOUR: 'it returns false'. Refute it at one input. -/
def fnExactIsGrownWrong : ChangeSpec := { name := "fnExactIsGrown", fn := fun _ => fun
  | [d1, d2, d3, d4] => { results := [.lit (.bool false)], args := [d1, d2, d3, d4] }
  | _ => none }
def FnExactIsGrownWrongFalsely : Prop := fnExactIsGrownRow.holds Try.pinned (OpenSpec.ofChange fnExactIsGrownWrong)

/-- 'laws.FnExactRotorOfCell': WHATEVER THE INPUT: true; the input reads as it did. -/
def fnExactRotorOfCellSpec : ChangeSpec := { name := "fnExactRotorOfCell", fn := fun _ => fun
  | [d1, d2, d3, d4] => { results := [.lit (.bool true)], args := [d1, d2, d3, d4] }
  | _ => none }
def fnExactRotorOfCellRow : OpenClaim := { program := "ytjedhjeijpbobaa", sum := "78706f7515865a4a0c238b6b7d8585d2984e4d8d7326b4fba05a4ee670a460de", func := "loop.example/g01162/laws.FnExactRotorOfCell", spec := "fnExactRotorOfCell", unfollowed := true, recurses := true, plainKeys := false, apart := false }
def FnExactRotorOfCellSaid : Prop := fnExactRotorOfCellRow.holds Try.pinned (OpenSpec.ofChange fnExactRotorOfCellSpec)

/-- ITS FALSE NEIGHBOUR: 'it returns false'. Refute it at one input. -/
def fnExactRotorOfCellWrong : ChangeSpec := { name := "fnExactRotorOfCell", fn := fun _ => fun
  | [d1, d2, d3, d4] => { results := [.lit (.bool false)], args := [d1, d2, d3, d4] }
  | _ => none }
def FnExactRotorOfCellWrongFalsely : Prop := fnExactRotorOfCellRow.holds Try.pinned (OpenSpec.ofChange fnExactRotorOfCellWrong)

/-- 'laws.FnExactOuterSquare': WHATEVER THE INPUT: true; the input reads as it did. -/
def fnExactOuterSquareSpec : ChangeSpec := { name := "fnExactOuterSquare", fn := fun _ => fun
  | [d1, d2] => { results := [.lit (.bool true)], args := [d1, d2] }
  | _ => none }
def fnExactOuterSquareRow : OpenClaim := { program := "ytjedhjeijpbobaa", sum := "78706f7515865a4a0c238b6b7d8585d2984e4d8d7326b4fba05a4ee670a460de", func := "loop.example/g01162/laws.FnExactOuterSquare", spec := "fnExactOuterSquare", unfollowed := true, recurses := true, plainKeys := false, apart := false }
def FnExactOuterSquareSaid : Prop := fnExactOuterSquareRow.holds Try.pinned (OpenSpec.ofChange fnExactOuterSquareSpec)

/-- ITS FALSE NEIGHBOUR: 'it returns false'. Refute it at one input. -/
def fnExactOuterSquareWrong : ChangeSpec := { name := "fnExactOuterSquare", fn := fun _ => fun
  | [d1, d2] => { results := [.lit (.bool false)], args := [d1, d2] }
  | _ => none }
def FnExactOuterSquareWrongFalsely : Prop := fnExactOuterSquareRow.holds Try.pinned (OpenSpec.ofChange fnExactOuterSquareWrong)

/-- 'laws.FnExactCellOfChip': WHATEVER THE INPUT: true; the input reads as it did. -/
def fnExactCellOfChipSpec : ChangeSpec := { name := "fnExactCellOfChip", fn := fun _ => fun
  | [d1, d2] => { results := [.lit (.bool true)], args := [d1, d2] }
  | _ => none }
def fnExactCellOfChipRow : OpenClaim := { program := "ytjedhjeijpbobaa", sum := "78706f7515865a4a0c238b6b7d8585d2984e4d8d7326b4fba05a4ee670a460de", func := "loop.example/g01162/laws.FnExactCellOfChip", spec := "fnExactCellOfChip", unfollowed := true, recurses := true, plainKeys := false, apart := false }
def FnExactCellOfChipSaid : Prop := fnExactCellOfChipRow.holds Try.pinned (OpenSpec.ofChange fnExactCellOfChipSpec)

/-- ITS FALSE NEIGHBOUR: 'it returns false'. Refute it at one input. -/
def fnExactCellOfChipWrong : ChangeSpec := { name := "fnExactCellOfChip", fn := fun _ => fun
  | [d1, d2] => { results := [.lit (.bool false)], args := [d1, d2] }
  | _ => none }
def FnExactCellOfChipWrongFalsely : Prop := fnExactCellOfChipRow.holds Try.pinned (OpenSpec.ofChange fnExactCellOfChipWrong)

/-- 'laws.FnExactInnerSquare': WHATEVER THE INPUT: true; the input reads as it did. -/
def fnExactInnerSquareSpec : ChangeSpec := { name := "fnExactInnerSquare", fn := fun _ => fun
  | [d1, d2] => { results := [.lit (.bool true)], args := [d1, d2] }
  | _ => none }
def fnExactInnerSquareRow : OpenClaim := { program := "ytjedhjeijpbobaa", sum := "78706f7515865a4a0c238b6b7d8585d2984e4d8d7326b4fba05a4ee670a460de", func := "loop.example/g01162/laws.FnExactInnerSquare", spec := "fnExactInnerSquare", unfollowed := true, recurses := true, plainKeys := false, apart := false }
def FnExactInnerSquareSaid : Prop := fnExactInnerSquareRow.holds Try.pinned (OpenSpec.ofChange fnExactInnerSquareSpec)

/-- ITS FALSE NEIGHBOUR: 'it returns false'. Refute it at one input. -/
def fnExactInnerSquareWrong : ChangeSpec := { name := "fnExactInnerSquare", fn := fun _ => fun
  | [d1, d2] => { results := [.lit (.bool false)], args := [d1, d2] }
  | _ => none }
def FnExactInnerSquareWrongFalsely : Prop := fnExactInnerSquareRow.holds Try.pinned (OpenSpec.ofChange fnExactInnerSquareWrong)

/-- 'laws.FnExactHeapSquare': WHATEVER THE INPUT: true; the input reads as it did. -/
def fnExactHeapSquareSpec : ChangeSpec := { name := "fnExactHeapSquare", fn := fun _ => fun
  | [d] => { results := [.lit (.bool true)], args := [d] }
  | _ => none }
def fnExactHeapSquareRow : OpenClaim := { program := "ytjedhjeijpbobaa", sum := "78706f7515865a4a0c238b6b7d8585d2984e4d8d7326b4fba05a4ee670a460de", func := "loop.example/g01162/laws.FnExactHeapSquare", spec := "fnExactHeapSquare", plainKeys := false, apart := false }
def FnExactHeapSquareSaid : Prop := fnExactHeapSquareRow.holds Try.pinned (OpenSpec.ofChange fnExactHeapSquareSpec)

/-- ITS FALSE NEIGHBOUR: 'it returns false'. Refute it at one input. -/
def fnExactHeapSquareWrong : ChangeSpec := { name := "fnExactHeapSquare", fn := fun _ => fun
  | [d] => { results := [.lit (.bool false)], args := [d] }
  | _ => none }
def FnExactHeapSquareWrongFalsely : Prop := fnExactHeapSquareRow.holds Try.pinned (OpenSpec.ofChange fnExactHeapSquareWrong)

/-- 'laws.FnShapesGrow': WHATEVER THE INPUT: true; the input reads as it did. -/
def fnShapesGrowSpec : ChangeSpec := { name := "fnShapesGrow", fn := fun _ => fun
  | [d1, d2] => { results := [.lit (.bool true)], args := [d1, d2] }
  | _ => none }
def fnShapesGrowRow : OpenClaim := { program := "ytjedhjeijpbobaa", sum := "78706f7515865a4a0c238b6b7d8585d2984e4d8d7326b4fba05a4ee670a460de", func := "loop.example/g01162/laws.FnShapesGrow", spec := "fnShapesGrow", unfollowed := true, recurses := true, plainKeys := false, apart := false }
def FnShapesGrowSaid : Prop := fnShapesGrowRow.holds Try.pinned (OpenSpec.ofChange fnShapesGrowSpec)

/-- ITS FALSE NEIGHBOUR: 'it returns false'. Refute it at one input. -/
def fnShapesGrowWrong : ChangeSpec := { name := "fnShapesGrow", fn := fun _ => fun
  | [d1, d2] => { results := [.lit (.bool false)], args := [d1, d2] }
  | _ => none }
def FnShapesGrowWrongFalsely : Prop := fnShapesGrowRow.holds Try.pinned (OpenSpec.ofChange fnShapesGrowWrong)

/-- 'laws.FnExactLineEnds': WHATEVER THE INPUT: true; the input reads as it did. -/
def fnExactLineEndsSpec : ChangeSpec := { name := "fnExactLineEnds", fn := fun _ => fun
  | [d1, d2] => { results := [.lit (.bool true)], args := [d1, d2] }
  | _ => none }
def fnExactLineEndsRow : OpenClaim := { program := "ytjedhjeijpbobaa", sum := "78706f7515865a4a0c238b6b7d8585d2984e4d8d7326b4fba05a4ee670a460de", func := "loop.example/g01162/laws.FnExactLineEnds", spec := "fnExactLineEnds", unfollowed := true, recurses := true, plainKeys := false, apart := false }
def FnExactLineEndsSaid : Prop := fnExactLineEndsRow.holds Try.pinned (OpenSpec.ofChange fnExactLineEndsSpec)

/-- ITS FALSE NEIGHBOUR: 'it returns false'. Refute it at one input. -/
def fnExactLineEndsWrong : ChangeSpec := { name := "fnExactLineEnds", fn := fun _ => fun
  | [d1, d2] => { results := [.lit (.bool false)], args := [d1, d2] }
  | _ => none }
def FnExactLineEndsWrongFalsely : Prop := fnExactLineEndsRow.holds Try.pinned (OpenSpec.ofChange fnExactLineEndsWrong)

/-- 'laws.FnExactShapeRows': WHATEVER THE INPUT: true; the input reads as it did. -/
def fnExactShapeRowsSpec : ChangeSpec := { name := "fnExactShapeRows", fn := fun _ => fun
  | [d1, d2] => { results := [.lit (.bool true)], args := [d1, d2] }
  | _ => none }
def fnExactShapeRowsRow : OpenClaim := { program := "ytjedhjeijpbobaa", sum := "78706f7515865a4a0c238b6b7d8585d2984e4d8d7326b4fba05a4ee670a460de", func := "loop.example/g01162/laws.FnExactShapeRows", spec := "fnExactShapeRows", unfollowed := true, recurses := true, plainKeys := false, apart := false }
def FnExactShapeRowsSaid : Prop := fnExactShapeRowsRow.holds Try.pinned (OpenSpec.ofChange fnExactShapeRowsSpec)

/-- ITS FALSE NEIGHBOUR: 'it returns false'. Refute it at one input. -/
def fnExactShapeRowsWrong : ChangeSpec := { name := "fnExactShapeRows", fn := fun _ => fun
  | [d1, d2] => { results := [.lit (.bool false)], args := [d1, d2] }
  | _ => none }
def FnExactShapeRowsWrongFalsely : Prop := fnExactShapeRowsRow.holds Try.pinned (OpenSpec.ofChange fnExactShapeRowsWrong)

/-- 'laws.FnExactTurnCells': WHATEVER THE INPUT: true; the input reads as it did. -/
def fnExactTurnCellsSpec : ChangeSpec := { name := "fnExactTurnCells", fn := fun _ => fun
  | [d] => { results := [.lit (.bool true)], args := [d] }
  | _ => none }
def fnExactTurnCellsRow : OpenClaim := { program := "ytjedhjeijpbobaa", sum := "78706f7515865a4a0c238b6b7d8585d2984e4d8d7326b4fba05a4ee670a460de", func := "loop.example/g01162/laws.FnExactTurnCells", spec := "fnExactTurnCells", unfollowed := true, recurses := true, plainKeys := false, apart := false }
def FnExactTurnCellsSaid : Prop := fnExactTurnCellsRow.holds Try.pinned (OpenSpec.ofChange fnExactTurnCellsSpec)

/-- ITS FALSE NEIGHBOUR: 'it returns false'. Refute it at one input. -/
def fnExactTurnCellsWrong : ChangeSpec := { name := "fnExactTurnCells", fn := fun _ => fun
  | [d] => { results := [.lit (.bool false)], args := [d] }
  | _ => none }
def FnExactTurnCellsWrongFalsely : Prop := fnExactTurnCellsRow.holds Try.pinned (OpenSpec.ofChange fnExactTurnCellsWrong)

/-- 'laws.FnExactHeapCells': WHATEVER THE INPUT: true; the input reads as it did. -/
def fnExactHeapCellsSpec : ChangeSpec := { name := "fnExactHeapCells", fn := fun _ => fun
  | [d] => { results := [.lit (.bool true)], args := [d] }
  | _ => none }
def fnExactHeapCellsRow : OpenClaim := { program := "ytjedhjeijpbobaa", sum := "78706f7515865a4a0c238b6b7d8585d2984e4d8d7326b4fba05a4ee670a460de", func := "loop.example/g01162/laws.FnExactHeapCells", spec := "fnExactHeapCells", unfollowed := true, recurses := true, plainKeys := false, apart := false }
def FnExactHeapCellsSaid : Prop := fnExactHeapCellsRow.holds Try.pinned (OpenSpec.ofChange fnExactHeapCellsSpec)

/-- ITS FALSE NEIGHBOUR: 'it returns false'. Refute it at one input. -/
def fnExactHeapCellsWrong : ChangeSpec := { name := "fnExactHeapCells", fn := fun _ => fun
  | [d] => { results := [.lit (.bool false)], args := [d] }
  | _ => none }
def FnExactHeapCellsWrongFalsely : Prop := fnExactHeapCellsRow.holds Try.pinned (OpenSpec.ofChange fnExactHeapCellsWrong)

/-- 'laws.FnExactGrownCells': WHATEVER THE INPUT: true; the input reads as it did. -/
def fnExactGrownCellsSpec : ChangeSpec := { name := "fnExactGrownCells", fn := fun _ => fun
  | [d1, d2] => { results := [.lit (.bool true)], args := [d1, d2] }
  | _ => none }
def fnExactGrownCellsRow : OpenClaim := { program := "ytjedhjeijpbobaa", sum := "78706f7515865a4a0c238b6b7d8585d2984e4d8d7326b4fba05a4ee670a460de", func := "loop.example/g01162/laws.FnExactGrownCells", spec := "fnExactGrownCells", unfollowed := true, recurses := true, plainKeys := false, apart := false }
def FnExactGrownCellsSaid : Prop := fnExactGrownCellsRow.holds Try.pinned (OpenSpec.ofChange fnExactGrownCellsSpec)

/-- ITS FALSE NEIGHBOUR: 'it returns false'. Refute it at one input. -/
def fnExactGrownCellsWrong : ChangeSpec := { name := "fnExactGrownCells", fn := fun _ => fun
  | [d1, d2] => { results := [.lit (.bool false)], args := [d1, d2] }
  | _ => none }
def FnExactGrownCellsWrongFalsely : Prop := fnExactGrownCellsRow.holds Try.pinned (OpenSpec.ofChange fnExactGrownCellsWrong)

/-- 'laws.FnLinesAndHeaps': WHATEVER THE INPUT: true; the input reads as it did. -/
def fnLinesAndHeapsSpec : ChangeSpec := { name := "fnLinesAndHeaps", fn := fun _ => fun
  | [d1, d2] => { results := [.lit (.bool true)], args := [d1, d2] }
  | _ => none }
def fnLinesAndHeapsRow : OpenClaim := { program := "ytjedhjeijpbobaa", sum := "78706f7515865a4a0c238b6b7d8585d2984e4d8d7326b4fba05a4ee670a460de", func := "loop.example/g01162/laws.FnLinesAndHeaps", spec := "fnLinesAndHeaps", unfollowed := true, recurses := true, plainKeys := false, apart := false }
def FnLinesAndHeapsSaid : Prop := fnLinesAndHeapsRow.holds Try.pinned (OpenSpec.ofChange fnLinesAndHeapsSpec)

/-- ITS FALSE NEIGHBOUR: 'it returns false'. Refute it at one input. -/
def fnLinesAndHeapsWrong : ChangeSpec := { name := "fnLinesAndHeaps", fn := fun _ => fun
  | [d1, d2] => { results := [.lit (.bool false)], args := [d1, d2] }
  | _ => none }
def FnLinesAndHeapsWrongFalsely : Prop := fnLinesAndHeapsRow.holds Try.pinned (OpenSpec.ofChange fnLinesAndHeapsWrong)

/- THE SECOND FORM. 'bulk': how many values and letters a reading holds, each counted each time it is reached (what is shared counts as often as it is met; a slice's spare places count too). A statement '..UptoSaid' is the law's where the arguments, and the package variables that the reading takes, are together of bulk at most 1048576: NARROWER than '..Said'. Prove '..Said' where nothing that the law and all that it calls make is longer than what came in: it says more and counts as full. Else prove '..UptoSaid'. A law counts once. -/
mutual
def uptoBulk {H : Type} : DataW H → Nat
  | .lit (.string bytes) => bytes.length + 1
  | .lit _ => 1
  | .nil => 1
  | .ptr d => uptoBulk d + 1
  | .slice elems spare => uptoBulkAll elems + uptoBulkAll spare + 1
  | .agg parts => uptoBulkAll parts + 1
  | .iface _ d => uptoBulk d + 1
  | .map entries => uptoBulkEntries entries + 1
  | .held _ => 1
def uptoBulkAll {H : Type} : List (DataW H) → Nat
  | [] => 0
  | d :: r => uptoBulk d + uptoBulkAll r
def uptoBulkEntries {H : Type} : List (Lit × DataW H) → Nat
  | [] => 0
  | x :: r => uptoBulkEntry x + uptoBulkEntries r
def uptoBulkEntry {H : Type} : Lit × DataW H → Nat
  | (.string bytes, d) => bytes.length + uptoBulk d + 1
  | (_, d) => uptoBulk d + 1
 end
def uptoSmall : (H : Type) → List (DataW H) → Bool := fun _ ds => decide (uptoBulkAll ds ≤ 1048576)
def OpenSpec.upto (s : _root_.Go.ChangeSpec) : _root_.Go.OpenSpec := { _root_.Go.OpenSpec.ofChange s with cond := some uptoSmall }

/-- 'laws.FnExactStepsToGrow', WHERE WHAT IT READS IS OF BULK AT MOST 1048576: true; the input reads as it did. -/
def fnExactStepsToGrowUptoRow : OpenClaim := { program := "ytjedhjeijpbobaa", sum := "78706f7515865a4a0c238b6b7d8585d2984e4d8d7326b4fba05a4ee670a460de", func := "loop.example/g01162/laws.FnExactStepsToGrow", spec := "fnExactStepsToGrow", unfollowed := true, recurses := true, plainKeys := false, apart := false, narrowed := true }
def FnExactStepsToGrowUptoSaid : Prop := fnExactStepsToGrowUptoRow.holds Try.pinned (OpenSpec.upto fnExactStepsToGrowSpec)

/-- 'laws.FnExactLineSteps', WHERE WHAT IT READS IS OF BULK AT MOST 1048576: true; the input reads as it did. -/
def fnExactLineStepsUptoRow : OpenClaim := { program := "ytjedhjeijpbobaa", sum := "78706f7515865a4a0c238b6b7d8585d2984e4d8d7326b4fba05a4ee670a460de", func := "loop.example/g01162/laws.FnExactLineSteps", spec := "fnExactLineSteps", unfollowed := true, recurses := true, plainKeys := false, apart := false, narrowed := true }
def FnExactLineStepsUptoSaid : Prop := fnExactLineStepsUptoRow.holds Try.pinned (OpenSpec.upto fnExactLineStepsSpec)

/-- 'laws.FnExactIsGrown', WHERE WHAT IT READS IS OF BULK AT MOST 1048576: true; the input reads as it did. -/
def fnExactIsGrownUptoRow : OpenClaim := { program := "ytjedhjeijpbobaa", sum := "78706f7515865a4a0c238b6b7d8585d2984e4d8d7326b4fba05a4ee670a460de", func := "loop.example/g01162/laws.FnExactIsGrown", spec := "fnExactIsGrown", unfollowed := true, recurses := true, plainKeys := false, apart := false, narrowed := true }
def FnExactIsGrownUptoSaid : Prop := fnExactIsGrownUptoRow.holds Try.pinned (OpenSpec.upto fnExactIsGrownSpec)

/-- 'laws.FnExactRotorOfCell', WHERE WHAT IT READS IS OF BULK AT MOST 1048576: true; the input reads as it did. -/
def fnExactRotorOfCellUptoRow : OpenClaim := { program := "ytjedhjeijpbobaa", sum := "78706f7515865a4a0c238b6b7d8585d2984e4d8d7326b4fba05a4ee670a460de", func := "loop.example/g01162/laws.FnExactRotorOfCell", spec := "fnExactRotorOfCell", unfollowed := true, recurses := true, plainKeys := false, apart := false, narrowed := true }
def FnExactRotorOfCellUptoSaid : Prop := fnExactRotorOfCellUptoRow.holds Try.pinned (OpenSpec.upto fnExactRotorOfCellSpec)

/-- 'laws.FnExactOuterSquare', WHERE WHAT IT READS IS OF BULK AT MOST 1048576: true; the input reads as it did. -/
def fnExactOuterSquareUptoRow : OpenClaim := { program := "ytjedhjeijpbobaa", sum := "78706f7515865a4a0c238b6b7d8585d2984e4d8d7326b4fba05a4ee670a460de", func := "loop.example/g01162/laws.FnExactOuterSquare", spec := "fnExactOuterSquare", unfollowed := true, recurses := true, plainKeys := false, apart := false, narrowed := true }
def FnExactOuterSquareUptoSaid : Prop := fnExactOuterSquareUptoRow.holds Try.pinned (OpenSpec.upto fnExactOuterSquareSpec)

/-- 'laws.FnExactCellOfChip', WHERE WHAT IT READS IS OF BULK AT MOST 1048576: true; the input reads as it did. -/
def fnExactCellOfChipUptoRow : OpenClaim := { program := "ytjedhjeijpbobaa", sum := "78706f7515865a4a0c238b6b7d8585d2984e4d8d7326b4fba05a4ee670a460de", func := "loop.example/g01162/laws.FnExactCellOfChip", spec := "fnExactCellOfChip", unfollowed := true, recurses := true, plainKeys := false, apart := false, narrowed := true }
def FnExactCellOfChipUptoSaid : Prop := fnExactCellOfChipUptoRow.holds Try.pinned (OpenSpec.upto fnExactCellOfChipSpec)

/-- 'laws.FnExactInnerSquare', WHERE WHAT IT READS IS OF BULK AT MOST 1048576: true; the input reads as it did. -/
def fnExactInnerSquareUptoRow : OpenClaim := { program := "ytjedhjeijpbobaa", sum := "78706f7515865a4a0c238b6b7d8585d2984e4d8d7326b4fba05a4ee670a460de", func := "loop.example/g01162/laws.FnExactInnerSquare", spec := "fnExactInnerSquare", unfollowed := true, recurses := true, plainKeys := false, apart := false, narrowed := true }
def FnExactInnerSquareUptoSaid : Prop := fnExactInnerSquareUptoRow.holds Try.pinned (OpenSpec.upto fnExactInnerSquareSpec)

/-- 'laws.FnExactHeapSquare', WHERE WHAT IT READS IS OF BULK AT MOST 1048576: true; the input reads as it did. -/
def fnExactHeapSquareUptoRow : OpenClaim := { program := "ytjedhjeijpbobaa", sum := "78706f7515865a4a0c238b6b7d8585d2984e4d8d7326b4fba05a4ee670a460de", func := "loop.example/g01162/laws.FnExactHeapSquare", spec := "fnExactHeapSquare", plainKeys := false, apart := false, narrowed := true }
def FnExactHeapSquareUptoSaid : Prop := fnExactHeapSquareUptoRow.holds Try.pinned (OpenSpec.upto fnExactHeapSquareSpec)

/-- 'laws.FnShapesGrow', WHERE WHAT IT READS IS OF BULK AT MOST 1048576: true; the input reads as it did. -/
def fnShapesGrowUptoRow : OpenClaim := { program := "ytjedhjeijpbobaa", sum := "78706f7515865a4a0c238b6b7d8585d2984e4d8d7326b4fba05a4ee670a460de", func := "loop.example/g01162/laws.FnShapesGrow", spec := "fnShapesGrow", unfollowed := true, recurses := true, plainKeys := false, apart := false, narrowed := true }
def FnShapesGrowUptoSaid : Prop := fnShapesGrowUptoRow.holds Try.pinned (OpenSpec.upto fnShapesGrowSpec)

/-- 'laws.FnExactLineEnds', WHERE WHAT IT READS IS OF BULK AT MOST 1048576: true; the input reads as it did. -/
def fnExactLineEndsUptoRow : OpenClaim := { program := "ytjedhjeijpbobaa", sum := "78706f7515865a4a0c238b6b7d8585d2984e4d8d7326b4fba05a4ee670a460de", func := "loop.example/g01162/laws.FnExactLineEnds", spec := "fnExactLineEnds", unfollowed := true, recurses := true, plainKeys := false, apart := false, narrowed := true }
def FnExactLineEndsUptoSaid : Prop := fnExactLineEndsUptoRow.holds Try.pinned (OpenSpec.upto fnExactLineEndsSpec)

/-- 'laws.FnExactShapeRows', WHERE WHAT IT READS IS OF BULK AT MOST 1048576: true; the input reads as it did. -/
def fnExactShapeRowsUptoRow : OpenClaim := { program := "ytjedhjeijpbobaa", sum := "78706f7515865a4a0c238b6b7d8585d2984e4d8d7326b4fba05a4ee670a460de", func := "loop.example/g01162/laws.FnExactShapeRows", spec := "fnExactShapeRows", unfollowed := true, recurses := true, plainKeys := false, apart := false, narrowed := true }
def FnExactShapeRowsUptoSaid : Prop := fnExactShapeRowsUptoRow.holds Try.pinned (OpenSpec.upto fnExactShapeRowsSpec)

/-- 'laws.FnExactTurnCells', WHERE WHAT IT READS IS OF BULK AT MOST 1048576: true; the input reads as it did. -/
def fnExactTurnCellsUptoRow : OpenClaim := { program := "ytjedhjeijpbobaa", sum := "78706f7515865a4a0c238b6b7d8585d2984e4d8d7326b4fba05a4ee670a460de", func := "loop.example/g01162/laws.FnExactTurnCells", spec := "fnExactTurnCells", unfollowed := true, recurses := true, plainKeys := false, apart := false, narrowed := true }
def FnExactTurnCellsUptoSaid : Prop := fnExactTurnCellsUptoRow.holds Try.pinned (OpenSpec.upto fnExactTurnCellsSpec)

/-- 'laws.FnExactHeapCells', WHERE WHAT IT READS IS OF BULK AT MOST 1048576: true; the input reads as it did. -/
def fnExactHeapCellsUptoRow : OpenClaim := { program := "ytjedhjeijpbobaa", sum := "78706f7515865a4a0c238b6b7d8585d2984e4d8d7326b4fba05a4ee670a460de", func := "loop.example/g01162/laws.FnExactHeapCells", spec := "fnExactHeapCells", unfollowed := true, recurses := true, plainKeys := false, apart := false, narrowed := true }
def FnExactHeapCellsUptoSaid : Prop := fnExactHeapCellsUptoRow.holds Try.pinned (OpenSpec.upto fnExactHeapCellsSpec)

/-- 'laws.FnExactGrownCells', WHERE WHAT IT READS IS OF BULK AT MOST 1048576: true; the input reads as it did. -/
def fnExactGrownCellsUptoRow : OpenClaim := { program := "ytjedhjeijpbobaa", sum := "78706f7515865a4a0c238b6b7d8585d2984e4d8d7326b4fba05a4ee670a460de", func := "loop.example/g01162/laws.FnExactGrownCells", spec := "fnExactGrownCells", unfollowed := true, recurses := true, plainKeys := false, apart := false, narrowed := true }
def FnExactGrownCellsUptoSaid : Prop := fnExactGrownCellsUptoRow.holds Try.pinned (OpenSpec.upto fnExactGrownCellsSpec)

/-- 'laws.FnLinesAndHeaps', WHERE WHAT IT READS IS OF BULK AT MOST 1048576: true; the input reads as it did. -/
def fnLinesAndHeapsUptoRow : OpenClaim := { program := "ytjedhjeijpbobaa", sum := "78706f7515865a4a0c238b6b7d8585d2984e4d8d7326b4fba05a4ee670a460de", func := "loop.example/g01162/laws.FnLinesAndHeaps", spec := "fnLinesAndHeaps", unfollowed := true, recurses := true, plainKeys := false, apart := false, narrowed := true }
def FnLinesAndHeapsUptoSaid : Prop := fnLinesAndHeapsUptoRow.holds Try.pinned (OpenSpec.upto fnLinesAndHeapsSpec)

end Rows
end Go.Proofs.Ytjedhjeijpbobaa
