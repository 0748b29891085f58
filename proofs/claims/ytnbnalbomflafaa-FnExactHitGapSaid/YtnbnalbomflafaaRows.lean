/-
  No cell of these rows narrows 'for every input' (looked for: loops, veiled, ifaces, maps, wideKeys, modest, calm, conditions, laid).
  DERIVED. THE GIVEN ROWS OF THIS SEAT. 16 by the template 'for every input the law returns true; each argument reads behind the call as it read before'; 0 by the template 'total and deterministic' (their statements: YtnbnalbomflafaaTotals.lean).
  GIVEN WITH THE SEED: the statements are not yours to turn. If you find one false, say at which input.
  Laid BY PROGRAM, IN A SANDBOX (cutbox-rows.mjs): the forced cells as the released guide's own fill.sh prints them over the translation 01d0c7f00e47d503… (all of the seat's roots in one cut). By AI agents, Wed Nov 11 2026. No macro, syntax, notation, axiom, sorry.
-/
import Derived.Test.YtnbnalbomflafaaChecked
import GoSem.Claim
import GoSem.ClaimJoined
import GoSem.ClaimMapViews
import Derived.JoinedTies
import Derived.KernelRfl
namespace Go.Proofs.Ytnbnalbomflafaa
/- THE CELL 'sum', in the pinned program and in every row, IS THE sha256 OF THE DUMP (.gsa) THAT YtnbnalbomflafaaProg.lean LOADS. Nothing in Lean hashes anything: it is a label: what it is worth is what the hold of that sum in a sandbox is worth. -/
noncomputable def Try.pinned : Pinned := { name := "ytnbnalbomflafaa", sum := "01d0c7f00e47d5036b07fd8e5358449513ef6a0d7c1978231e9abbb48a8164cf", checked := Try.checked }
namespace Rows
def none {H : Type} : Left H := { results := [], args := [] }

/-- 'laws.FnExactShareOfExit': WHATEVER THE INPUT: true; the input reads as it did. -/
def fnExactShareOfExitSpec : ChangeSpec := { name := "fnExactShareOfExit", fn := fun _ => fun
  | [d1, d2, d3] => { results := [.lit (.bool true)], args := [d1, d2, d3] }
  | _ => none }
def fnExactShareOfExitRow : OpenClaim := { program := "ytnbnalbomflafaa", sum := "01d0c7f00e47d5036b07fd8e5358449513ef6a0d7c1978231e9abbb48a8164cf", func := "loop.example/g01162/laws.FnExactShareOfExit", spec := "fnExactShareOfExit", unfollowed := true, recurses := true, apart := false }
def FnExactShareOfExitSaid : Prop := fnExactShareOfExitRow.holds Try.pinned (OpenSpec.ofChange fnExactShareOfExitSpec)

/-- ITS FALSE NEIGHBOUR: 'it returns false'. Refute it at one input. -/
def fnExactShareOfExitWrong : ChangeSpec := { name := "fnExactShareOfExit", fn := fun _ => fun
  | [d1, d2, d3] => { results := [.lit (.bool false)], args := [d1, d2, d3] }
  | _ => none }
def FnExactShareOfExitWrongFalsely : Prop := fnExactShareOfExitRow.holds Try.pinned (OpenSpec.ofChange fnExactShareOfExitWrong)

/-- 'laws.FnExactCanEnd': WHATEVER THE INPUT: true; the input reads as it did. -/
def fnExactCanEndSpec : ChangeSpec := { name := "fnExactCanEnd", fn := fun _ => fun
  | [d1, d2, d3] => { results := [.lit (.bool true)], args := [d1, d2, d3] }
  | _ => none }
def fnExactCanEndRow : OpenClaim := { program := "ytnbnalbomflafaa", sum := "01d0c7f00e47d5036b07fd8e5358449513ef6a0d7c1978231e9abbb48a8164cf", func := "loop.example/g01162/laws.FnExactCanEnd", spec := "fnExactCanEnd", unfollowed := true, recurses := true, apart := false }
def FnExactCanEndSaid : Prop := fnExactCanEndRow.holds Try.pinned (OpenSpec.ofChange fnExactCanEndSpec)

/-- ITS FALSE NEIGHBOUR: 'it returns false'. Refute it at one input. -/
def fnExactCanEndWrong : ChangeSpec := { name := "fnExactCanEnd", fn := fun _ => fun
  | [d1, d2, d3] => { results := [.lit (.bool false)], args := [d1, d2, d3] }
  | _ => none }
def FnExactCanEndWrongFalsely : Prop := fnExactCanEndRow.holds Try.pinned (OpenSpec.ofChange fnExactCanEndWrong)

/-- 'laws.FnExactStepsOfHits': WHATEVER THE INPUT: true; the input reads as it did. -/
def fnExactStepsOfHitsSpec : ChangeSpec := { name := "fnExactStepsOfHits", fn := fun _ => fun
  | [d1, d2, d3, d4, d5, d6] => { results := [.lit (.bool true)], args := [d1, d2, d3, d4, d5, d6] }
  | _ => none }
def fnExactStepsOfHitsRow : OpenClaim := { program := "ytnbnalbomflafaa", sum := "01d0c7f00e47d5036b07fd8e5358449513ef6a0d7c1978231e9abbb48a8164cf", func := "loop.example/g01162/laws.FnExactStepsOfHits", spec := "fnExactStepsOfHits", unfollowed := true, recurses := true, apart := false }
def FnExactStepsOfHitsSaid : Prop := fnExactStepsOfHitsRow.holds Try.pinned (OpenSpec.ofChange fnExactStepsOfHitsSpec)

/-- ITS FALSE NEIGHBOUR: 'it returns false'. Refute it at one input. -/
def fnExactStepsOfHitsWrong : ChangeSpec := { name := "fnExactStepsOfHits", fn := fun _ => fun
  | [d1, d2, d3, d4, d5, d6] => { results := [.lit (.bool false)], args := [d1, d2, d3, d4, d5, d6] }
  | _ => none }
def FnExactStepsOfHitsWrongFalsely : Prop := fnExactStepsOfHitsRow.holds Try.pinned (OpenSpec.ofChange fnExactStepsOfHitsWrong)

/-- 'laws.FnExactHitsOf': WHATEVER THE INPUT: true; the input reads as it did. -/
def fnExactHitsOfSpec : ChangeSpec := { name := "fnExactHitsOf", fn := fun _ => fun
  | [d1, d2, d3, d4, d5, d6] => { results := [.lit (.bool true)], args := [d1, d2, d3, d4, d5, d6] }
  | _ => none }
def fnExactHitsOfRow : OpenClaim := { program := "ytnbnalbomflafaa", sum := "01d0c7f00e47d5036b07fd8e5358449513ef6a0d7c1978231e9abbb48a8164cf", func := "loop.example/g01162/laws.FnExactHitsOf", spec := "fnExactHitsOf", unfollowed := true, recurses := true, apart := false }
def FnExactHitsOfSaid : Prop := fnExactHitsOfRow.holds Try.pinned (OpenSpec.ofChange fnExactHitsOfSpec)

/-- ITS FALSE NEIGHBOUR: 'it returns false'. Refute it at one input. -/
def fnExactHitsOfWrong : ChangeSpec := { name := "fnExactHitsOf", fn := fun _ => fun
  | [d1, d2, d3, d4, d5, d6] => { results := [.lit (.bool false)], args := [d1, d2, d3, d4, d5, d6] }
  | _ => none }
def FnExactHitsOfWrongFalsely : Prop := fnExactHitsOfRow.holds Try.pinned (OpenSpec.ofChange fnExactHitsOfWrong)

/-- 'laws.FnExactHitList': WHATEVER THE INPUT: true; the input reads as it did. -/
def fnExactHitListSpec : ChangeSpec := { name := "fnExactHitList", fn := fun _ => fun
  | [d1, d2, d3, d4, d5, d6] => { results := [.lit (.bool true)], args := [d1, d2, d3, d4, d5, d6] }
  | _ => none }
def fnExactHitListRow : OpenClaim := { program := "ytnbnalbomflafaa", sum := "01d0c7f00e47d5036b07fd8e5358449513ef6a0d7c1978231e9abbb48a8164cf", func := "loop.example/g01162/laws.FnExactHitList", spec := "fnExactHitList", unfollowed := true, recurses := true, apart := false }
def FnExactHitListSaid : Prop := fnExactHitListRow.holds Try.pinned (OpenSpec.ofChange fnExactHitListSpec)

/-- ITS FALSE NEIGHBOUR: 'it returns false'. Refute it at one input. -/
def fnExactHitListWrong : ChangeSpec := { name := "fnExactHitList", fn := fun _ => fun
  | [d1, d2, d3, d4, d5, d6] => { results := [.lit (.bool false)], args := [d1, d2, d3, d4, d5, d6] }
  | _ => none }
def FnExactHitListWrongFalsely : Prop := fnExactHitListRow.holds Try.pinned (OpenSpec.ofChange fnExactHitListWrong)

/-- 'laws.FnExactRotorsBehind': WHATEVER THE INPUT: true; the input reads as it did. -/
def fnExactRotorsBehindSpec : ChangeSpec := { name := "fnExactRotorsBehind", fn := fun _ => fun
  | [d1, d2, d3, d4, d5, d6] => { results := [.lit (.bool true)], args := [d1, d2, d3, d4, d5, d6] }
  | _ => none }
def fnExactRotorsBehindRow : OpenClaim := { program := "ytnbnalbomflafaa", sum := "01d0c7f00e47d5036b07fd8e5358449513ef6a0d7c1978231e9abbb48a8164cf", func := "loop.example/g01162/laws.FnExactRotorsBehind", spec := "fnExactRotorsBehind", unfollowed := true, recurses := true, apart := false }
def FnExactRotorsBehindSaid : Prop := fnExactRotorsBehindRow.holds Try.pinned (OpenSpec.ofChange fnExactRotorsBehindSpec)

/-- ITS FALSE NEIGHBOUR: 'it returns false'. Refute it at one input. -/
def fnExactRotorsBehindWrong : ChangeSpec := { name := "fnExactRotorsBehind", fn := fun _ => fun
  | [d1, d2, d3, d4, d5, d6] => { results := [.lit (.bool false)], args := [d1, d2, d3, d4, d5, d6] }
  | _ => none }
def FnExactRotorsBehindWrongFalsely : Prop := fnExactRotorsBehindRow.holds Try.pinned (OpenSpec.ofChange fnExactRotorsBehindWrong)

/-- 'laws.FnExactExpectedSteps': WHATEVER THE INPUT: true; the input reads as it did. -/
def fnExactExpectedStepsSpec : ChangeSpec := { name := "fnExactExpectedSteps", fn := fun _ => fun
  | [d1, d2, d3, d4] => { results := [.lit (.bool true)], args := [d1, d2, d3, d4] }
  | _ => none }
def fnExactExpectedStepsRow : OpenClaim := { program := "ytnbnalbomflafaa", sum := "01d0c7f00e47d5036b07fd8e5358449513ef6a0d7c1978231e9abbb48a8164cf", func := "loop.example/g01162/laws.FnExactExpectedSteps", spec := "fnExactExpectedSteps", unfollowed := true, recurses := true, apart := false }
def FnExactExpectedStepsSaid : Prop := fnExactExpectedStepsRow.holds Try.pinned (OpenSpec.ofChange fnExactExpectedStepsSpec)

/-- ITS FALSE NEIGHBOUR: 'it returns false'. Refute it at one input. -/
def fnExactExpectedStepsWrong : ChangeSpec := { name := "fnExactExpectedSteps", fn := fun _ => fun
  | [d1, d2, d3, d4] => { results := [.lit (.bool false)], args := [d1, d2, d3, d4] }
  | _ => none }
def FnExactExpectedStepsWrongFalsely : Prop := fnExactExpectedStepsRow.holds Try.pinned (OpenSpec.ofChange fnExactExpectedStepsWrong)

/-- 'laws.FnExactHitChance': WHATEVER THE INPUT: true; the input reads as it did. -/
def fnExactHitChanceSpec : ChangeSpec := { name := "fnExactHitChance", fn := fun _ => fun
  | [d1, d2, d3, d4] => { results := [.lit (.bool true)], args := [d1, d2, d3, d4] }
  | _ => none }
def fnExactHitChanceRow : OpenClaim := { program := "ytnbnalbomflafaa", sum := "01d0c7f00e47d5036b07fd8e5358449513ef6a0d7c1978231e9abbb48a8164cf", func := "loop.example/g01162/laws.FnExactHitChance", spec := "fnExactHitChance", unfollowed := true, recurses := true, apart := false }
def FnExactHitChanceSaid : Prop := fnExactHitChanceRow.holds Try.pinned (OpenSpec.ofChange fnExactHitChanceSpec)

/-- ITS FALSE NEIGHBOUR: 'it returns false'. Refute it at one input. -/
def fnExactHitChanceWrong : ChangeSpec := { name := "fnExactHitChance", fn := fun _ => fun
  | [d1, d2, d3, d4] => { results := [.lit (.bool false)], args := [d1, d2, d3, d4] }
  | _ => none }
def FnExactHitChanceWrongFalsely : Prop := fnExactHitChanceRow.holds Try.pinned (OpenSpec.ofChange fnExactHitChanceWrong)

/-- 'laws.FnExactHitBound': WHATEVER THE INPUT: true; the input reads as it did. -/
def fnExactHitBoundSpec : ChangeSpec := { name := "fnExactHitBound", fn := fun _ => fun
  | [d1, d2, d3] => { results := [.lit (.bool true)], args := [d1, d2, d3] }
  | _ => none }
def fnExactHitBoundRow : OpenClaim := { program := "ytnbnalbomflafaa", sum := "01d0c7f00e47d5036b07fd8e5358449513ef6a0d7c1978231e9abbb48a8164cf", func := "loop.example/g01162/laws.FnExactHitBound", spec := "fnExactHitBound", unfollowed := true, recurses := true, apart := false }
def FnExactHitBoundSaid : Prop := fnExactHitBoundRow.holds Try.pinned (OpenSpec.ofChange fnExactHitBoundSpec)

/-- ITS FALSE NEIGHBOUR: 'it returns false'. Refute it at one input. -/
def fnExactHitBoundWrong : ChangeSpec := { name := "fnExactHitBound", fn := fun _ => fun
  | [d1, d2, d3] => { results := [.lit (.bool false)], args := [d1, d2, d3] }
  | _ => none }
def FnExactHitBoundWrongFalsely : Prop := fnExactHitBoundRow.holds Try.pinned (OpenSpec.ofChange fnExactHitBoundWrong)

/-- 'laws.FnExactChancesOf': WHATEVER THE INPUT: true; the input reads as it did. -/
def fnExactChancesOfSpec : ChangeSpec := { name := "fnExactChancesOf", fn := fun _ => fun
  | [d1, d2, d3] => { results := [.lit (.bool true)], args := [d1, d2, d3] }
  | _ => none }
def fnExactChancesOfRow : OpenClaim := { program := "ytnbnalbomflafaa", sum := "01d0c7f00e47d5036b07fd8e5358449513ef6a0d7c1978231e9abbb48a8164cf", func := "loop.example/g01162/laws.FnExactChancesOf", spec := "fnExactChancesOf", unfollowed := true, recurses := true, apart := false }
def FnExactChancesOfSaid : Prop := fnExactChancesOfRow.holds Try.pinned (OpenSpec.ofChange fnExactChancesOfSpec)

/-- ITS FALSE NEIGHBOUR: 'it returns false'. Refute it at one input. -/
def fnExactChancesOfWrong : ChangeSpec := { name := "fnExactChancesOf", fn := fun _ => fun
  | [d1, d2, d3] => { results := [.lit (.bool false)], args := [d1, d2, d3] }
  | _ => none }
def FnExactChancesOfWrongFalsely : Prop := fnExactChancesOfRow.holds Try.pinned (OpenSpec.ofChange fnExactChancesOfWrong)

/-- 'laws.FnExactHitGap': WHATEVER THE INPUT: true; the input reads as it did. -/
def fnExactHitGapSpec : ChangeSpec := { name := "fnExactHitGap", fn := fun _ => fun
  | [d1, d2, d3, d4, d5, d6] => { results := [.lit (.bool true)], args := [d1, d2, d3, d4, d5, d6] }
  | _ => none }
def fnExactHitGapRow : OpenClaim := { program := "ytnbnalbomflafaa", sum := "01d0c7f00e47d5036b07fd8e5358449513ef6a0d7c1978231e9abbb48a8164cf", func := "loop.example/g01162/laws.FnExactHitGap", spec := "fnExactHitGap", unfollowed := true, recurses := true, apart := false }
def FnExactHitGapSaid : Prop := fnExactHitGapRow.holds Try.pinned (OpenSpec.ofChange fnExactHitGapSpec)

/-- ITS FALSE NEIGHBOUR: 'it returns false'. Refute it at one input. -/
def fnExactHitGapWrong : ChangeSpec := { name := "fnExactHitGap", fn := fun _ => fun
  | [d1, d2, d3, d4, d5, d6] => { results := [.lit (.bool false)], args := [d1, d2, d3, d4, d5, d6] }
  | _ => none }
def FnExactHitGapWrongFalsely : Prop := fnExactHitGapRow.holds Try.pinned (OpenSpec.ofChange fnExactHitGapWrong)

/-- 'laws.FnExactAreStacks': WHATEVER THE INPUT: true; the input reads as it did. -/
def fnExactAreStacksSpec : ChangeSpec := { name := "fnExactAreStacks", fn := fun _ => fun
  | [d1, d2, d3] => { results := [.lit (.bool true)], args := [d1, d2, d3] }
  | _ => none }
def fnExactAreStacksRow : OpenClaim := { program := "ytnbnalbomflafaa", sum := "01d0c7f00e47d5036b07fd8e5358449513ef6a0d7c1978231e9abbb48a8164cf", func := "loop.example/g01162/laws.FnExactAreStacks", spec := "fnExactAreStacks", unfollowed := true, recurses := true, apart := false }
def FnExactAreStacksSaid : Prop := fnExactAreStacksRow.holds Try.pinned (OpenSpec.ofChange fnExactAreStacksSpec)

/-- ITS FALSE NEIGHBOUR: 'it returns false'. Refute it at one input. -/
def fnExactAreStacksWrong : ChangeSpec := { name := "fnExactAreStacks", fn := fun _ => fun
  | [d1, d2, d3] => { results := [.lit (.bool false)], args := [d1, d2, d3] }
  | _ => none }
def FnExactAreStacksWrongFalsely : Prop := fnExactAreStacksRow.holds Try.pinned (OpenSpec.ofChange fnExactAreStacksWrong)

/-- 'laws.FnExactTopsOf': WHATEVER THE INPUT: true; the input reads as it did. -/
def fnExactTopsOfSpec : ChangeSpec := { name := "fnExactTopsOf", fn := fun _ => fun
  | [d1, d2, d3] => { results := [.lit (.bool true)], args := [d1, d2, d3] }
  | _ => none }
def fnExactTopsOfRow : OpenClaim := { program := "ytnbnalbomflafaa", sum := "01d0c7f00e47d5036b07fd8e5358449513ef6a0d7c1978231e9abbb48a8164cf", func := "loop.example/g01162/laws.FnExactTopsOf", spec := "fnExactTopsOf", unfollowed := true, recurses := true, apart := false }
def FnExactTopsOfSaid : Prop := fnExactTopsOfRow.holds Try.pinned (OpenSpec.ofChange fnExactTopsOfSpec)

/-- ITS FALSE NEIGHBOUR: 'it returns false'. Refute it at one input. -/
def fnExactTopsOfWrong : ChangeSpec := { name := "fnExactTopsOf", fn := fun _ => fun
  | [d1, d2, d3] => { results := [.lit (.bool false)], args := [d1, d2, d3] }
  | _ => none }
def FnExactTopsOfWrongFalsely : Prop := fnExactTopsOfRow.holds Try.pinned (OpenSpec.ofChange fnExactTopsOfWrong)

/-- 'laws.FnExactRotorStacks': WHATEVER THE INPUT: true; the input reads as it did. -/
def fnExactRotorStacksSpec : ChangeSpec := { name := "fnExactRotorStacks", fn := fun _ => fun
  | [d1, d2, d3, d4] => { results := [.lit (.bool true)], args := [d1, d2, d3, d4] }
  | _ => none }
def fnExactRotorStacksRow : OpenClaim := { program := "ytnbnalbomflafaa", sum := "01d0c7f00e47d5036b07fd8e5358449513ef6a0d7c1978231e9abbb48a8164cf", func := "loop.example/g01162/laws.FnExactRotorStacks", spec := "fnExactRotorStacks", unfollowed := true, recurses := true, apart := false }
def FnExactRotorStacksSaid : Prop := fnExactRotorStacksRow.holds Try.pinned (OpenSpec.ofChange fnExactRotorStacksSpec)

/-- ITS FALSE NEIGHBOUR: 'it returns false'. Refute it at one input. -/
def fnExactRotorStacksWrong : ChangeSpec := { name := "fnExactRotorStacks", fn := fun _ => fun
  | [d1, d2, d3, d4] => { results := [.lit (.bool false)], args := [d1, d2, d3, d4] }
  | _ => none }
def FnExactRotorStacksWrongFalsely : Prop := fnExactRotorStacksRow.holds Try.pinned (OpenSpec.ofChange fnExactRotorStacksWrong)

/-- 'laws.FnExactCyclesOf': WHATEVER THE INPUT: true; the input reads as it did. -/
def fnExactCyclesOfSpec : ChangeSpec := { name := "fnExactCyclesOf", fn := fun _ => fun
  | [d1, d2, d3] => { results := [.lit (.bool true)], args := [d1, d2, d3] }
  | _ => none }
def fnExactCyclesOfRow : OpenClaim := { program := "ytnbnalbomflafaa", sum := "01d0c7f00e47d5036b07fd8e5358449513ef6a0d7c1978231e9abbb48a8164cf", func := "loop.example/g01162/laws.FnExactCyclesOf", spec := "fnExactCyclesOf", unfollowed := true, recurses := true, apart := false }
def FnExactCyclesOfSaid : Prop := fnExactCyclesOfRow.holds Try.pinned (OpenSpec.ofChange fnExactCyclesOfSpec)

/-- ITS FALSE NEIGHBOUR: 'it returns false'. Refute it at one input. -/
def fnExactCyclesOfWrong : ChangeSpec := { name := "fnExactCyclesOf", fn := fun _ => fun
  | [d1, d2, d3] => { results := [.lit (.bool false)], args := [d1, d2, d3] }
  | _ => none }
def FnExactCyclesOfWrongFalsely : Prop := fnExactCyclesOfRow.holds Try.pinned (OpenSpec.ofChange fnExactCyclesOfWrong)

/-- 'laws.FnExactFirstCycle': WHATEVER THE INPUT: true; the input reads as it did. -/
def fnExactFirstCycleSpec : ChangeSpec := { name := "fnExactFirstCycle", fn := fun _ => fun
  | [d1, d2, d3] => { results := [.lit (.bool true)], args := [d1, d2, d3] }
  | _ => none }
def fnExactFirstCycleRow : OpenClaim := { program := "ytnbnalbomflafaa", sum := "01d0c7f00e47d5036b07fd8e5358449513ef6a0d7c1978231e9abbb48a8164cf", func := "loop.example/g01162/laws.FnExactFirstCycle", spec := "fnExactFirstCycle", unfollowed := true, recurses := true, apart := false }
def FnExactFirstCycleSaid : Prop := fnExactFirstCycleRow.holds Try.pinned (OpenSpec.ofChange fnExactFirstCycleSpec)

/-- ITS FALSE NEIGHBOUR: 'it returns false'. Refute it at one input. -/
def fnExactFirstCycleWrong : ChangeSpec := { name := "fnExactFirstCycle", fn := fun _ => fun
  | [d1, d2, d3] => { results := [.lit (.bool false)], args := [d1, d2, d3] }
  | _ => none }
def FnExactFirstCycleWrongFalsely : Prop := fnExactFirstCycleRow.holds Try.pinned (OpenSpec.ofChange fnExactFirstCycleWrong)

/- THE SECOND FORM. 'bulk': how many values and letters a reading holds, each counted each time it is reached (what is shared counts as often as it is met; a slice's spare places count too). A statement '..UptoSaid' is the law's where the arguments, and the package variables that the reading takes, are together of bulk at most 1048576: NARROWER than '..Said'. Prove '..Said' where nothing that the law and all that it calls make is longer than what came in: it says more and counts as full. Else prove '..UptoSaid'. A law counts once. -/
mutual
def uptoBulk {H : Type} : DataW H → Nat
  | .lit (.string bytes) => bytes.length + 1
  | .lit _ => 1
  | .nil => 1
  | .ptr d => uptoBulk d + 1
  | .slice elems spare => uptoBulkAll elems + uptoBulkAll spare + 1
  | .agg parts => uptoBulkAll parts + 1
  | .iface _ d => uptoBulk d + 1
  | .map entries => uptoBulkEntries entries + 1
  | .held _ => 1
def uptoBulkAll {H : Type} : List (DataW H) → Nat
  | [] => 0
  | d :: r => uptoBulk d + uptoBulkAll r
def uptoBulkEntries {H : Type} : List (Lit × DataW H) → Nat
  | [] => 0
  | x :: r => uptoBulkEntry x + uptoBulkEntries r
def uptoBulkEntry {H : Type} : Lit × DataW H → Nat
  | (.string bytes, d) => bytes.length + uptoBulk d + 1
  | (_, d) => uptoBulk d + 1
 end
def uptoSmall : (H : Type) → List (DataW H) → Bool := fun _ ds => decide (uptoBulkAll ds ≤ 1048576)
def OpenSpec.upto (s : _root_.Go.ChangeSpec) : _root_.Go.OpenSpec := { _root_.Go.OpenSpec.ofChange s with cond := some uptoSmall }

/-- 'laws.FnExactShareOfExit', WHERE WHAT IT READS IS OF BULK AT MOST 1048576: true; the input reads as it did. -/
def fnExactShareOfExitUptoRow : OpenClaim := { program := "ytnbnalbomflafaa", sum := "01d0c7f00e47d5036b07fd8e5358449513ef6a0d7c1978231e9abbb48a8164cf", func := "loop.example/g01162/laws.FnExactShareOfExit", spec := "fnExactShareOfExit", unfollowed := true, recurses := true, apart := false, narrowed := true }
def FnExactShareOfExitUptoSaid : Prop := fnExactShareOfExitUptoRow.holds Try.pinned (OpenSpec.upto fnExactShareOfExitSpec)

/-- 'laws.FnExactCanEnd', WHERE WHAT IT READS IS OF BULK AT MOST 1048576: true; the input reads as it did. -/
def fnExactCanEndUptoRow : OpenClaim := { program := "ytnbnalbomflafaa", sum := "01d0c7f00e47d5036b07fd8e5358449513ef6a0d7c1978231e9abbb48a8164cf", func := "loop.example/g01162/laws.FnExactCanEnd", spec := "fnExactCanEnd", unfollowed := true, recurses := true, apart := false, narrowed := true }
def FnExactCanEndUptoSaid : Prop := fnExactCanEndUptoRow.holds Try.pinned (OpenSpec.upto fnExactCanEndSpec)

/-- 'laws.FnExactStepsOfHits', WHERE WHAT IT READS IS OF BULK AT MOST 1048576: true; the input reads as it did. -/
def fnExactStepsOfHitsUptoRow : OpenClaim := { program := "ytnbnalbomflafaa", sum := "01d0c7f00e47d5036b07fd8e5358449513ef6a0d7c1978231e9abbb48a8164cf", func := "loop.example/g01162/laws.FnExactStepsOfHits", spec := "fnExactStepsOfHits", unfollowed := true, recurses := true, apart := false, narrowed := true }
def FnExactStepsOfHitsUptoSaid : Prop := fnExactStepsOfHitsUptoRow.holds Try.pinned (OpenSpec.upto fnExactStepsOfHitsSpec)

/-- 'laws.FnExactHitsOf', WHERE WHAT IT READS IS OF BULK AT MOST 1048576: true; the input reads as it did. -/
def fnExactHitsOfUptoRow : OpenClaim := { program := "ytnbnalbomflafaa", sum := "01d0c7f00e47d5036b07fd8e5358449513ef6a0d7c1978231e9abbb48a8164cf", func := "loop.example/g01162/laws.FnExactHitsOf", spec := "fnExactHitsOf", unfollowed := true, recurses := true, apart := false, narrowed := true }
def FnExactHitsOfUptoSaid : Prop := fnExactHitsOfUptoRow.holds Try.pinned (OpenSpec.upto fnExactHitsOfSpec)

/-- 'laws.FnExactHitList', WHERE WHAT IT READS IS OF BULK AT MOST 1048576: true; the input reads as it did. -/
def fnExactHitListUptoRow : OpenClaim := { program := "ytnbnalbomflafaa", sum := "01d0c7f00e47d5036b07fd8e5358449513ef6a0d7c1978231e9abbb48a8164cf", func := "loop.example/g01162/laws.FnExactHitList", spec := "fnExactHitList", unfollowed := true, recurses := true, apart := false, narrowed := true }
def FnExactHitListUptoSaid : Prop := fnExactHitListUptoRow.holds Try.pinned (OpenSpec.upto fnExactHitListSpec)

/-- 'laws.FnExactRotorsBehind', WHERE WHAT IT READS IS OF BULK AT MOST 1048576: true; the input reads as it did. -/
def fnExactRotorsBehindUptoRow : OpenClaim := { program := "ytnbnalbomflafaa", sum := "01d0c7f00e47d5036b07fd8e5358449513ef6a0d7c1978231e9abbb48a8164cf", func := "loop.example/g01162/laws.FnExactRotorsBehind", spec := "fnExactRotorsBehind", unfollowed := true, recurses := true, apart := false, narrowed := true }
def FnExactRotorsBehindUptoSaid : Prop := fnExactRotorsBehindUptoRow.holds Try.pinned (OpenSpec.upto fnExactRotorsBehindSpec)

/-- 'laws.FnExactExpectedSteps', WHERE WHAT IT READS IS OF BULK AT MOST 1048576: true; the input reads as it did. -/
def fnExactExpectedStepsUptoRow : OpenClaim := { program := "ytnbnalbomflafaa", sum := "01d0c7f00e47d5036b07fd8e5358449513ef6a0d7c1978231e9abbb48a8164cf", func := "loop.example/g01162/laws.FnExactExpectedSteps", spec := "fnExactExpectedSteps", unfollowed := true, recurses := true, apart := false, narrowed := true }
def FnExactExpectedStepsUptoSaid : Prop := fnExactExpectedStepsUptoRow.holds Try.pinned (OpenSpec.upto fnExactExpectedStepsSpec)

/-- 'laws.FnExactHitChance', WHERE WHAT IT READS IS OF BULK AT MOST 1048576: true; the input reads as it did. -/
def fnExactHitChanceUptoRow : OpenClaim := { program := "ytnbnalbomflafaa", sum := "01d0c7f00e47d5036b07fd8e5358449513ef6a0d7c1978231e9abbb48a8164cf", func := "loop.example/g01162/laws.FnExactHitChance", spec := "fnExactHitChance", unfollowed := true, recurses := true, apart := false, narrowed := true }
def FnExactHitChanceUptoSaid : Prop := fnExactHitChanceUptoRow.holds Try.pinned (OpenSpec.upto fnExactHitChanceSpec)

/-- 'laws.FnExactHitBound', WHERE WHAT IT READS IS OF BULK AT MOST 1048576: true; the input reads as it did. -/
def fnExactHitBoundUptoRow : OpenClaim := { program := "ytnbnalbomflafaa", sum := "01d0c7f00e47d5036b07fd8e5358449513ef6a0d7c1978231e9abbb48a8164cf", func := "loop.example/g01162/laws.FnExactHitBound", spec := "fnExactHitBound", unfollowed := true, recurses := true, apart := false, narrowed := true }
def FnExactHitBoundUptoSaid : Prop := fnExactHitBoundUptoRow.holds Try.pinned (OpenSpec.upto fnExactHitBoundSpec)

/-- 'laws.FnExactChancesOf', WHERE WHAT IT READS IS OF BULK AT MOST 1048576: true; the input reads as it did. -/
def fnExactChancesOfUptoRow : OpenClaim := { program := "ytnbnalbomflafaa", sum := "01d0c7f00e47d5036b07fd8e5358449513ef6a0d7c1978231e9abbb48a8164cf", func := "loop.example/g01162/laws.FnExactChancesOf", spec := "fnExactChancesOf", unfollowed := true, recurses := true, apart := false, narrowed := true }
def FnExactChancesOfUptoSaid : Prop := fnExactChancesOfUptoRow.holds Try.pinned (OpenSpec.upto fnExactChancesOfSpec)

/-- 'laws.FnExactHitGap', WHERE WHAT IT READS IS OF BULK AT MOST 1048576: true; the input reads as it did. -/
def fnExactHitGapUptoRow : OpenClaim := { program := "ytnbnalbomflafaa", sum := "01d0c7f00e47d5036b07fd8e5358449513ef6a0d7c1978231e9abbb48a8164cf", func := "loop.example/g01162/laws.FnExactHitGap", spec := "fnExactHitGap", unfollowed := true, recurses := true, apart := false, narrowed := true }
def FnExactHitGapUptoSaid : Prop := fnExactHitGapUptoRow.holds Try.pinned (OpenSpec.upto fnExactHitGapSpec)

/-- 'laws.FnExactAreStacks', WHERE WHAT IT READS IS OF BULK AT MOST 1048576: true; the input reads as it did. -/
def fnExactAreStacksUptoRow : OpenClaim := { program := "ytnbnalbomflafaa", sum := "01d0c7f00e47d5036b07fd8e5358449513ef6a0d7c1978231e9abbb48a8164cf", func := "loop.example/g01162/laws.FnExactAreStacks", spec := "fnExactAreStacks", unfollowed := true, recurses := true, apart := false, narrowed := true }
def FnExactAreStacksUptoSaid : Prop := fnExactAreStacksUptoRow.holds Try.pinned (OpenSpec.upto fnExactAreStacksSpec)

/-- 'laws.FnExactTopsOf', WHERE WHAT IT READS IS OF BULK AT MOST 1048576: true; the input reads as it did. -/
def fnExactTopsOfUptoRow : OpenClaim := { program := "ytnbnalbomflafaa", sum := "01d0c7f00e47d5036b07fd8e5358449513ef6a0d7c1978231e9abbb48a8164cf", func := "loop.example/g01162/laws.FnExactTopsOf", spec := "fnExactTopsOf", unfollowed := true, recurses := true, apart := false, narrowed := true }
def FnExactTopsOfUptoSaid : Prop := fnExactTopsOfUptoRow.holds Try.pinned (OpenSpec.upto fnExactTopsOfSpec)

/-- 'laws.FnExactRotorStacks', WHERE WHAT IT READS IS OF BULK AT MOST 1048576: true; the input reads as it did. -/
def fnExactRotorStacksUptoRow : OpenClaim := { program := "ytnbnalbomflafaa", sum := "01d0c7f00e47d5036b07fd8e5358449513ef6a0d7c1978231e9abbb48a8164cf", func := "loop.example/g01162/laws.FnExactRotorStacks", spec := "fnExactRotorStacks", unfollowed := true, recurses := true, apart := false, narrowed := true }
def FnExactRotorStacksUptoSaid : Prop := fnExactRotorStacksUptoRow.holds Try.pinned (OpenSpec.upto fnExactRotorStacksSpec)

/-- 'laws.FnExactCyclesOf', WHERE WHAT IT READS IS OF BULK AT MOST 1048576: true; the input reads as it did. -/
def fnExactCyclesOfUptoRow : OpenClaim := { program := "ytnbnalbomflafaa", sum := "01d0c7f00e47d5036b07fd8e5358449513ef6a0d7c1978231e9abbb48a8164cf", func := "loop.example/g01162/laws.FnExactCyclesOf", spec := "fnExactCyclesOf", unfollowed := true, recurses := true, apart := false, narrowed := true }
def FnExactCyclesOfUptoSaid : Prop := fnExactCyclesOfUptoRow.holds Try.pinned (OpenSpec.upto fnExactCyclesOfSpec)

/-- 'laws.FnExactFirstCycle', WHERE WHAT IT READS IS OF BULK AT MOST 1048576: true; the input reads as it did. -/
def fnExactFirstCycleUptoRow : OpenClaim := { program := "ytnbnalbomflafaa", sum := "01d0c7f00e47d5036b07fd8e5358449513ef6a0d7c1978231e9abbb48a8164cf", func := "loop.example/g01162/laws.FnExactFirstCycle", spec := "fnExactFirstCycle", unfollowed := true, recurses := true, apart := false, narrowed := true }
def FnExactFirstCycleUptoSaid : Prop := fnExactFirstCycleUptoRow.holds Try.pinned (OpenSpec.upto fnExactFirstCycleSpec)

end Rows
end Go.Proofs.Ytnbnalbomflafaa
