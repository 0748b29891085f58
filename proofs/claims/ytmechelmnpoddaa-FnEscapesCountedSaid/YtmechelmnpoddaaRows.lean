/-
  No cell of these rows narrows 'for every input' (looked for: loops, veiled, ifaces, maps, wideKeys, modest, calm, conditions, laid).
  DERIVED. THE GIVEN ROWS OF THIS SEAT. 14 by the template 'for every input the law returns true; each argument reads behind the call as it read before'; 0 by the template 'total and deterministic' (their statements: YtmechelmnpoddaaTotals.lean).
  GIVEN WITH THE SEED: the statements are not yours to turn. If you find one false, say at which input.
  Laid BY PROGRAM, IN A SANDBOX (cutbox-rows.mjs): the forced cells as the released guide's own fill.sh prints them over the translation c09a1b8cff9b83a7… (all of the seat's roots in one cut). By AI agents, Wed Nov 11 2026. No macro, syntax, notation, axiom, sorry.
-/
import Derived.Test.YtmechelmnpoddaaChecked
import GoSem.Claim
import GoSem.ClaimJoined
import GoSem.ClaimMapViews
import Derived.JoinedTies
import Derived.KernelRfl
namespace Go.Proofs.Ytmechelmnpoddaa
/- THE CELL 'sum', in the pinned program and in every row, IS THE sha256 OF THE DUMP (.gsa) THAT YtmechelmnpoddaaProg.lean LOADS. Nothing in Lean hashes anything: it is a label: what it is worth is what the hold of that sum in a sandbox is worth. -/
noncomputable def Try.pinned : Pinned := { name := "ytmechelmnpoddaa", sum := "c09a1b8cff9b83a754fe1b5aa345e83e3cdd090a100f0dd0a79d9f116eeec397", checked := Try.checked }
namespace Rows
def none {H : Type} : Left H := { results := [], args := [] }

/-- 'laws.FnExactCountNodes': WHATEVER THE INPUT: true; the input reads as it did. -/
def fnExactCountNodesSpec : ChangeSpec := { name := "fnExactCountNodes", fn := fun _ => fun
  | [d1, d2] => { results := [.lit (.bool true)], args := [d1, d2] }
  | _ => none }
def fnExactCountNodesRow : OpenClaim := { program := "ytmechelmnpoddaa", sum := "c09a1b8cff9b83a754fe1b5aa345e83e3cdd090a100f0dd0a79d9f116eeec397", func := "loop.example/g01162/laws.FnExactCountNodes", spec := "fnExactCountNodes", apart := false }
def FnExactCountNodesSaid : Prop := fnExactCountNodesRow.holds Try.pinned (OpenSpec.ofChange fnExactCountNodesSpec)

/-- ITS FALSE NEIGHBOUR: 'it returns false'. Refute it at one input. -/
def fnExactCountNodesWrong : ChangeSpec := { name := "fnExactCountNodes", fn := fun _ => fun
  | [d1, d2] => { results := [.lit (.bool false)], args := [d1, d2] }
  | _ => none }
def FnExactCountNodesWrongFalsely : Prop := fnExactCountNodesRow.holds Try.pinned (OpenSpec.ofChange fnExactCountNodesWrong)

/-- 'laws.FnExactChipsInRound': WHATEVER THE INPUT: true; the input reads as it did. -/
def fnExactChipsInRoundSpec : ChangeSpec := { name := "fnExactChipsInRound", fn := fun _ => fun
  | [d1, d2] => { results := [.lit (.bool true)], args := [d1, d2] }
  | _ => none }
def fnExactChipsInRoundRow : OpenClaim := { program := "ytmechelmnpoddaa", sum := "c09a1b8cff9b83a754fe1b5aa345e83e3cdd090a100f0dd0a79d9f116eeec397", func := "loop.example/g01162/laws.FnExactChipsInRound", spec := "fnExactChipsInRound", apart := false }
def FnExactChipsInRoundSaid : Prop := fnExactChipsInRoundRow.holds Try.pinned (OpenSpec.ofChange fnExactChipsInRoundSpec)

/-- ITS FALSE NEIGHBOUR: 'it returns false'. Refute it at one input. -/
def fnExactChipsInRoundWrong : ChangeSpec := { name := "fnExactChipsInRound", fn := fun _ => fun
  | [d1, d2] => { results := [.lit (.bool false)], args := [d1, d2] }
  | _ => none }
def FnExactChipsInRoundWrongFalsely : Prop := fnExactChipsInRoundRow.holds Try.pinned (OpenSpec.ofChange fnExactChipsInRoundWrong)

/-- 'laws.FnExactEscapeChance': WHATEVER THE INPUT: true; the input reads as it did. -/
def fnExactEscapeChanceSpec : ChangeSpec := { name := "fnExactEscapeChance", fn := fun _ => fun
  | [d1, d2] => { results := [.lit (.bool true)], args := [d1, d2] }
  | _ => none }
def fnExactEscapeChanceRow : OpenClaim := { program := "ytmechelmnpoddaa", sum := "c09a1b8cff9b83a754fe1b5aa345e83e3cdd090a100f0dd0a79d9f116eeec397", func := "loop.example/g01162/laws.FnExactEscapeChance", spec := "fnExactEscapeChance", apart := false }
def FnExactEscapeChanceSaid : Prop := fnExactEscapeChanceRow.holds Try.pinned (OpenSpec.ofChange fnExactEscapeChanceSpec)

/-- ITS FALSE NEIGHBOUR: 'it returns false'. Refute it at one input. -/
def fnExactEscapeChanceWrong : ChangeSpec := { name := "fnExactEscapeChance", fn := fun _ => fun
  | [d1, d2] => { results := [.lit (.bool false)], args := [d1, d2] }
  | _ => none }
def FnExactEscapeChanceWrongFalsely : Prop := fnExactEscapeChanceRow.holds Try.pinned (OpenSpec.ofChange fnExactEscapeChanceWrong)

/-- 'laws.FnExactEscapesOf': WHATEVER THE INPUT: true; the input reads as it did. -/
def fnExactEscapesOfSpec : ChangeSpec := { name := "fnExactEscapesOf", fn := fun _ => fun
  | [d1, d2, d3, d4] => { results := [.lit (.bool true)], args := [d1, d2, d3, d4] }
  | _ => none }
def fnExactEscapesOfRow : OpenClaim := { program := "ytmechelmnpoddaa", sum := "c09a1b8cff9b83a754fe1b5aa345e83e3cdd090a100f0dd0a79d9f116eeec397", func := "loop.example/g01162/laws.FnExactEscapesOf", spec := "fnExactEscapesOf", apart := false }
def FnExactEscapesOfSaid : Prop := fnExactEscapesOfRow.holds Try.pinned (OpenSpec.ofChange fnExactEscapesOfSpec)

/-- ITS FALSE NEIGHBOUR: 'it returns false'. Refute it at one input. -/
def fnExactEscapesOfWrong : ChangeSpec := { name := "fnExactEscapesOf", fn := fun _ => fun
  | [d1, d2, d3, d4] => { results := [.lit (.bool false)], args := [d1, d2, d3, d4] }
  | _ => none }
def FnExactEscapesOfWrongFalsely : Prop := fnExactEscapesOfRow.holds Try.pinned (OpenSpec.ofChange fnExactEscapesOfWrong)

/-- 'laws.FnExactAreAsBefore': WHATEVER THE INPUT: true; the input reads as it did. -/
def fnExactAreAsBeforeSpec : ChangeSpec := { name := "fnExactAreAsBefore", fn := fun _ => fun
  | [d1, d2, d3, d4] => { results := [.lit (.bool true)], args := [d1, d2, d3, d4] }
  | _ => none }
def fnExactAreAsBeforeRow : OpenClaim := { program := "ytmechelmnpoddaa", sum := "c09a1b8cff9b83a754fe1b5aa345e83e3cdd090a100f0dd0a79d9f116eeec397", func := "loop.example/g01162/laws.FnExactAreAsBefore", spec := "fnExactAreAsBefore", unfollowed := true, recurses := true, apart := false }
def FnExactAreAsBeforeSaid : Prop := fnExactAreAsBeforeRow.holds Try.pinned (OpenSpec.ofChange fnExactAreAsBeforeSpec)

/-- ITS FALSE NEIGHBOUR: 'it returns false'. Refute it at one input. -/
def fnExactAreAsBeforeWrong : ChangeSpec := { name := "fnExactAreAsBefore", fn := fun _ => fun
  | [d1, d2, d3, d4] => { results := [.lit (.bool false)], args := [d1, d2, d3, d4] }
  | _ => none }
def FnExactAreAsBeforeWrongFalsely : Prop := fnExactAreAsBeforeRow.holds Try.pinned (OpenSpec.ofChange fnExactAreAsBeforeWrong)

/-- 'laws.FnExactLongestTrip': WHATEVER THE INPUT: true; the input reads as it did. -/
def fnExactLongestTripSpec : ChangeSpec := { name := "fnExactLongestTrip", fn := fun _ => fun
  | [d1, d2, d3, d4] => { results := [.lit (.bool true)], args := [d1, d2, d3, d4] }
  | _ => none }
def fnExactLongestTripRow : OpenClaim := { program := "ytmechelmnpoddaa", sum := "c09a1b8cff9b83a754fe1b5aa345e83e3cdd090a100f0dd0a79d9f116eeec397", func := "loop.example/g01162/laws.FnExactLongestTrip", spec := "fnExactLongestTrip", apart := false }
def FnExactLongestTripSaid : Prop := fnExactLongestTripRow.holds Try.pinned (OpenSpec.ofChange fnExactLongestTripSpec)

/-- ITS FALSE NEIGHBOUR: 'it returns false'. Refute it at one input. -/
def fnExactLongestTripWrong : ChangeSpec := { name := "fnExactLongestTrip", fn := fun _ => fun
  | [d1, d2, d3, d4] => { results := [.lit (.bool false)], args := [d1, d2, d3, d4] }
  | _ => none }
def FnExactLongestTripWrongFalsely : Prop := fnExactLongestTripRow.holds Try.pinned (OpenSpec.ofChange fnExactLongestTripWrong)

/-- 'laws.FnExactEscapeList': WHATEVER THE INPUT: true; the input reads as it did. -/
def fnExactEscapeListSpec : ChangeSpec := { name := "fnExactEscapeList", fn := fun _ => fun
  | [d1, d2, d3, d4] => { results := [.lit (.bool true)], args := [d1, d2, d3, d4] }
  | _ => none }
def fnExactEscapeListRow : OpenClaim := { program := "ytmechelmnpoddaa", sum := "c09a1b8cff9b83a754fe1b5aa345e83e3cdd090a100f0dd0a79d9f116eeec397", func := "loop.example/g01162/laws.FnExactEscapeList", spec := "fnExactEscapeList", apart := false }
def FnExactEscapeListSaid : Prop := fnExactEscapeListRow.holds Try.pinned (OpenSpec.ofChange fnExactEscapeListSpec)

/-- ITS FALSE NEIGHBOUR: 'it returns false'. Refute it at one input. -/
def fnExactEscapeListWrong : ChangeSpec := { name := "fnExactEscapeList", fn := fun _ => fun
  | [d1, d2, d3, d4] => { results := [.lit (.bool false)], args := [d1, d2, d3, d4] }
  | _ => none }
def FnExactEscapeListWrongFalsely : Prop := fnExactEscapeListRow.holds Try.pinned (OpenSpec.ofChange fnExactEscapeListWrong)

/-- 'laws.FnExactLevelVisits': WHATEVER THE INPUT: true; the input reads as it did. -/
def fnExactLevelVisitsSpec : ChangeSpec := { name := "fnExactLevelVisits", fn := fun _ => fun
  | [d1, d2, d3, d4] => { results := [.lit (.bool true)], args := [d1, d2, d3, d4] }
  | _ => none }
def fnExactLevelVisitsRow : OpenClaim := { program := "ytmechelmnpoddaa", sum := "c09a1b8cff9b83a754fe1b5aa345e83e3cdd090a100f0dd0a79d9f116eeec397", func := "loop.example/g01162/laws.FnExactLevelVisits", spec := "fnExactLevelVisits", apart := false }
def FnExactLevelVisitsSaid : Prop := fnExactLevelVisitsRow.holds Try.pinned (OpenSpec.ofChange fnExactLevelVisitsSpec)

/-- ITS FALSE NEIGHBOUR: 'it returns false'. Refute it at one input. -/
def fnExactLevelVisitsWrong : ChangeSpec := { name := "fnExactLevelVisits", fn := fun _ => fun
  | [d1, d2, d3, d4] => { results := [.lit (.bool false)], args := [d1, d2, d3, d4] }
  | _ => none }
def FnExactLevelVisitsWrongFalsely : Prop := fnExactLevelVisitsRow.holds Try.pinned (OpenSpec.ofChange fnExactLevelVisitsWrong)

/-- 'laws.FnExactTripsOf': WHATEVER THE INPUT: true; the input reads as it did. -/
def fnExactTripsOfSpec : ChangeSpec := { name := "fnExactTripsOf", fn := fun _ => fun
  | [d1, d2, d3, d4] => { results := [.lit (.bool true)], args := [d1, d2, d3, d4] }
  | _ => none }
def fnExactTripsOfRow : OpenClaim := { program := "ytmechelmnpoddaa", sum := "c09a1b8cff9b83a754fe1b5aa345e83e3cdd090a100f0dd0a79d9f116eeec397", func := "loop.example/g01162/laws.FnExactTripsOf", spec := "fnExactTripsOf", apart := false }
def FnExactTripsOfSaid : Prop := fnExactTripsOfRow.holds Try.pinned (OpenSpec.ofChange fnExactTripsOfSpec)

/-- ITS FALSE NEIGHBOUR: 'it returns false'. Refute it at one input. -/
def fnExactTripsOfWrong : ChangeSpec := { name := "fnExactTripsOf", fn := fun _ => fun
  | [d1, d2, d3, d4] => { results := [.lit (.bool false)], args := [d1, d2, d3, d4] }
  | _ => none }
def FnExactTripsOfWrongFalsely : Prop := fnExactTripsOfRow.holds Try.pinned (OpenSpec.ofChange fnExactTripsOfWrong)

/-- 'laws.FnExactRotorsOnLevel': WHATEVER THE INPUT: true; the input reads as it did. -/
def fnExactRotorsOnLevelSpec : ChangeSpec := { name := "fnExactRotorsOnLevel", fn := fun _ => fun
  | [d1, d2, d3, d4, d5] => { results := [.lit (.bool true)], args := [d1, d2, d3, d4, d5] }
  | _ => none }
def fnExactRotorsOnLevelRow : OpenClaim := { program := "ytmechelmnpoddaa", sum := "c09a1b8cff9b83a754fe1b5aa345e83e3cdd090a100f0dd0a79d9f116eeec397", func := "loop.example/g01162/laws.FnExactRotorsOnLevel", spec := "fnExactRotorsOnLevel", apart := false }
def FnExactRotorsOnLevelSaid : Prop := fnExactRotorsOnLevelRow.holds Try.pinned (OpenSpec.ofChange fnExactRotorsOnLevelSpec)

/-- ITS FALSE NEIGHBOUR: 'it returns false'. Refute it at one input. -/
def fnExactRotorsOnLevelWrong : ChangeSpec := { name := "fnExactRotorsOnLevel", fn := fun _ => fun
  | [d1, d2, d3, d4, d5] => { results := [.lit (.bool false)], args := [d1, d2, d3, d4, d5] }
  | _ => none }
def FnExactRotorsOnLevelWrongFalsely : Prop := fnExactRotorsOnLevelRow.holds Try.pinned (OpenSpec.ofChange fnExactRotorsOnLevelWrong)

/-- 'laws.FnExactTurnedEscapes': WHATEVER THE INPUT: true; the input reads as it did. -/
def fnExactTurnedEscapesSpec : ChangeSpec := { name := "fnExactTurnedEscapes", fn := fun _ => fun
  | [d1, d2, d3] => { results := [.lit (.bool true)], args := [d1, d2, d3] }
  | _ => none }
def fnExactTurnedEscapesRow : OpenClaim := { program := "ytmechelmnpoddaa", sum := "c09a1b8cff9b83a754fe1b5aa345e83e3cdd090a100f0dd0a79d9f116eeec397", func := "loop.example/g01162/laws.FnExactTurnedEscapes", spec := "fnExactTurnedEscapes", apart := false }
def FnExactTurnedEscapesSaid : Prop := fnExactTurnedEscapesRow.holds Try.pinned (OpenSpec.ofChange fnExactTurnedEscapesSpec)

/-- ITS FALSE NEIGHBOUR: 'it returns false'. Refute it at one input. -/
def fnExactTurnedEscapesWrong : ChangeSpec := { name := "fnExactTurnedEscapes", fn := fun _ => fun
  | [d1, d2, d3] => { results := [.lit (.bool false)], args := [d1, d2, d3] }
  | _ => none }
def FnExactTurnedEscapesWrongFalsely : Prop := fnExactTurnedEscapesRow.holds Try.pinned (OpenSpec.ofChange fnExactTurnedEscapesWrong)

/-- 'laws.FnExactEscapeGap': WHATEVER THE INPUT: true; the input reads as it did. -/
def fnExactEscapeGapSpec : ChangeSpec := { name := "fnExactEscapeGap", fn := fun _ => fun
  | [d1, d2, d3, d4] => { results := [.lit (.bool true)], args := [d1, d2, d3, d4] }
  | _ => none }
def fnExactEscapeGapRow : OpenClaim := { program := "ytmechelmnpoddaa", sum := "c09a1b8cff9b83a754fe1b5aa345e83e3cdd090a100f0dd0a79d9f116eeec397", func := "loop.example/g01162/laws.FnExactEscapeGap", spec := "fnExactEscapeGap", apart := false }
def FnExactEscapeGapSaid : Prop := fnExactEscapeGapRow.holds Try.pinned (OpenSpec.ofChange fnExactEscapeGapSpec)

/-- ITS FALSE NEIGHBOUR: 'it returns false'. Refute it at one input. -/
def fnExactEscapeGapWrong : ChangeSpec := { name := "fnExactEscapeGap", fn := fun _ => fun
  | [d1, d2, d3, d4] => { results := [.lit (.bool false)], args := [d1, d2, d3, d4] }
  | _ => none }
def FnExactEscapeGapWrongFalsely : Prop := fnExactEscapeGapRow.holds Try.pinned (OpenSpec.ofChange fnExactEscapeGapWrong)

/-- 'laws.FnTripsOfChips': WHATEVER THE INPUT: true; the input reads as it did. -/
def fnTripsOfChipsSpec : ChangeSpec := { name := "fnTripsOfChips", fn := fun _ => fun
  | [d1, d2] => { results := [.lit (.bool true)], args := [d1, d2] }
  | _ => none }
def fnTripsOfChipsRow : OpenClaim := { program := "ytmechelmnpoddaa", sum := "c09a1b8cff9b83a754fe1b5aa345e83e3cdd090a100f0dd0a79d9f116eeec397", func := "loop.example/g01162/laws.FnTripsOfChips", spec := "fnTripsOfChips", apart := false }
def FnTripsOfChipsSaid : Prop := fnTripsOfChipsRow.holds Try.pinned (OpenSpec.ofChange fnTripsOfChipsSpec)

/-- ITS FALSE NEIGHBOUR: 'it returns false'. Refute it at one input. -/
def fnTripsOfChipsWrong : ChangeSpec := { name := "fnTripsOfChips", fn := fun _ => fun
  | [d1, d2] => { results := [.lit (.bool false)], args := [d1, d2] }
  | _ => none }
def FnTripsOfChipsWrongFalsely : Prop := fnTripsOfChipsRow.holds Try.pinned (OpenSpec.ofChange fnTripsOfChipsWrong)

/-- 'laws.FnEscapesCounted': WHATEVER THE INPUT: true; the input reads as it did. -/
def fnEscapesCountedSpec : ChangeSpec := { name := "fnEscapesCounted", fn := fun _ => fun
  | [d1, d2] => { results := [.lit (.bool true)], args := [d1, d2] }
  | _ => none }
def fnEscapesCountedRow : OpenClaim := { program := "ytmechelmnpoddaa", sum := "c09a1b8cff9b83a754fe1b5aa345e83e3cdd090a100f0dd0a79d9f116eeec397", func := "loop.example/g01162/laws.FnEscapesCounted", spec := "fnEscapesCounted", unfollowed := true, recurses := true, apart := false }
def FnEscapesCountedSaid : Prop := fnEscapesCountedRow.holds Try.pinned (OpenSpec.ofChange fnEscapesCountedSpec)

/-- ITS FALSE NEIGHBOUR: 'it returns false'. Refute it at one input. -/
def fnEscapesCountedWrong : ChangeSpec := { name := "fnEscapesCounted", fn := fun _ => fun
  | [d1, d2] => { results := [.lit (.bool false)], args := [d1, d2] }
  | _ => none }
def FnEscapesCountedWrongFalsely : Prop := fnEscapesCountedRow.holds Try.pinned (OpenSpec.ofChange fnEscapesCountedWrong)

/- THE SECOND FORM. 'bulk': how many values and letters a reading holds, each counted each time it is reached (what is shared counts as often as it is met; a slice's spare places count too). A statement '..UptoSaid' is the law's where the arguments, and the package variables that the reading takes, are together of bulk at most 1048576: NARROWER than '..Said'. Prove '..Said' where nothing that the law and all that it calls make is longer than what came in: it says more and counts as full. Else prove '..UptoSaid'. A law counts once. -/
mutual
def uptoBulk {H : Type} : DataW H → Nat
  | .lit (.string bytes) => bytes.length + 1
  | .lit _ => 1
  | .nil => 1
  | .ptr d => uptoBulk d + 1
  | .slice elems spare => uptoBulkAll elems + uptoBulkAll spare + 1
  | .agg parts => uptoBulkAll parts + 1
  | .iface _ d => uptoBulk d + 1
  | .map entries => uptoBulkEntries entries + 1
  | .held _ => 1
def uptoBulkAll {H : Type} : List (DataW H) → Nat
  | [] => 0
  | d :: r => uptoBulk d + uptoBulkAll r
def uptoBulkEntries {H : Type} : List (Lit × DataW H) → Nat
  | [] => 0
  | x :: r => uptoBulkEntry x + uptoBulkEntries r
def uptoBulkEntry {H : Type} : Lit × DataW H → Nat
  | (.string bytes, d) => bytes.length + uptoBulk d + 1
  | (_, d) => uptoBulk d + 1
 end
def uptoSmall : (H : Type) → List (DataW H) → Bool := fun _ ds => decide (uptoBulkAll ds ≤ 1048576)
def OpenSpec.upto (s : _root_.Go.ChangeSpec) : _root_.Go.OpenSpec := { _root_.Go.OpenSpec.ofChange s with cond := some uptoSmall }

/-- 'laws.FnExactCountNodes', WHERE WHAT IT READS IS OF BULK AT MOST 1048576: true; the input reads as it did. -/
def fnExactCountNodesUptoRow : OpenClaim := { program := "ytmechelmnpoddaa", sum := "c09a1b8cff9b83a754fe1b5aa345e83e3cdd090a100f0dd0a79d9f116eeec397", func := "loop.example/g01162/laws.FnExactCountNodes", spec := "fnExactCountNodes", apart := false, narrowed := true }
def FnExactCountNodesUptoSaid : Prop := fnExactCountNodesUptoRow.holds Try.pinned (OpenSpec.upto fnExactCountNodesSpec)

/-- 'laws.FnExactChipsInRound', WHERE WHAT IT READS IS OF BULK AT MOST 1048576: true; the input reads as it did. -/
def fnExactChipsInRoundUptoRow : OpenClaim := { program := "ytmechelmnpoddaa", sum := "c09a1b8cff9b83a754fe1b5aa345e83e3cdd090a100f0dd0a79d9f116eeec397", func := "loop.example/g01162/laws.FnExactChipsInRound", spec := "fnExactChipsInRound", apart := false, narrowed := true }
def FnExactChipsInRoundUptoSaid : Prop := fnExactChipsInRoundUptoRow.holds Try.pinned (OpenSpec.upto fnExactChipsInRoundSpec)

/-- 'laws.FnExactEscapeChance', WHERE WHAT IT READS IS OF BULK AT MOST 1048576: true; the input reads as it did. -/
def fnExactEscapeChanceUptoRow : OpenClaim := { program := "ytmechelmnpoddaa", sum := "c09a1b8cff9b83a754fe1b5aa345e83e3cdd090a100f0dd0a79d9f116eeec397", func := "loop.example/g01162/laws.FnExactEscapeChance", spec := "fnExactEscapeChance", apart := false, narrowed := true }
def FnExactEscapeChanceUptoSaid : Prop := fnExactEscapeChanceUptoRow.holds Try.pinned (OpenSpec.upto fnExactEscapeChanceSpec)

/-- 'laws.FnExactEscapesOf', WHERE WHAT IT READS IS OF BULK AT MOST 1048576: true; the input reads as it did. -/
def fnExactEscapesOfUptoRow : OpenClaim := { program := "ytmechelmnpoddaa", sum := "c09a1b8cff9b83a754fe1b5aa345e83e3cdd090a100f0dd0a79d9f116eeec397", func := "loop.example/g01162/laws.FnExactEscapesOf", spec := "fnExactEscapesOf", apart := false, narrowed := true }
def FnExactEscapesOfUptoSaid : Prop := fnExactEscapesOfUptoRow.holds Try.pinned (OpenSpec.upto fnExactEscapesOfSpec)

/-- 'laws.FnExactAreAsBefore', WHERE WHAT IT READS IS OF BULK AT MOST 1048576: true; the input reads as it did. -/
def fnExactAreAsBeforeUptoRow : OpenClaim := { program := "ytmechelmnpoddaa", sum := "c09a1b8cff9b83a754fe1b5aa345e83e3cdd090a100f0dd0a79d9f116eeec397", func := "loop.example/g01162/laws.FnExactAreAsBefore", spec := "fnExactAreAsBefore", unfollowed := true, recurses := true, apart := false, narrowed := true }
def FnExactAreAsBeforeUptoSaid : Prop := fnExactAreAsBeforeUptoRow.holds Try.pinned (OpenSpec.upto fnExactAreAsBeforeSpec)

/-- 'laws.FnExactLongestTrip', WHERE WHAT IT READS IS OF BULK AT MOST 1048576: true; the input reads as it did. -/
def fnExactLongestTripUptoRow : OpenClaim := { program := "ytmechelmnpoddaa", sum := "c09a1b8cff9b83a754fe1b5aa345e83e3cdd090a100f0dd0a79d9f116eeec397", func := "loop.example/g01162/laws.FnExactLongestTrip", spec := "fnExactLongestTrip", apart := false, narrowed := true }
def FnExactLongestTripUptoSaid : Prop := fnExactLongestTripUptoRow.holds Try.pinned (OpenSpec.upto fnExactLongestTripSpec)

/-- 'laws.FnExactEscapeList', WHERE WHAT IT READS IS OF BULK AT MOST 1048576: true; the input reads as it did. -/
def fnExactEscapeListUptoRow : OpenClaim := { program := "ytmechelmnpoddaa", sum := "c09a1b8cff9b83a754fe1b5aa345e83e3cdd090a100f0dd0a79d9f116eeec397", func := "loop.example/g01162/laws.FnExactEscapeList", spec := "fnExactEscapeList", apart := false, narrowed := true }
def FnExactEscapeListUptoSaid : Prop := fnExactEscapeListUptoRow.holds Try.pinned (OpenSpec.upto fnExactEscapeListSpec)

/-- 'laws.FnExactLevelVisits', WHERE WHAT IT READS IS OF BULK AT MOST 1048576: true; the input reads as it did. -/
def fnExactLevelVisitsUptoRow : OpenClaim := { program := "ytmechelmnpoddaa", sum := "c09a1b8cff9b83a754fe1b5aa345e83e3cdd090a100f0dd0a79d9f116eeec397", func := "loop.example/g01162/laws.FnExactLevelVisits", spec := "fnExactLevelVisits", apart := false, narrowed := true }
def FnExactLevelVisitsUptoSaid : Prop := fnExactLevelVisitsUptoRow.holds Try.pinned (OpenSpec.upto fnExactLevelVisitsSpec)

/-- 'laws.FnExactTripsOf', WHERE WHAT IT READS IS OF BULK AT MOST 1048576: true; the input reads as it did. -/
def fnExactTripsOfUptoRow : OpenClaim := { program := "ytmechelmnpoddaa", sum := "c09a1b8cff9b83a754fe1b5aa345e83e3cdd090a100f0dd0a79d9f116eeec397", func := "loop.example/g01162/laws.FnExactTripsOf", spec := "fnExactTripsOf", apart := false, narrowed := true }
def FnExactTripsOfUptoSaid : Prop := fnExactTripsOfUptoRow.holds Try.pinned (OpenSpec.upto fnExactTripsOfSpec)

/-- 'laws.FnExactRotorsOnLevel', WHERE WHAT IT READS IS OF BULK AT MOST 1048576: true; the input reads as it did. -/
def fnExactRotorsOnLevelUptoRow : OpenClaim := { program := "ytmechelmnpoddaa", sum := "c09a1b8cff9b83a754fe1b5aa345e83e3cdd090a100f0dd0a79d9f116eeec397", func := "loop.example/g01162/laws.FnExactRotorsOnLevel", spec := "fnExactRotorsOnLevel", apart := false, narrowed := true }
def FnExactRotorsOnLevelUptoSaid : Prop := fnExactRotorsOnLevelUptoRow.holds Try.pinned (OpenSpec.upto fnExactRotorsOnLevelSpec)

/-- 'laws.FnExactTurnedEscapes', WHERE WHAT IT READS IS OF BULK AT MOST 1048576: true; the input reads as it did. -/
def fnExactTurnedEscapesUptoRow : OpenClaim := { program := "ytmechelmnpoddaa", sum := "c09a1b8cff9b83a754fe1b5aa345e83e3cdd090a100f0dd0a79d9f116eeec397", func := "loop.example/g01162/laws.FnExactTurnedEscapes", spec := "fnExactTurnedEscapes", apart := false, narrowed := true }
def FnExactTurnedEscapesUptoSaid : Prop := fnExactTurnedEscapesUptoRow.holds Try.pinned (OpenSpec.upto fnExactTurnedEscapesSpec)

/-- 'laws.FnExactEscapeGap', WHERE WHAT IT READS IS OF BULK AT MOST 1048576: true; the input reads as it did. -/
def fnExactEscapeGapUptoRow : OpenClaim := { program := "ytmechelmnpoddaa", sum := "c09a1b8cff9b83a754fe1b5aa345e83e3cdd090a100f0dd0a79d9f116eeec397", func := "loop.example/g01162/laws.FnExactEscapeGap", spec := "fnExactEscapeGap", apart := false, narrowed := true }
def FnExactEscapeGapUptoSaid : Prop := fnExactEscapeGapUptoRow.holds Try.pinned (OpenSpec.upto fnExactEscapeGapSpec)

/-- 'laws.FnTripsOfChips', WHERE WHAT IT READS IS OF BULK AT MOST 1048576: true; the input reads as it did. -/
def fnTripsOfChipsUptoRow : OpenClaim := { program := "ytmechelmnpoddaa", sum := "c09a1b8cff9b83a754fe1b5aa345e83e3cdd090a100f0dd0a79d9f116eeec397", func := "loop.example/g01162/laws.FnTripsOfChips", spec := "fnTripsOfChips", apart := false, narrowed := true }
def FnTripsOfChipsUptoSaid : Prop := fnTripsOfChipsUptoRow.holds Try.pinned (OpenSpec.upto fnTripsOfChipsSpec)

/-- 'laws.FnEscapesCounted', WHERE WHAT IT READS IS OF BULK AT MOST 1048576: true; the input reads as it did. -/
def fnEscapesCountedUptoRow : OpenClaim := { program := "ytmechelmnpoddaa", sum := "c09a1b8cff9b83a754fe1b5aa345e83e3cdd090a100f0dd0a79d9f116eeec397", func := "loop.example/g01162/laws.FnEscapesCounted", spec := "fnEscapesCounted", unfollowed := true, recurses := true, apart := false, narrowed := true }
def FnEscapesCountedUptoSaid : Prop := fnEscapesCountedUptoRow.holds Try.pinned (OpenSpec.upto fnEscapesCountedSpec)

end Rows
end Go.Proofs.Ytmechelmnpoddaa
