-- Written by a program of this session (wip/tools/p2.py), which runs the kit's print in stages. Not trusted: Lean checks it.
import Derived.Test.YtjedhjeijpbobaaProg
import Derived.Below
import Derived.Deep.Draws
import Derived.Deep.AppendLies
import Derived.Maps.AppendAt
import Derived.OwnWalk
import Derived.Laws.BytesArg
import Derived.Laws.MakeOwn
import Derived.Laws.OwnMore
import Derived.Deep.OwnRows
import Derived.Tactics
import Derived.Lib.ConvBytes
import Derived.Laws.Slices
import Derived.WalkKit
import Derived.KernelRfl
import Derived.RowKit3
import Derived.Deep.LoopGhost
import Derived.Deep.QuietTactic
import Derived.BigQuiet
import Derived.WideLaws
import Derived.Deep.DeepCutAuto
import Derived.Deep.CutBlock
import Derived.Deep.RegionHeld3
import Derived.Laws.Rows
import Derived.Lib.AppendStr
import Derived.ArgAppend
import Derived.Laws.IdiomCopy
import Derived.OrdersHeld
import Derived.Laws.BitsLemmas
import Derived.RowKit
import Derived.Test.YtjedhjeijpbobaaGA
import Derived.Test.YtjedhjeijpbobaaMe
import Derived.Test.YtjedhjeijpbobaaFh
import Derived.Test.YtjedhjeijpbobaaWWords
import Derived.Test.YtjedhjeijpbobaaWLast
import Derived.Test.YtjedhjeijpbobaaWTab
import Derived.Test.YtjedhjeijpbobaaWFour
import Derived.Test.YtjedhjeijpbobaaWQPut
import Derived.Test.YtjedhjeijpbobaaWApart
import Derived.Test.YtjedhjeijpbobaaWArr
import Derived.Test.YtjedhjeijpbobaaWZeros
import Derived.Test.YtjedhjeijpbobaaWFoot
import Derived.Test.YtjedhjeijpbobaaWKept
import Derived.Test.YtjedhjeijpbobaaWShare
import Derived.Test.YtjedhjeijpbobaaWN
import Derived.Test.YtjedhjeijpbobaaWFootNe
import Derived.Test.YtjedhjeijpbobaaWAt
import Derived.Test.YtjedhjeijpbobaaWEqStruct
import Derived.Test.YtjedhjeijpbobaaWRepsOne
import Derived.Test.YtjedhjeijpbobaaWInv
import Derived.Test.YtjedhjeijpbobaaWInvWords
import Derived.Test.YtjedhjeijpbobaaWGuard
import Derived.Test.YtjedhjeijpbobaaWNEv
import Derived.Test.YtjedhjeijpbobaaWMore
namespace Go.Proofs.Ytjedhjeijpbobaa.GF
open Go.RowKit Go.Proofs.YtjedhjeijpbobaaW.PrintWords Go.Proofs.YtjedhjeijpbobaaW.PrintLast Go.Proofs.YtjedhjeijpbobaaW.PrintMore
open Go.Proofs.Ytjedhjeijpbobaa.GA Go.Proofs.Ytjedhjeijpbobaa.G8
attribute [local go_sem] max2_int min2_int max_two min_two max_three min_three max_four min_four   -- for this text's walks alone
set_option linter.unusedVariables false
set_option linter.unusedSimpArgs false



def errW : Option Int → Value
  | none => .nilIface
  | some c => .iface 0 (.int .i64 c)
theorem errW_none : errW none = .nilIface := rfl
theorem errW_some (c : Int) : errW (some c) = .iface 0 (.int .i64 c) := rfl

theorem info3 : (Try.prog.info? 3).map (fun i => (i.zero, i.size, i.bytes)) = some (some (.int .i64 0), 1, 8) := by kernel_rfl
-- the values' own types

end Go.Proofs.Ytjedhjeijpbobaa.GF
