-- Written by a program of this session (wip/tools/p2.py), which runs the kit's print in stages. Not trusted: Lean checks it.
import Derived.Test.YtmechelmnpoddaaProg
import Derived.Below
import Derived.Deep.Draws
import Derived.Deep.AppendLies
import Derived.Maps.AppendAt
import Derived.OwnWalk
import Derived.Laws.BytesArg
import Derived.Laws.MakeOwn
import Derived.Laws.OwnMore
import Derived.Deep.OwnRows
import Derived.Tactics
import Derived.Lib.ConvBytes
import Derived.Laws.Slices
import Derived.WalkKit
import Derived.KernelRfl
import Derived.RowKit3
import Derived.Deep.LoopGhost
import Derived.Deep.QuietTactic
import Derived.BigQuiet
import Derived.WideLaws
import Derived.Deep.DeepCutAuto
import Derived.Deep.CutBlock
import Derived.Deep.RegionHeld3
import Derived.Laws.Rows
import Derived.Lib.AppendStr
import Derived.ArgAppend
import Derived.Laws.IdiomCopy
import Derived.OrdersHeld
import Derived.Laws.BitsLemmas
import Derived.RowKit
import Derived.Test.YtmechelmnpoddaaA7
import Derived.Test.YtmechelmnpoddaaHe
import Derived.Test.YtmechelmnpoddaaHm
import Derived.Test.YtmechelmnpoddaaWWords
import Derived.Test.YtmechelmnpoddaaWLast
import Derived.Test.YtmechelmnpoddaaWTab
import Derived.Test.YtmechelmnpoddaaWFour
import Derived.Test.YtmechelmnpoddaaWQPut
import Derived.Test.YtmechelmnpoddaaWApart
import Derived.Test.YtmechelmnpoddaaWArr
import Derived.Test.YtmechelmnpoddaaWZeros
import Derived.Test.YtmechelmnpoddaaWFoot
import Derived.Test.YtmechelmnpoddaaWKept
import Derived.Test.YtmechelmnpoddaaWShare
import Derived.Test.YtmechelmnpoddaaWN
import Derived.Test.YtmechelmnpoddaaWFootNe
import Derived.Test.YtmechelmnpoddaaWAt
import Derived.Test.YtmechelmnpoddaaWEqStruct
import Derived.Test.YtmechelmnpoddaaWRepsOne
import Derived.Test.YtmechelmnpoddaaWInv
import Derived.Test.YtmechelmnpoddaaWInvWords
import Derived.Test.YtmechelmnpoddaaWGuard
import Derived.Test.YtmechelmnpoddaaWNEv
import Derived.Test.YtmechelmnpoddaaWMore
namespace Go.Proofs.Ytmechelmnpoddaa.E7
open Go.RowKit Go.Proofs.YtmechelmnpoddaaW.PrintWords Go.Proofs.YtmechelmnpoddaaW.PrintLast Go.Proofs.YtmechelmnpoddaaW.PrintMore
open Go.Proofs.Ytmechelmnpoddaa.A7 Go.Proofs.Ytmechelmnpoddaa.H7
attribute [local go_sem] max2_int min2_int max_two min_two max_three min_three max_four min_four   -- for this text's walks alone
set_option linter.unusedVariables false
set_option linter.unusedSimpArgs false



def errW : Option Int → Value
  | none => .nilIface
  | some c => .iface 0 (.int .i64 c)
theorem errW_none : errW none = .nilIface := rfl
theorem errW_some (c : Int) : errW (some c) = .iface 0 (.int .i64 c) := rfl

theorem info3 : (Try.prog.info? 3).map (fun i => (i.zero, i.size, i.bytes)) = some (some (.int .i64 0), 1, 8) := by kernel_rfl
-- the values' own types

end Go.Proofs.Ytmechelmnpoddaa.E7
