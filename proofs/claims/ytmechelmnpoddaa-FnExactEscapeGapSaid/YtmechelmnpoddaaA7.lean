-- Written by a program of this session (wip/tools/p2.py), which runs the kit's print in stages. Not trusted: Lean checks it.
import Derived.Test.YtmechelmnpoddaaA70
import Derived.Test.YtmechelmnpoddaaA71
import Derived.Test.YtmechelmnpoddaaA72
import Derived.Test.YtmechelmnpoddaaA73
namespace Go.Proofs.Ytmechelmnpoddaa.A7
open Go.RowKit Go.Proofs.YtmechelmnpoddaaW.PrintWords Go.Proofs.YtmechelmnpoddaaW.PrintLast Go.Proofs.YtmechelmnpoddaaW.PrintMore
attribute [local go_sem] max2_int min2_int max_two min_two max_three min_three max_four min_four   -- for this text's walks alone
set_option linter.unusedVariables false
set_option linter.unusedSimpArgs false

end Go.Proofs.Ytmechelmnpoddaa.A7
