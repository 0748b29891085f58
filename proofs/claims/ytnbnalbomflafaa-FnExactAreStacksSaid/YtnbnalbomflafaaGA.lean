-- Written by a program of this session (wip/tools/p2.py), which runs the kit's print in stages. Not trusted: Lean checks it.
import Derived.Test.YtnbnalbomflafaaGA0
import Derived.Test.YtnbnalbomflafaaGA1
import Derived.Test.YtnbnalbomflafaaGA2
import Derived.Test.YtnbnalbomflafaaGA3
import Derived.Test.YtnbnalbomflafaaGA4
namespace Go.Proofs.Ytnbnalbomflafaa.GA
open Go.RowKit Go.Proofs.YtnbnalbomflafaaW.PrintWords Go.Proofs.YtnbnalbomflafaaW.PrintLast Go.Proofs.YtnbnalbomflafaaW.PrintMore
attribute [local go_sem] max2_int min2_int max_two min_two max_three min_three max_four min_four   -- for this text's walks alone
set_option linter.unusedVariables false
set_option linter.unusedSimpArgs false

end Go.Proofs.Ytnbnalbomflafaa.GA
