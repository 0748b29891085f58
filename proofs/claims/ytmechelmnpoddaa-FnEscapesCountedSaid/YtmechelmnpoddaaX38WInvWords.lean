/-
  The words of the print, as far as they are needed.
-/
import Derived.Test.YtmechelmnpoddaaX38WInv
import Derived.Test.YtmechelmnpoddaaX38WFootNe
namespace Go.Proofs.YtmechelmnpoddaaW.PrintWords
open Go.RowKit
end Go.Proofs.YtmechelmnpoddaaW.PrintWords
namespace Go.Proofs.YtmechelmnpoddaaW.PrintLast
section
variable {ops : Array Oper} {a : Act} {o og : Oper} {g : Nat} {t : Tmp} {u : Bool}
end
end Go.Proofs.YtmechelmnpoddaaW.PrintLast
