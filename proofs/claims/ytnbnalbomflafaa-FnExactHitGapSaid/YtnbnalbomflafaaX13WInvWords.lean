/-
  The words of the print, as far as they are needed.
-/
import Derived.Test.YtnbnalbomflafaaX13WInv
import Derived.Test.YtnbnalbomflafaaX13WFootNe
namespace Go.Proofs.YtnbnalbomflafaaW.PrintWords
open Go.RowKit
end Go.Proofs.YtnbnalbomflafaaW.PrintWords
namespace Go.Proofs.YtnbnalbomflafaaW.PrintLast
section
variable {ops : Array Oper} {a : Act} {o og : Oper} {g : Nat} {t : Tmp} {u : Bool}
end
end Go.Proofs.YtnbnalbomflafaaW.PrintLast
