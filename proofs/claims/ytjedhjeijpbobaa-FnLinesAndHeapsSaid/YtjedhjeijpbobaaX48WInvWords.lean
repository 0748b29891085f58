/-
  The words of the print, as far as they are needed.
-/
import Derived.Test.YtjedhjeijpbobaaX48WInv
import Derived.Test.YtjedhjeijpbobaaX48WFootNe
namespace Go.Proofs.YtjedhjeijpbobaaW.PrintWords
open Go.RowKit
end Go.Proofs.YtjedhjeijpbobaaW.PrintWords
namespace Go.Proofs.YtjedhjeijpbobaaW.PrintLast
section
variable {ops : Array Oper} {a : Act} {o og : Oper} {g : Nat} {t : Tmp} {u : Bool}
end
end Go.Proofs.YtjedhjeijpbobaaW.PrintLast
