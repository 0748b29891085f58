/-
  The words of the print, as far as they are needed.
-/
import Derived.Test.YtjedhjeijpbobaaX48WWords
import Derived.Laws.StructEq
namespace Go.Proofs.YtjedhjeijpbobaaW.PrintWords
open Go.RowKit
section
variable {P : Program} {d : Nat} {xs ys : Array Value} {f : Field} {fs : List Field} {a b : Value} {r s : Bool} {w : World}
end
end Go.Proofs.YtjedhjeijpbobaaW.PrintWords
