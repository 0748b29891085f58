/-
  The words of the print, as far as they are needed.
-/
import Derived.Test.YtjedhjeijpbobaaX48WTab
namespace Go.Proofs.YtjedhjeijpbobaaW.PrintLast
section
variable {P : Program} {ops : Array Oper} {Q : Exit → Act → World → Prop} {md : Region.Mode} {S : World → Prop} {ds : List Nat} {T : Bool × List (List Nat × List Nat)}
end
end Go.Proofs.YtjedhjeijpbobaaW.PrintLast
