/-
  The words of the print, as far as they are needed.
-/
import Derived.Test.YtmechelmnpoddaaX38WTab
namespace Go.Proofs.YtmechelmnpoddaaW.PrintLast
section
variable {P : Program} {ops : Array Oper} {Q : Exit → Act → World → Prop} {md : Region.Mode} {S : World → Prop} {ds : List Nat} {T : Bool × List (List Nat × List Nat)}
end
end Go.Proofs.YtmechelmnpoddaaW.PrintLast
