/-
  The words of the print, as far as they are needed.
-/
import Derived.Test.YtjedhjeijpbobaaX48WShare
import Derived.Test.YtjedhjeijpbobaaX48WZeros
namespace Go.Proofs.YtjedhjeijpbobaaW.PrintWords
open Go.RowKit
namespace Kd
section
variable {α : Type} {d : Kd α} {e base n cc g : Nat} {ok ok' okp S : Nat → Prop} {w w1 W W1 : World} {A : Option Addr} {u v v1 : Value} {xs : List α} {x : α} {c : List Value}
end
end Kd
end Go.Proofs.YtjedhjeijpbobaaW.PrintWords
