/-
  The words of the print, as far as they are needed.
-/
import Derived.Test.YtjedhjeijpbobaaX48WApart
import Derived.Test.YtjedhjeijpbobaaX48WArr
namespace Go.Proofs.YtjedhjeijpbobaaW.PrintWords
open Go.RowKit
namespace Kd
section
variable {α : Type} {d : Kd α} {e base g n c : Nat} {ok : Nat → Prop} {w w0 W : World} {A : Option Addr} {xs : List α}
end
end Kd
end Go.Proofs.YtjedhjeijpbobaaW.PrintWords
