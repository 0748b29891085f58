/-
  The words of the print, as far as they are needed.
-/
import Derived.Test.YtnbnalbomflafaaX13WN
namespace Go.Proofs.YtnbnalbomflafaaW.PrintWords
open Go.RowKit
namespace Kd
section
variable {α : Type} {d : Kd α} {W : World} {g n : Nat} {S ok : Nat → Prop} {A : Option Addr} {ad : Addr} {xs : List α}
end
end Kd
end Go.Proofs.YtnbnalbomflafaaW.PrintWords
