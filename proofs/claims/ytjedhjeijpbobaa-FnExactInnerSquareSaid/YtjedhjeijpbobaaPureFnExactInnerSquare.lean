/-
  The least square of a cell that is not grown: the program's map and the reference's field tell the same.
-/
import Derived.Test.YtjedhjeijpbobaaGG1
import Derived.Test.YtjedhjeijpbobaaFj
namespace Go.Proofs.Ytjedhjeijpbobaa.Pure
open Go.RowKit Go.Proofs.Ytjedhjeijpbobaa.GA Go.Proofs.Ytjedhjeijpbobaa.GG Go.Proofs.Ytjedhjeijpbobaa.G8 Go.Proofs.YtjedhjeijpbobaaW.PrintWords Go.Proofs.YtjedhjeijpbobaaW.PrintLast
theorem FnExactInnerSquare : laws_FnExactInnerSquare.Pure := by
  intro n k _ _
  unfold laws_FnExactInnerSquare.f spec_InnerSquare.f impl_InnerSquare.f
  simp
end Go.Proofs.Ytjedhjeijpbobaa.Pure
