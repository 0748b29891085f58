/-
  The greatest square of a grown cell: the program's map and the reference's field tell the same.
-/
import Derived.Test.YtjedhjeijpbobaaGE1
import Derived.Test.YtjedhjeijpbobaaFf
namespace Go.Proofs.Ytjedhjeijpbobaa.Pure
open Go.RowKit Go.Proofs.Ytjedhjeijpbobaa.GA Go.Proofs.Ytjedhjeijpbobaa.GE Go.Proofs.Ytjedhjeijpbobaa.G8 Go.Proofs.YtjedhjeijpbobaaW.PrintWords Go.Proofs.YtjedhjeijpbobaaW.PrintLast
theorem FnExactOuterSquare : laws_FnExactOuterSquare.Pure := by
  intro n k _ _
  unfold laws_FnExactOuterSquare.f spec_OuterSquare.f impl_OuterSquare.f
  simp
end Go.Proofs.Ytjedhjeijpbobaa.Pure
