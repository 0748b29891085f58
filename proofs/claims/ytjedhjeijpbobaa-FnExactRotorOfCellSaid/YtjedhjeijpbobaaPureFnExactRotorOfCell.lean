/-
  What a cell tells: the program's map and the reference's field tell the same.
-/
import Derived.Test.YtjedhjeijpbobaaGD1
import Derived.Test.YtjedhjeijpbobaaFd
namespace Go.Proofs.Ytjedhjeijpbobaa.Pure
open Go.RowKit Go.Proofs.Ytjedhjeijpbobaa.GA Go.Proofs.Ytjedhjeijpbobaa.GD Go.Proofs.Ytjedhjeijpbobaa.G8 Go.Proofs.YtjedhjeijpbobaaW.PrintWords Go.Proofs.YtjedhjeijpbobaaW.PrintLast
theorem FnExactRotorOfCell : laws_FnExactRotorOfCell.Pure := by
  intro n k x y _ _ _ _
  unfold laws_FnExactRotorOfCell.f spec_RotorOfCell.f impl_RotorOfCell.f
  simp
end Go.Proofs.Ytjedhjeijpbobaa.Pure
