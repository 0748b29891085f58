/-
  What a cell tells: the program's map and the reference's field tell the same.
-/
import Derived.Test.YtjedhjeijpbobaaGD1
import Derived.Test.YtjedhjeijpbobaaFd
namespace Go.Proofs.Ytjedhjeijpbobaa.Pure
open Go.RowKit Go.Proofs.Ytjedhjeijpbobaa.GA Go.Proofs.Ytjedhjeijpbobaa.GD Go.Proofs.Ytjedhjeijpbobaa.G8 Go.Proofs.YtjedhjeijpbobaaW.PrintWords Go.Proofs.YtjedhjeijpbobaaW.PrintLast
theorem FnExactIsGrown : laws_FnExactIsGrown.Pure := by
  intro n k x y _ _ _ _
  unfold laws_FnExactIsGrown.f spec_IsGrown.f impl_IsGrown.f
  simp
end Go.Proofs.Ytjedhjeijpbobaa.Pure
