/-
  The numbers of steps on the grid: the program's map and the reference's field tell the same runs.
-/
import Derived.Test.YtjedhjeijpbobaaGC1
import Derived.Test.YtjedhjeijpbobaaFc
namespace Go.Proofs.Ytjedhjeijpbobaa.Pure
open Go.RowKit Go.Proofs.Ytjedhjeijpbobaa.GA Go.Proofs.Ytjedhjeijpbobaa.GC Go.Proofs.Ytjedhjeijpbobaa.G8 Go.Proofs.YtjedhjeijpbobaaW.PrintWords Go.Proofs.YtjedhjeijpbobaaW.PrintLast
theorem FnExactStepsToGrow : laws_FnExactStepsToGrow.Pure := by
  intro n k _ _
  unfold laws_FnExactStepsToGrow.f spec_StepsToGrow.f impl_StepsToGrow.f
  simp
end Go.Proofs.Ytjedhjeijpbobaa.Pure
