/-
  The greatest square of a heap's cell: both sides end with one heap.
-/
import Derived.Test.YtjedhjeijpbobaaGI1
import Derived.Test.YtjedhjeijpbobaaHz
namespace Go.Proofs.Ytjedhjeijpbobaa.Pure
open Go.RowKit Go.Proofs.Ytjedhjeijpbobaa.GA Go.Proofs.Ytjedhjeijpbobaa.GI Go.Proofs.Ytjedhjeijpbobaa.G8 Go.Proofs.YtjedhjeijpbobaaW.PrintWords Go.Proofs.YtjedhjeijpbobaaW.PrintLast
theorem FnExactHeapSquare : laws_FnExactHeapSquare.Pure := by
  intro n _
  unfold laws_FnExactHeapSquare.f spec_HeapSquare.f impl_HeapSquare.f
  simp
end Go.Proofs.Ytjedhjeijpbobaa.Pure
