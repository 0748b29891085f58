/-
  The numbers of steps on the line: the program's map and the reference's row tell the same runs.
-/
import Derived.Test.YtjedhjeijpbobaaGB1
import Derived.Test.YtjedhjeijpbobaaPm
namespace Go.Proofs.Ytjedhjeijpbobaa.Pure
open Go.RowKit Go.Proofs.Ytjedhjeijpbobaa.GA Go.Proofs.Ytjedhjeijpbobaa.GB Go.Proofs.Ytjedhjeijpbobaa.G8 Go.Proofs.YtjedhjeijpbobaaW.PrintWords Go.Proofs.YtjedhjeijpbobaaW.PrintLast
theorem lined_eq (n k : Int) : spec_gwLined.f n k = some (okLine n k) := by
  unfold spec_gwLined.f okLine
  rw [spec_in_eq, Option.bind_some]
  cases inB n 0 250 with
  | true => rw [if_pos rfl, spec_in_eq]; rfl
  | false => rw [if_neg (by decide)]; rfl
theorem FnExactLineSteps : laws_FnExactLineSteps.Pure := by
  intro n k _ _
  cases ho : okLine n k with
  | false =>
    refine ⟨0, ?_⟩
    unfold laws_FnExactLineSteps.f spec_LineSteps.f impl_LineSteps.f
    rw [lined_eq, ho, Option.bind_some, if_neg (by decide), Option.bind_some, Option.bind_some, if_neg (show ¬ (false = true) by decide)]
    simp
  | true =>
    obtain ⟨_, _, j, hj⟩ := line_f ho
    refine ⟨j, ?_⟩
    unfold laws_FnExactLineSteps.f spec_LineSteps.f impl_LineSteps.f
    rw [lined_eq, ho, Option.bind_some, if_pos rfl, hj, Option.bind_some, Option.bind_some, Option.bind_some, if_pos rfl]
    simp
end Go.Proofs.Ytjedhjeijpbobaa.Pure
