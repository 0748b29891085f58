import Derived.Test.YtmechelmnpoddaaC71
import Derived.Test.YtmechelmnpoddaaHj
namespace Go.Proofs.Ytmechelmnpoddaa.Pure
open Go.RowKit Go.Proofs.Ytmechelmnpoddaa.C7 Go.Proofs.YtmechelmnpoddaaW.PrintWords Go.Proofs.YtmechelmnpoddaaW.PrintLast

/-- The program's answer is the reference's: both are 'same'. -/
theorem FnExactAreAsBefore : laws_FnExactAreAsBefore.Pure := by
  intro a0 a1 a2 a3 _ _ _ _
  unfold laws_FnExactAreAsBefore.f H7.spec_AreAsBefore.f H7.impl_AreAsBefore.f
  simp

end Go.Proofs.Ytmechelmnpoddaa.Pure
