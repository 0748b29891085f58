import Derived.Test.YtmechelmnpoddaaC71
import Derived.Test.YtmechelmnpoddaaHj
namespace Go.Proofs.Ytmechelmnpoddaa.Pure
open Go.RowKit Go.Proofs.Ytmechelmnpoddaa.C7 Go.Proofs.YtmechelmnpoddaaW.PrintWords Go.Proofs.YtmechelmnpoddaaW.PrintLast

/-- The program's longest trip is the reference's: both are 'longest'. -/
theorem FnExactLongestTrip : laws_FnExactLongestTrip.Pure := by
  intro a0 a1 a2 a3 _ _ _ _
  unfold laws_FnExactLongestTrip.f H7.spec_LongestTrip.f H7.impl_LongestTrip.f
  simp

end Go.Proofs.Ytmechelmnpoddaa.Pure
