/-
  The program's difference of escapes and chances is the reference's. No conditions.
-/
import Derived.Test.YtmechelmnpoddaaE71
import Derived.Test.YtmechelmnpoddaaHo
namespace Go.Proofs.Ytmechelmnpoddaa.Pure
open Go.RowKit Go.Proofs.Ytmechelmnpoddaa.E7 Go.Proofs.YtmechelmnpoddaaW.PrintWords Go.Proofs.YtmechelmnpoddaaW.PrintLast

/-- The program's difference of escapes and chances is the reference's. -/
theorem FnExactEscapeGap : laws_FnExactEscapeGap.Pure := by
  intro a0 a1 a2 a3 _ _ _ _
  obtain ⟨u, v, h⟩ := H7.both_gaps a0 a1 a2 a3
  refine ⟨1100, ?_⟩
  unfold laws_FnExactEscapeGap.f
  obtain ⟨h1, h2⟩ := h 1100 (Nat.le_refl _)
  rw [h1, Option.bind_some, h2, Option.bind_some]
  simp [Go.Proofs.Ytmechelmnpoddaa.A7.laws_eqRatio.f]

end Go.Proofs.Ytmechelmnpoddaa.Pure
