/-
  The number of chips in a round is the same in the program and in the reference, for all arguments. No conditions.
-/
import Derived.Test.YtmechelmnpoddaaPFnExactChipsInRoundx1
namespace Go.Proofs.Ytmechelmnpoddaa.Pure
open Go.RowKit Go.Proofs.Ytmechelmnpoddaa.PFnExactChipsInRound Go.Proofs.YtmechelmnpoddaaW.PrintWords Go.Proofs.YtmechelmnpoddaaW.PrintLast

/-- Out of range: no tree. -/
theorem in_no (a lo hi : Int) (h : ¬ (lo ≤ a ∧ a ≤ hi)) : spec_l1In.f a lo hi = some false ∧ impl_in.f a lo hi = some false := by
  unfold spec_l1In.f impl_in.f
  by_cases h1 : lo ≤ a
  · have h2 : ¬ a ≤ hi := fun h2 => h ⟨h1, h2⟩
    simp [h1, h2]
  · simp [h1]
theorem in_yes (a lo hi : Int) (h : lo ≤ a ∧ a ≤ hi) : spec_l1In.f a lo hi = some true ∧ impl_in.f a lo hi = some true := by
  unfold spec_l1In.f impl_in.f
  simp [h.1, h.2]
theorem nodes_no (a0 a1 : Int) (h : ¬ ((2 ≤ a0 ∧ a0 ≤ 3) ∧ (1 ≤ a1 ∧ a1 ≤ 6))) : spec_esNodes.f 20 a0 a1 = some 0 ∧ impl_isBranching.f 20 a0 a1 = some false := by
  unfold spec_esNodes.f impl_isBranching.f
  by_cases h0 : 2 ≤ a0 ∧ a0 ≤ 3
  · have h1 : ¬ (1 ≤ a1 ∧ a1 ≤ 6) := fun h1 => h ⟨h0, h1⟩
    rw [(in_yes _ _ _ h0).1, (in_yes _ _ _ h0).2, (in_no _ _ _ h1).1, (in_no _ _ _ h1).2]
    simp [spec_esNodes.j0]
  · rw [(in_no _ _ _ h0).1, (in_no _ _ _ h0).2]
    simp [spec_esNodes.j0]
theorem FnExactChipsInRound : laws_FnExactChipsInRound.Pure := by
  intro a0 a1 _ _
  refine ⟨20, ?_⟩
  by_cases h : (2 ≤ a0 ∧ a0 ≤ 3) ∧ (1 ≤ a1 ∧ a1 ≤ 6)
  · have h0 : a0 = 2 ∨ a0 = 3 := by omega
    have h1 : a1 = 1 ∨ a1 = 2 ∨ a1 = 3 ∨ a1 = 4 ∨ a1 = 5 ∨ a1 = 6 := by omega
    rcases h0 with rfl | rfl <;> rcases h1 with rfl | rfl | rfl | rfl | rfl | rfl <;> decide +kernel
  · have e := nodes_no a0 a1 h
    unfold laws_FnExactChipsInRound.f spec_ChipsInRound.f spec_CountNodes.f impl_ChipsInRound.f impl_CountNodes.f
    rw [e.1, e.2]
    simp

end Go.Proofs.Ytmechelmnpoddaa.Pure
