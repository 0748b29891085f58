/-
  The program's ends of the line are the reference's, and are marked and held apart. No conditions.
-/
import Derived.Test.YtjedhjeijpbobaaGF1
import Derived.Test.YtjedhjeijpbobaaFh
import Derived.Test.YtjedhjeijpbobaaPe
namespace Go.Proofs.Ytjedhjeijpbobaa.Pure
open Go.RowKit Go.Proofs.Ytjedhjeijpbobaa.GA Go.Proofs.Ytjedhjeijpbobaa.GA Go.Proofs.Ytjedhjeijpbobaa.GF Go.Proofs.YtjedhjeijpbobaaW.PrintWords Go.Proofs.YtjedhjeijpbobaaW.PrintLast

/-- The program's ends of the line are the reference's, and are marked and held apart. -/
theorem FnExactLineEnds : laws_FnExactLineEnds.Pure := by
  intro a0 a1 _ _
  obtain ⟨X, hX⟩ : ∃ X, X = G8.endsV a0 a1 := ⟨_, rfl⟩
  obtain ⟨ok, hok⟩ : ∃ ok, ok = G8.okEnds a0 a1 := ⟨_, rfl⟩
  have hlen : X.length ≤ 200 := by rw [hX]; unfold G8.endsV; split <;> simp
  obtain ⟨j, hj⟩ : ∃ j, spec_LineEnds.f j a0 a1 = some (X, ok) := by rw [hX, hok]; exact G8.spec_LineEnds_eq a0 a1
  have hs : ∀ k, j ≤ k → spec_LineEnds.f k a0 a1 = some (X, ok) := fun k hk => at_rounds (spec_LineEnds.mono a0 a1) hk hj
  have hs_ : True := by trivial
  have hi : ∀ k, 1000 ≤ k → G8.impl_LineEnds.f a0 a1 = some (X, ok) := by intro _ _; unfold G8.impl_LineEnds.f; rw [hX, hok]
  refine ⟨j + 1003, ?_⟩
  have e0 := fun k (hk : 1000 ≤ k) => G8.eqIntS_refl X (by omega) k (by omega)
  have e1 := fun k (hk : 1000 ≤ k) => G8.markIntS_eq X (by omega) k (by omega)
  have e2 := fun k (hk : 1000 ≤ k) => G8.heldIntS_eq X.length (by omega) k (by omega)
  have n0 : ¬ (1 + (X.length : Int) < 0) := by omega
  unfold laws_FnExactLineEnds.f
  rw [hs _ (by omega), hi 1000 (Nat.le_refl _)]
  simp only [Option.bind_some, bne_self_eq_false]
  rw [e0 _ (by omega)]
  simp only [Option.bind_some, if_true]
  unfold laws_FnExactLineEnds.j0
  simp only [Bool.false_eq_true, if_false]
  rw [e1 _ (by omega)]
  simp only [Option.bind_some]
  rw [e2 _ (by omega)]
  simp only [Option.bind_some]
  rw [if_neg n0, if_pos trivial, hi 1000 (Nat.le_refl _)]
  simp only [Option.bind_some, bne_self_eq_false]
  rw [e0 _ (by omega)]
  simp only [Option.bind_some, if_true]
  unfold laws_FnExactLineEnds.j1
  simp only [Bool.false_eq_true, if_false]
  rw [e2 _ (by omega)]
  simp only [Option.bind_some]
  rw [if_neg n0, if_pos trivial]

end Go.Proofs.Ytjedhjeijpbobaa.Pure
