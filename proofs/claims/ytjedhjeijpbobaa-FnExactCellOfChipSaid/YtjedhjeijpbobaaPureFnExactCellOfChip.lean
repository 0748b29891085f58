/-
  The program's cell of a chip is the reference's, and is marked and held apart. No conditions.
-/
import Derived.Test.YtjedhjeijpbobaaGE1
import Derived.Test.YtjedhjeijpbobaaFf
import Derived.Test.YtjedhjeijpbobaaPe
namespace Go.Proofs.Ytjedhjeijpbobaa.Pure
open Go.RowKit Go.Proofs.Ytjedhjeijpbobaa.GE Go.Proofs.YtjedhjeijpbobaaW.PrintWords Go.Proofs.YtjedhjeijpbobaaW.PrintLast

/-- The program's cell of a chip is the reference's, and is marked and held apart. -/
theorem FnExactCellOfChip : laws_FnExactCellOfChip.Pure := by
  intro a0 a1 _ _
  obtain ⟨X, hX⟩ : ∃ X, X = G8.chipV a0 a1 := ⟨_, rfl⟩
  obtain ⟨ok, hok⟩ : ∃ ok, ok = G8.okOuter a0 a1 := ⟨_, rfl⟩
  have hlen : X.length ≤ 200 := by rw [hX]; unfold G8.chipV; split <;> simp
  have hs : G8.spec_CellOfChip.f a0 a1 = some (X, ok) := by unfold G8.spec_CellOfChip.f; rw [hX, hok]
  have hi : ∀ k, 1000 ≤ k → G8.impl_CellOfChip.f a0 a1 = some (X, ok) := by intro _ _; unfold G8.impl_CellOfChip.f; rw [hX, hok]
  refine ⟨1003, ?_⟩
  have e0 := fun k (hk : 1000 ≤ k) => G8.eqIntS_refl X (by omega) k (by omega)
  have e1 := fun k (hk : 1000 ≤ k) => G8.markIntS_eq X (by omega) k (by omega)
  have e2 := fun k (hk : 1000 ≤ k) => G8.heldIntS_eq X.length (by omega) k (by omega)
  have n0 : ¬ (1 + (X.length : Int) < 0) := by omega
  unfold laws_FnExactCellOfChip.f
  rw [hs, hi 1000 (Nat.le_refl _)]
  simp only [Option.bind_some, bne_self_eq_false]
  rw [e0 _ (by omega)]
  simp only [Option.bind_some, if_true]
  unfold laws_FnExactCellOfChip.j0
  simp only [Bool.false_eq_true, if_false]
  rw [e1 _ (by omega)]
  simp only [Option.bind_some]
  rw [e2 _ (by omega)]
  simp only [Option.bind_some]
  rw [if_neg n0, if_pos trivial, hi 1000 (Nat.le_refl _)]
  simp only [Option.bind_some, bne_self_eq_false]
  rw [e0 _ (by omega)]
  simp only [Option.bind_some, if_true]
  unfold laws_FnExactCellOfChip.j1
  simp only [Bool.false_eq_true, if_false]
  rw [e2 _ (by omega)]
  simp only [Option.bind_some]
  rw [if_neg n0, if_pos trivial]

end Go.Proofs.Ytjedhjeijpbobaa.Pure
