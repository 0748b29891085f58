/-
  The program's rows of a shape are the reference's, and are marked and held apart. No conditions.
-/
import Derived.Test.YtjedhjeijpbobaaGH1
import Derived.Test.YtjedhjeijpbobaaFl
import Derived.Test.YtjedhjeijpbobaaPs
namespace Go.Proofs.Ytjedhjeijpbobaa.Pure
open Go.RowKit Go.Proofs.Ytjedhjeijpbobaa.GH Go.Proofs.YtjedhjeijpbobaaW.PrintWords Go.Proofs.YtjedhjeijpbobaaW.PrintLast

/-- The program's rows of a shape are the reference's, and are marked and held apart. -/
theorem FnExactShapeRows : laws_FnExactShapeRows.Pure := by
  intro a0 a1 _ _
  obtain ⟨X, hX⟩ : ∃ X, X = G8.shapeV a0 a1 := ⟨_, rfl⟩
  obtain ⟨ok, hok⟩ : ∃ ok, ok = G8.okGrid a0 a1 := ⟨_, rfl⟩
  have hlen : X.length ≤ 200 := by rw [hX]; exact G8.shape_len a0 a1
  have hs : G8.spec_ShapeRows.f a0 a1 = some (X, ok) := by unfold G8.spec_ShapeRows.f; rw [hX, hok]
  have hi : ∀ k, 1000 ≤ k → G8.impl_ShapeRows.f a0 a1 = some (X, ok) := by intro _ _; unfold G8.impl_ShapeRows.f; rw [hX, hok]
  refine ⟨1003, ?_⟩
  have e0 := fun k (hk : 1000 ≤ k) => G8.eqStringS_refl X (by omega) k (by omega)
  have e1 := fun k (hk : 1000 ≤ k) => G8.markStringS_eq X (by omega) k (by omega)
  have e2 := fun k (hk : 1000 ≤ k) => G8.heldStringS_eq X.length (by omega) k (by omega)
  have n0 : ¬ (1 + (X.length : Int) < 0) := by omega
  unfold laws_FnExactShapeRows.f
  rw [hs, hi 1000 (Nat.le_refl _)]
  simp only [Option.bind_some, bne_self_eq_false]
  rw [e0 _ (by omega)]
  simp only [Option.bind_some, if_true]
  unfold laws_FnExactShapeRows.j0
  simp only [Bool.false_eq_true, if_false]
  rw [e1 _ (by omega)]
  simp only [Option.bind_some]
  rw [e2 _ (by omega)]
  simp only [Option.bind_some]
  rw [if_neg n0, if_pos trivial, hi 1000 (Nat.le_refl _)]
  simp only [Option.bind_some, bne_self_eq_false]
  rw [e0 _ (by omega)]
  simp only [Option.bind_some, if_true]
  unfold laws_FnExactShapeRows.j1
  simp only [Bool.false_eq_true, if_false]
  rw [e2 _ (by omega)]
  simp only [Option.bind_some]
  rw [if_neg n0, if_pos trivial]

end Go.Proofs.Ytjedhjeijpbobaa.Pure
