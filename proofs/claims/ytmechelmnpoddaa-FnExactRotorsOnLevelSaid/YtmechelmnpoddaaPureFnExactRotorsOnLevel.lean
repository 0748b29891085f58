/-
  The program's rotors of a level are the reference's, and are marked and held apart. No conditions.
-/
import Derived.Test.YtmechelmnpoddaaD71
import Derived.Test.YtmechelmnpoddaaHk
import Derived.Test.YtmechelmnpoddaaHp
import Derived.Test.YtmechelmnpoddaaHl
namespace Go.Proofs.Ytmechelmnpoddaa.Pure
open Go.RowKit Go.Proofs.Ytmechelmnpoddaa.D7 Go.Proofs.YtmechelmnpoddaaW.PrintWords Go.Proofs.YtmechelmnpoddaaW.PrintLast

/-- The program's rotors of a level are the reference's, and are marked and held apart. -/
theorem FnExactRotorsOnLevel : laws_FnExactRotorsOnLevel.Pure := by
  intro a0 a1 a2 a3 a4 _ _ _ _ _
  obtain ⟨X, hX⟩ : ∃ X, X = (if H7.lasked a0 a1 a2 a3 a4 = true then H7.ints (H7.rowOf a0 a1 a2 a3 a4) else []) := ⟨_, rfl⟩
  obtain ⟨ok, hok⟩ : ∃ ok, ok = H7.lasked a0 a1 a2 a3 a4 := ⟨_, rfl⟩
  have hlen : X.length ≤ 200 := by rw [hX]; exact H7.row_len200 a0 a1 a2 a3 a4
  have hs : H7.spec_RotorsOnLevel.f a0 a1 a2 a3 a4 = some (X, ok) := by unfold H7.spec_RotorsOnLevel.f; rw [hX, hok]
  have hi : ∀ k, 1000 ≤ k → H7.impl_RotorsOnLevel.f a0 a1 a2 a3 a4 = some (X, ok) := by intro _ _; unfold H7.impl_RotorsOnLevel.f; rw [hX, hok]
  refine ⟨1003, ?_⟩
  have e0 := fun k (hk : 1000 ≤ k) => H7.eqIntS_refl X (by omega) k (by omega)
  have e1 := fun k (hk : 1000 ≤ k) => H7.markIntS_eq X (by omega) k (by omega)
  have e2 := fun k (hk : 1000 ≤ k) => H7.heldIntS_eq X.length (by omega) k (by omega)
  have n0 : ¬ (1 + (X.length : Int) < 0) := by omega
  unfold laws_FnExactRotorsOnLevel.f
  rw [hs, hi 1000 (Nat.le_refl _)]
  simp only [Option.bind_some, bne_self_eq_false]
  rw [e0 _ (by omega)]
  simp only [Option.bind_some, if_true]
  unfold laws_FnExactRotorsOnLevel.j0
  simp only [Bool.false_eq_true, if_false]
  rw [e1 _ (by omega)]
  simp only [Option.bind_some]
  rw [e2 _ (by omega)]
  simp only [Option.bind_some]
  rw [if_neg n0, if_pos trivial, hi 1000 (Nat.le_refl _)]
  simp only [Option.bind_some, bne_self_eq_false]
  rw [e0 _ (by omega)]
  simp only [Option.bind_some, if_true]
  unfold laws_FnExactRotorsOnLevel.j1
  simp only [Bool.false_eq_true, if_false]
  rw [e2 _ (by omega)]
  simp only [Option.bind_some]
  rw [if_neg n0, if_pos trivial]

end Go.Proofs.Ytmechelmnpoddaa.Pure
