/-
  The program's escapes from turned starts are the reference's, and are marked and held apart. No conditions.
-/
import Derived.Test.YtmechelmnpoddaaE72
import Derived.Test.YtmechelmnpoddaaHo
import Derived.Test.YtmechelmnpoddaaHp
import Derived.Test.YtmechelmnpoddaaHl
namespace Go.Proofs.Ytmechelmnpoddaa.Pure
open Go.RowKit Go.Proofs.Ytmechelmnpoddaa.E7 Go.Proofs.YtmechelmnpoddaaW.PrintWords Go.Proofs.YtmechelmnpoddaaW.PrintLast

/-- The program's escapes from turned starts are the reference's, and are marked and held apart. -/
theorem FnExactTurnedEscapes : laws_FnExactTurnedEscapes.Pure := by
  intro a0 a1 a2 _ _ _
  obtain ⟨X, hX⟩ : ∃ X, X = (if H7.asked a0 a1 0 a2 = true then H7.turnedL a0 a1 a2 else []) := ⟨_, rfl⟩
  obtain ⟨ok, hok⟩ : ∃ ok, ok = H7.asked a0 a1 0 a2 := ⟨_, rfl⟩
  have hlen : X.length ≤ 200 := by
    rw [hX]
    split
    · rename_i h; exact H7.turned_len a0 a1 a2 h
    · exact Nat.zero_le _
  have hs : H7.spec_TurnedEscapes.f a0 a1 a2 = some (X, ok) := by unfold H7.spec_TurnedEscapes.f; rw [hX, hok]
  have hi : ∀ k, 1000 ≤ k → impl_TurnedEscapes.f k a0 a1 a2 = some (X, ok) := by rw [hX, hok]; exact H7.turned_impl a0 a1 a2
  refine ⟨1003, ?_⟩
  have e0 := fun k (hk : 1000 ≤ k) => H7.eqIntS_refl X (by omega) k (by omega)
  have e1 := fun k (hk : 1000 ≤ k) => H7.markIntS_eq X (by omega) k (by omega)
  have e2 := fun k (hk : 1000 ≤ k) => H7.heldIntS_eq X.length (by omega) k (by omega)
  have n0 : ¬ (1 + (X.length : Int) < 0) := by omega
  unfold laws_FnExactTurnedEscapes.f
  rw [hs, hi _ (by omega)]
  simp only [Option.bind_some, bne_self_eq_false]
  rw [e0 _ (by omega)]
  simp only [Option.bind_some, if_true]
  unfold laws_FnExactTurnedEscapes.j0
  simp only [Bool.false_eq_true, if_false]
  rw [e1 _ (by omega)]
  simp only [Option.bind_some]
  rw [e2 _ (by omega)]
  simp only [Option.bind_some]
  rw [if_neg n0, if_pos trivial, hi _ (by omega)]
  simp only [Option.bind_some, bne_self_eq_false]
  rw [e0 _ (by omega)]
  simp only [Option.bind_some, if_true]
  unfold laws_FnExactTurnedEscapes.j1
  simp only [Bool.false_eq_true, if_false]
  rw [e2 _ (by omega)]
  simp only [Option.bind_some]
  rw [if_neg n0, if_pos trivial]

end Go.Proofs.Ytmechelmnpoddaa.Pure
