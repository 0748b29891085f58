import Derived.Test.YtmechelmnpoddaaB72
import Derived.Test.YtmechelmnpoddaaHl
import Derived.Test.YtmechelmnpoddaaHp
namespace Go.Proofs.Ytmechelmnpoddaa.Pure
open Go.RowKit Go.Proofs.Ytmechelmnpoddaa.B7 Go.Proofs.YtmechelmnpoddaaW.PrintWords Go.Proofs.YtmechelmnpoddaaW.PrintLast

/-- The program's list is the reference's, and is marked and held apart. -/
theorem FnExactLevelVisits : laws_FnExactLevelVisits.Pure := by
  intro a0 a1 a2 a3 _ _ _ _
  obtain ⟨X, hX⟩ : ∃ X, X = (if H7.asked a0 a1 a2 a3 = true then H7.ints (H7.outS a0 a1 a2 a3).vis else []) := ⟨_, rfl⟩
  obtain ⟨ok, hok⟩ : ∃ ok, ok = H7.asked a0 a1 a2 a3 := ⟨_, rfl⟩
  have hlen : X.length ≤ 200 := by rw [hX]; exact H7.list_len a0 a1 a2 a3 (fun s => s.vis) (fun s => by exact .inr (.inr (.inr rfl)))
  have hs : H7.spec_LevelVisits.f a0 a1 a2 a3 = some (X, ok) := by unfold H7.spec_LevelVisits.f; rw [hX, hok]
  have hi : H7.impl_LevelVisits.f a0 a1 a2 a3 = some (X, ok) := by unfold H7.impl_LevelVisits.f; rw [hX, hok]
  refine ⟨1003, ?_⟩
  have e0 := fun k (hk : 1000 ≤ k) => H7.eqIntS_refl X (by omega) k (by omega)
  have e1 := fun k (hk : 1000 ≤ k) => H7.markIntS_eq X (by omega) k (by omega)
  have e2 := fun k (hk : 1000 ≤ k) => H7.heldIntS_eq X.length (by omega) k (by omega)
  have n0 : ¬ (1 + (X.length : Int) < 0) := by omega
  unfold laws_FnExactLevelVisits.f
  rw [hs, hi]
  simp only [Option.bind_some, bne_self_eq_false]
  rw [e0 _ (by omega)]
  simp only [Option.bind_some, if_true]
  unfold laws_FnExactLevelVisits.j0
  simp only [Bool.false_eq_true, if_false]
  rw [e1 _ (by omega)]
  simp only [Option.bind_some]
  rw [e2 _ (by omega)]
  simp only [Option.bind_some]
  rw [if_neg n0, if_pos trivial, hi]
  simp only [Option.bind_some, bne_self_eq_false]
  rw [e0 _ (by omega)]
  simp only [Option.bind_some, if_true]
  unfold laws_FnExactLevelVisits.j1
  simp only [Bool.false_eq_true, if_false]
  rw [e2 _ (by omega)]
  simp only [Option.bind_some]
  rw [if_neg n0, if_pos trivial]

end Go.Proofs.Ytmechelmnpoddaa.Pure
