import Derived.Test.YtmechelmnpoddaaC71
import Derived.Test.YtmechelmnpoddaaHg
import Derived.Test.YtmechelmnpoddaaHp
namespace Go.Proofs.Ytmechelmnpoddaa.Pure
open Go.RowKit Go.Proofs.Ytmechelmnpoddaa.C7 Go.Proofs.YtmechelmnpoddaaW.PrintWords Go.Proofs.YtmechelmnpoddaaW.PrintLast

/-- The program's number of escapes is the reference's. -/
theorem FnExactEscapesOf : laws_FnExactEscapesOf.Pure := by
  intro a0 a1 a2 a3 _ _ _ _
  obtain ⟨X, hX⟩ : ∃ X, X = (if H7.asked a0 a1 a2 a3 = true then H7.ints (H7.outS a0 a1 a2 a3).ends else []) := ⟨_, rfl⟩
  have hlen : X.length ≤ 200 := by rw [hX]; exact H7.list_len a0 a1 a2 a3 (fun s => s.ends) (fun s => by exact .inl rfl)
  have habs : H7.absI X ≤ 4611686018427387904 := by
    rw [hX]
    split
    · rename_i h; have := H7.ends_abs h; omega
    · decide
  have hr : H7.sumI X = (if H7.asked a0 a1 a2 a3 = true then H7.sumE a0 a1 a2 a3 else 0) := by
    rw [hX]
    split <;> rfl
  have hs := H7.sum_eq X (by omega) habs
  refine ⟨X.length + 1, ?_⟩
  unfold laws_FnExactEscapesOf.f impl_EscapesOf.f H7.spec_EscapesOf.f H7.impl_EscapeList.f
  rw [← hX, ← hr]
  simp only [Option.bind_some]
  rw [hs]
  simp

end Go.Proofs.Ytmechelmnpoddaa.Pure
