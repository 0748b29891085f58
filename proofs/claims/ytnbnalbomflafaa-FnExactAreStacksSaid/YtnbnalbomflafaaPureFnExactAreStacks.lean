/-
  AreStacks: the law's printed function returns true for all arguments. No conditions.
-/
import Derived.Test.YtnbnalbomflafaaKu
import Derived.Test.YtnbnalbomflafaaHD2
namespace Go.Proofs.Ytnbnalbomflafaa.Pure
open Go.RowKit Go.Proofs.Ytnbnalbomflafaa.GA Go.Proofs.Ytnbnalbomflafaa.GD Go.Proofs.Ytnbnalbomflafaa.KA Go.Proofs.Ytnbnalbomflafaa.HD Go.Proofs.YtnbnalbomflafaaW.PrintWords
set_option linter.unusedVariables false
theorem FnExactAreStacks (l0 : List (List Int)) (a1 : Int) (l2 : List (List Int)) (h0 : l0.length ≤ 9223372036854775807) (h1 : ∀ r ∈ l0, ∀ x ∈ r, (Lit.int .i64 x).wf = true) (h2 : ∀ r ∈ l0, r.length ≤ 9223372036854775807) (w1 : (Lit.int .i64 a1).wf = true)
    (g0 : l2.length ≤ 9223372036854775807) (g1 : ∀ r ∈ l2, ∀ x ∈ r, (Lit.int .i64 x).wf = true) (g2 : ∀ r ∈ l2, r.length ≤ 9223372036854775807) : ∃ k, laws_FnExactAreStacks.f k l0 a1 l2 = some true := by
  obtain ⟨y, hy, hy2⟩ := szGraph2 l0 h0 h2
  refine ⟨1048600 + 2000000, ?_⟩
  unfold laws_FnExactAreStacks.f
  rw [hy]
  simp only [Option.bind_some]
  rcases hy2 with hneg | ⟨hy0, hy1, hl, hr⟩
  · rw [if_pos hneg]
  · rw [if_neg (by omega)]
    obtain ⟨z, hz, hz2⟩ := szStacks l2 y g0 g2 hy0 hy1
    rw [hz]
    simp only [Option.bind_some]
    rcases hz2 with hneg | ⟨hz0, gl, gr⟩
    · rw [if_pos hneg]
    · rw [if_neg (by omega), toGraph l0 hl hr _ (by omega)]
      simp only [Option.bind_some]
      rw [toStacks l2 gl gr _ (by omega)]
      simp only [Option.bind_some]
      obtain ⟨u, v, hs, hi⟩ : ∃ u v, (∀ k, 200 ≤ k → spec_AreStacks.f k l0 a1 l2 = some (u, v)) ∧ impl_AreStacks.f l0 a1 l2 = some (u, v) := by
        unfold impl_AreStacks.f impl_has.f impl_areStacks.f
        rw [hasB_one]
        cases hp : placeB l0 a1 with
        | false =>
          refine ⟨false, false, fun k hk => ?_, rfl⟩
          unfold spec_AreStacks.f
          rw [grPlace_eq l0 a1 k (by omega), hp]
          rfl
        | true =>
          refine ⟨stacksB l0 a1 l2, true, fun k hk => ?_, rfl⟩
          unfold spec_AreStacks.f
          rw [grPlace_eq l0 a1 k (by omega), hp]
          simp only [Option.bind_some, if_true]
          rw [skGood_eq l0 a1 l2 k (by omega)]
          rfl
      rw [hs _ (by omega), hi]
      simp only [Option.bind_some, bne_self_eq_false, Bool.false_eq_true, if_false]
      unfold laws_FnExactAreStacks.j0
      simp only [Bool.false_eq_true, if_false]
      rw [toGraph l0 hl hr _ (by omega)]
      simp only [Option.bind_some]
      rw [eqGraph l0 hl hr _ (by omega)]
      simp only [Option.bind_some, if_true]
      rw [toStacks l2 gl gr _ (by omega)]
      simp only [Option.bind_some]
      rw [eqStacks l2 gl gr _ (by omega)]
      rfl
end Go.Proofs.Ytnbnalbomflafaa.Pure
