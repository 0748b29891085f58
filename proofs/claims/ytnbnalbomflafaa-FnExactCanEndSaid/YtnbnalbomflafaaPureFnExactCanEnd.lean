/-
  CanEnd: the law's printed function returns true for all arguments. No conditions.
-/
import Derived.Test.YtnbnalbomflafaaKm
namespace Go.Proofs.Ytnbnalbomflafaa.Pure
open Go.RowKit Go.Proofs.Ytnbnalbomflafaa.GA Go.Proofs.Ytnbnalbomflafaa.GB Go.Proofs.Ytnbnalbomflafaa.KA Go.Proofs.Ytnbnalbomflafaa.HB Go.Proofs.YtnbnalbomflafaaW.PrintWords
set_option linter.unusedVariables false
theorem FnExactCanEnd (l0 : List (List Int)) (a1 a2 : Int) (h0 : l0.length ≤ 9223372036854775807) (h1 : ∀ r ∈ l0, ∀ x ∈ r, (Lit.int .i64 x).wf = true) (h2 : ∀ r ∈ l0, r.length ≤ 9223372036854775807) (w1 : (Lit.int .i64 a1).wf = true) (w2 : (Lit.int .i64 a2).wf = true) : ∃ k, laws_FnExactCanEnd.f k l0 a1 a2 = some true := by
  obtain ⟨y, hy, hy2⟩ := szGraph l0 h0 h2
  refine ⟨1048600 + 2000000, ?_⟩
  unfold laws_FnExactCanEnd.f
  rw [hy]
  simp only [Option.bind_some]
  rcases hy2 with hneg | ⟨hy0, hl, hr⟩
  · rw [if_pos hneg]
  · obtain ⟨u, b, hb⟩ := canEnd_both l0 a1 a2
    rw [if_neg (by omega), toGraph l0 hl hr _ (by omega)]
    simp only [Option.bind_some]
    rw [(hb _ (by omega)).1, (hb _ (by omega)).2]
    simp only [Option.bind_some, bne_self_eq_false, Bool.false_eq_true, if_false]
    unfold laws_FnExactCanEnd.j0
    simp only [Bool.false_eq_true, if_false]
    rw [toGraph l0 hl hr _ (by omega)]
    simp only [Option.bind_some]
    rw [eqGraph l0 hl hr _ (by omega)]
    rfl
end Go.Proofs.Ytnbnalbomflafaa.Pure
