/-
  ShareOfExit: the law's printed function returns true for all arguments. No conditions.
-/
import Derived.Test.YtnbnalbomflafaaHA
import Derived.Test.YtnbnalbomflafaaKp
namespace Go.Proofs.Ytnbnalbomflafaa.Pure
open Go.RowKit Go.Proofs.Ytnbnalbomflafaa.GA Go.Proofs.Ytnbnalbomflafaa.KA Go.Proofs.Ytnbnalbomflafaa.HA Go.Proofs.YtnbnalbomflafaaW.PrintWords
set_option linter.unusedVariables false
theorem rdH (l : List (List Int)) (i : Int) : HA.rd_L1 l i = GA.rd_L1 l i := rfl
theorem both_ratio (n m : Nat) (h1 : 1 ≤ n) (h2 : n ≤ m) (h3 : m ≤ 5) : ∃ p q, ∀ j, spec_hiRatio.f (20 + j) (n : Int) (m : Int) = some (p, q) ∧ impl_ratio.f (20 + j) (n : Int) (m : Int) = some (p, q) := by
  have key : ∀ p q, spec_hiRatio.f 20 (n : Int) (m : Int) = some (p, q) → impl_ratio.f 20 (n : Int) (m : Int) = some (p, q) → ∀ j, spec_hiRatio.f (20 + j) (n : Int) (m : Int) = some (p, q) ∧ impl_ratio.f (20 + j) (n : Int) (m : Int) = some (p, q) :=
    fun p q hs hi j => ⟨at_rounds (g := fun k => spec_hiRatio.f k (n : Int) (m : Int)) (fun k => spec_hiRatio.mono _ _ k) (by omega) hs, at_rounds (g := fun k => impl_ratio.f k (n : Int) (m : Int)) (fun k => impl_ratio.mono _ _ k) (by omega) hi⟩
  have hm : m = 1 ∨ m = 2 ∨ m = 3 ∨ m = 4 ∨ m = 5 := by omega
  have hn : n = 1 ∨ n = 2 ∨ n = 3 ∨ n = 4 ∨ n = 5 := by omega
  rcases hm with rfl | rfl | rfl | rfl | rfl <;> rcases hn with rfl | rfl | rfl | rfl | rfl <;>
    first
    | (exfalso; omega)
    | exact ⟨1, 1, key _ _ (by decide +kernel) (by decide +kernel)⟩
    | exact ⟨1, 2, key _ _ (by decide +kernel) (by decide +kernel)⟩
    | exact ⟨1, 3, key _ _ (by decide +kernel) (by decide +kernel)⟩
    | exact ⟨2, 3, key _ _ (by decide +kernel) (by decide +kernel)⟩
    | exact ⟨1, 4, key _ _ (by decide +kernel) (by decide +kernel)⟩
    | exact ⟨3, 4, key _ _ (by decide +kernel) (by decide +kernel)⟩
    | exact ⟨1, 5, key _ _ (by decide +kernel) (by decide +kernel)⟩
    | exact ⟨2, 5, key _ _ (by decide +kernel) (by decide +kernel)⟩
    | exact ⟨3, 5, key _ _ (by decide +kernel) (by decide +kernel)⟩
    | exact ⟨4, 5, key _ _ (by decide +kernel) (by decide +kernel)⟩
/-- How often a number stands in a list. -/
def cnt (v : Int) : List Int → Nat
  | [] => 0
  | x :: t => (if x = v then 1 else 0) + cnt v t
theorem cnt_le (v : Int) : ∀ l, cnt v l ≤ l.length
  | [] => Nat.le_refl _
  | x :: t => by have := cnt_le v t; simp only [cnt, List.length_cons]; split <;> omega
theorem cnt_pos {v : Int} : ∀ {l : List Int}, v ∈ l → 1 ≤ cnt v l
  | x :: t, h => by
    simp only [cnt]
    rcases List.mem_cons.1 h with rfl | h
    · rw [if_pos rfl]; omega
    · have := cnt_pos h; omega
section
variable (l : List (List Int)) (p a : Nat) (hp : p < l.length) (h5 : l[p].length ≤ 5) (ha : a < l[p].length)
include hp h5 ha
theorem spec_loop {u v : Int} (hr : ∀ j, spec_hiRatio.f (20 + j) (cnt l[p][a] l[p] : Int) (l[p].length : Int) = some (u, v)) (d : Nat) : ∀ (k i c : Nat), i + d = l[p].length → d + 20 < k → c + cnt l[p][a] (l[p].drop i) = cnt l[p][a] l[p] →
    spec_ShareOfExit.l0 k (p : Int) (a : Int) (c : Int) l[p] (l[p].length : Int) (i : Int) l = some (u, v, true) := by
  have hc5 := cnt_le l[p][a] l[p]
  induction d with
  | zero =>
    intro k i c hi hk hc
    obtain ⟨k, rfl⟩ := succ_of hk
    unfold spec_ShareOfExit.l0
    rw [List.drop_of_length_le (by omega)] at hc
    simp only [cnt] at hc
    rw [if_neg (by omega), if_pos (by omega), if_pos (by omega), rdL_at l p hp, show c = cnt l[p][a] l[p] by omega, show k = 20 + (k - 20) by omega, hr]
    rfl
  | succ d ih =>
    intro k i c hi hk hc
    obtain ⟨k, rfl⟩ := succ_of hk
    have hlt : i < l[p].length := by omega
    unfold spec_ShareOfExit.l0
    rw [List.drop_eq_getElem_cons hlt] at hc
    simp only [cnt] at hc
    rw [if_pos (by omega), if_pos (by omega), if_pos (by omega), if_pos (by omega), if_pos (by omega), if_pos (by omega), rdL_at l p hp, if_pos (by omega), rd_at _ i hlt, rd_at _ a ha, wrap_up hlt (by omega)]
    by_cases e : l[p][i] = l[p][a]
    · rw [if_pos e] at hc ⊢
      rw [show wrap64 ((c : Int) + 1) = ((c + 1 : Nat) : Int) from wrap_up (n := c + 1) (by omega) (by omega)]
      exact ih k (i + 1) (c + 1) (by omega) (by omega) (by omega)
    · rw [if_neg e] at hc ⊢
      exact ih k (i + 1) c (by omega) (by omega) (by omega)
theorem impl_loop {u v : Int} (hr : ∀ j, impl_ratio.f (20 + j) (cnt l[p][a] l[p] : Int) (l[p].length : Int) = some (u, v)) (d : Nat) : ∀ (k i c : Nat), i + d = l[p].length → d + 20 < k → c + cnt l[p][a] (l[p].drop i) = cnt l[p][a] l[p] →
    impl_ShareOfExit.l0 k (a : Int) l[p] (c : Int) l[p] (l[p].length : Int) (i : Int) = some (u, v, true) := by
  have hc5 := cnt_le l[p][a] l[p]
  induction d with
  | zero =>
    intro k i c hi hk hc
    obtain ⟨k, rfl⟩ := succ_of hk
    unfold impl_ShareOfExit.l0
    rw [List.drop_of_length_le (by omega)] at hc
    simp only [cnt] at hc
    rw [if_neg (by omega), show c = cnt l[p][a] l[p] by omega, show k = 20 + (k - 20) by omega, hr]
    rfl
  | succ d ih =>
    intro k i c hi hk hc
    obtain ⟨k, rfl⟩ := succ_of hk
    have hlt : i < l[p].length := by omega
    unfold impl_ShareOfExit.l0
    rw [List.drop_eq_getElem_cons hlt] at hc
    simp only [cnt] at hc
    rw [if_pos (by omega), if_pos (by omega), if_pos (by omega), if_pos (by omega), if_pos (by omega), rd_at _ i hlt, rd_at _ a ha, wrap_up hlt (by omega)]
    by_cases e : l[p][i] = l[p][a]
    · rw [if_pos e] at hc ⊢
      rw [show wrap64 ((c : Int) + 1) = ((c + 1 : Nat) : Int) from wrap_up (n := c + 1) (by omega) (by omega)]
      exact ih k (i + 1) (c + 1) (by omega) (by omega) (by omega)
    · rw [if_neg e] at hc ⊢
      exact ih k (i + 1) c (by omega) (by omega) (by omega)
end
theorem share_both (l : List (List Int)) (a1 a2 : Int) : ∃ u v b, ∀ k, 100 ≤ k → spec_ShareOfExit.f k l a1 a2 = some (u, v, b) ∧ impl_ShareOfExit.f k l a1 a2 = some (u, v, b) := by
  cases hp : placeB l a1 with
  | false =>
    refine ⟨0, 0, false, fun k hk => ?_⟩
    obtain ⟨k, rfl⟩ := succ_of (show 0 < k by omega)
    unfold spec_ShareOfExit.f impl_ShareOfExit.f impl_has.f
    rw [grPlace_eq l a1 _ (by omega), hasB_one, hp]
    simp [spec_ShareOfExit.j0, impl_ShareOfExit.j0]
  | true =>
    obtain ⟨hg, h1, h8, hp0, hpl⟩ := place_is hp
    obtain ⟨p, rfl⟩ := Int.eq_ofNat_of_zero_le hp0
    have hlt : p < l.length := by omega
    have h5 := (graph_row hg (List.getElem_mem hlt)).1
    have hspec : ∀ k, 100 ≤ k → spec_ShareOfExit.f k l p a2 = spec_ShareOfExit.j0 k p a2 (!inB a2 0 ((l[p].length : Int) - 1)) l := fun k hk => by
      unfold spec_ShareOfExit.f
      rw [grPlace_eq l p _ (by omega), hp]
      simp only [Option.bind_some, if_true]
      rw [if_pos hp0, if_pos hpl, rdL_at l p hlt, wrap_id (by omega) (by omega), l1In_eq]
      rfl
    have himpl : ∀ k, 100 ≤ k → impl_ShareOfExit.f k l p a2 = impl_ShareOfExit.j0 k p a2 (!inB a2 0 ((l[p].length : Int) - 1)) l := fun k hk => by
      unfold impl_ShareOfExit.f impl_has.f
      rw [hasB_one, hp]
      simp only [Option.bind_some, if_true]
      rw [if_pos hp0, if_pos hpl, rdH, rdL_at l p hlt, wrap_id (by omega) (by omega), in_eq]
      rfl
    cases hb : inB a2 0 ((l[p].length : Int) - 1) with
    | false =>
      refine ⟨0, 0, false, fun k hk => ?_⟩
      rw [hspec k hk, himpl k hk, hb]
      obtain ⟨k, rfl⟩ := succ_of (show 0 < k by omega)
      simp [spec_ShareOfExit.j0, impl_ShareOfExit.j0]
    | true =>
      have hb' := hb
      simp only [inB, decide_eq_true_eq] at hb'
      obtain ⟨a, rfl⟩ := Int.eq_ofNat_of_zero_le hb'.1
      have ha : a < l[p].length := by omega
      obtain ⟨u, v, hr⟩ := both_ratio (cnt l[p][a] l[p]) l[p].length (cnt_pos (List.getElem_mem ha)) (cnt_le _ _) h5
      refine ⟨u, v, true, fun k hk => ?_⟩
      rw [hspec k hk, himpl k hk, hb]
      obtain ⟨k, rfl⟩ := succ_of (show 0 < k by omega)
      simp only [spec_ShareOfExit.j0, impl_ShareOfExit.j0, Bool.not_true, Bool.false_eq_true, if_false]
      rw [if_pos hp0, if_pos hp0, if_pos hpl, if_pos hpl, rdH, rdL_at l p hlt]
      exact ⟨spec_loop l p a hlt h5 ha (fun j => (hr j).1) l[p].length k 0 0 (by omega) (by omega) (by simp), impl_loop l p a hlt h5 ha (fun j => (hr j).2) l[p].length k 0 0 (by omega) (by omega) (by simp)⟩
theorem FnExactShareOfExit (l0 : List (List Int)) (a1 a2 : Int) (h0 : l0.length ≤ 9223372036854775807) (h1 : ∀ r ∈ l0, ∀ x ∈ r, (Lit.int .i64 x).wf = true) (h2 : ∀ r ∈ l0, r.length ≤ 9223372036854775807) (w1 : (Lit.int .i64 a1).wf = true) (w2 : (Lit.int .i64 a2).wf = true) : ∃ k, laws_FnExactShareOfExit.f k l0 a1 a2 = some true := by
  obtain ⟨y, hy, hy2⟩ := szGraph l0 h0 h2
  refine ⟨1048600 + 2000000, ?_⟩
  unfold laws_FnExactShareOfExit.f
  rw [hy]
  simp only [Option.bind_some]
  rcases hy2 with hneg | ⟨hy0, hl, hr⟩
  · rw [if_pos hneg]
  · obtain ⟨u, v, b, hb⟩ := share_both l0 a1 a2
    rw [if_neg (by omega), toGraph l0 hl hr _ (by omega)]
    simp only [Option.bind_some]
    rw [(hb _ (by omega)).1, (hb _ (by omega)).2]
    simp only [Option.bind_some, bne_self_eq_false, laws_eqRatio.f, if_true]
    unfold laws_FnExactShareOfExit.j0
    simp only [Bool.false_eq_true, if_false]
    rw [toGraph l0 hl hr _ (by omega)]
    simp only [Option.bind_some]
    rw [eqGraph l0 hl hr _ (by omega)]
    rfl
end Go.Proofs.Ytnbnalbomflafaa.Pure
