/-
  What stacks are, by the reference; sizes, copies and equal ones of stacks. Plain lists: no memory here.
-/
import Derived.Test.YtnbnalbomflafaaKt
import Derived.Test.YtnbnalbomflafaaGD
namespace Go.Proofs.Ytnbnalbomflafaa.KA
open Go.RowKit Go.Proofs.YtnbnalbomflafaaW.PrintWords Go.Proofs.YtnbnalbomflafaaW.PrintLast
open Go.Proofs.Ytnbnalbomflafaa.GA Go.Proofs.Ytnbnalbomflafaa.GD
set_option linter.unusedVariables false
set_option linter.unusedSimpArgs false
theorem rdGD (l : List (List Int)) (i : Int) : GD.rd_L1 l i = GA.rd_L1 l i := rfl
theorem szSS_up (l : List (List Int)) (hl : l.length ≤ 9223372036854775807) (h2 : ∀ r ∈ l, r.length ≤ 9223372036854775807) : ∀ (k i : Nat) (x y : Int), laws_szIntSS.l0 k l x (i : Int) = some y → i ≤ l.length → 0 ≤ x → x ≤ 1048576 → y ≤ 1048576
  | 0, _, _, _, h, _, _, _ => by simp [laws_szIntSS.l0] at h
  | k + 1, i, x, y, h, hi, h0, h1 => by
    simp only [laws_szIntSS.l0] at h
    by_cases hlt : i < l.length
    · rw [if_pos (by omega), if_pos (by omega), rdL_at l i hlt] at h
      obtain ⟨z, hz, hz2⟩ := szS l[i] x (h2 _ (List.getElem_mem hlt)) h0 h1
      rw [hz] at h
      simp only [Option.bind_some] at h
      split at h
      · obtain rfl := Option.some.inj h
        decide
      · rw [wrap_id (by omega) (by omega), show (i : Int) + 1 = ((i + 1 : Nat) : Int) by omega] at h
        exact szSS_up l hl h2 k (i + 1) z y h (by omega) (by omega) (by omega)
    · rw [if_neg (by omega)] at h
      obtain rfl := Option.some.inj h
      exact h1
theorem szGraph2 (l : List (List Int)) (h0 : l.length ≤ 9223372036854775807) (h2 : ∀ r ∈ l, r.length ≤ 9223372036854775807) :
    ∃ y, (∀ j, laws_szGraph.f (1048600 + j) l 1048576 = some y) ∧ (y < 0 ∨ (0 ≤ y ∧ y ≤ 1048576 ∧ l.length ≤ 1048576 ∧ ∀ r ∈ l, r.length ≤ 1048576)) := by
  obtain ⟨y, hy, hy2⟩ := szGraph l h0 h2
  refine ⟨y, hy, ?_⟩
  rcases hy2 with h | ⟨h, h'⟩
  · exact .inl h
  · refine .inr ⟨h, ?_, h'⟩
    have e := hy 0
    unfold laws_szGraph.f laws_szIntSS.f at e
    rw [wrap_id (by omega) (by omega), if_neg (by omega)] at e
    obtain ⟨t, ht, e⟩ := Option.bind_eq_some_iff.1 e
    have := szSS_up l h0 h2 _ 0 _ t ht (by omega) (by omega) (by omega)
    split at e
    · obtain rfl := Option.some.inj e; omega
    · obtain rfl := Option.some.inj e; exact this
theorem szStacks (l : List (List Int)) (x : Int) (h0 : l.length ≤ 9223372036854775807) (h2 : ∀ r ∈ l, r.length ≤ 9223372036854775807) (hx : 0 ≤ x) (hx1 : x ≤ 1048576) :
    ∃ y, (∀ j, laws_szStacks.f (1048600 + j) l x = some y) ∧ (y < 0 ∨ (0 ≤ y ∧ l.length ≤ 1048576 ∧ ∀ r ∈ l, r.length ≤ 1048576)) := by
  obtain ⟨y, hy, hy2⟩ := szSS l x h0 h2 hx hx1
  unfold laws_szStacks.f
  rcases (show y < 0 ∨ 0 ≤ y by omega) with h | h
  · refine ⟨-1, fun j => ?_, .inl (by decide)⟩
    rw [hy]
    simp only [Option.bind_some]
    rw [if_pos h]
  · refine ⟨y, fun j => ?_, .inr ⟨h, ?_⟩⟩
    · rw [hy]
      simp only [Option.bind_some]
      rw [if_neg (by omega)]
    · rcases hy2 with h' | h'
      · omega
      · exact h'
theorem toStacks (l : List (List Int)) (hl : l.length ≤ 1048576) (h2 : ∀ r ∈ l, r.length ≤ 1048576) (k : Nat) (hk : 2097160 < k) : laws_toStacks.f k l = some l := by
  unfold laws_toStacks.f
  rw [toSS l hl h2 k hk]
  rfl
theorem eqStacks (l : List (List Int)) (hl : l.length ≤ 1048576) (h2 : ∀ r ∈ l, r.length ≤ 1048576) (k : Nat) (hk : 2097160 < k) : laws_eqStacks.f k l l = some true := by
  unfold laws_eqStacks.f
  rw [eqSS l hl h2 k hk]
  rfl
theorem okStack_eq (n : Nat) (row : List Int) : okStack n row = (decide (row.length ≤ 12) && row.all fun x => inB x 0 ((n : Int) - 1)) := by
  unfold okStack
  congr 1
  rw [List.not_any_eq_all_not]
  simp
theorem skGood_loop (l s : List (List Int)) (hn : l.length ≤ 8) (hsl : s.length = l.length) (h5 : ∀ r ∈ l, r.length ≤ 5) (d : Nat) : ∀ (k i : Nat), i + d = s.length → d + 15 < k → spec_skGood.l0 k s (s.length : Int) (i : Int) l = some (okStacks (l.drop i) (s.drop i)) := by
  induction d with
  | zero =>
    intro k i hi hk
    obtain ⟨k, rfl⟩ := succ_of hk
    unfold spec_skGood.l0
    rw [if_neg (by omega), List.drop_of_length_le (by omega), List.drop_of_length_le (by omega)]
    rfl
  | succ d ih =>
    intro k i hi hk
    obtain ⟨k, rfl⟩ := succ_of hk
    have hlt : i < s.length := by omega
    have hil : i < l.length := by omega
    have := h5 _ (List.getElem_mem hil)
    unfold spec_skGood.l0
    rw [if_pos (by omega), if_pos (by omega), if_pos (by omega), rdGD, rdGD, rdL_at s i hlt, rdL_at l i hil, okStacks_drop l s i hil hlt, okStack_eq]
    by_cases h12 : s[i].length ≤ 12
    · rw [if_neg (by omega), if_pos (by omega), wrap_id (by omega) (by omega), l1All_eq _ _ _ (by omega) k (by omega), decide_eq_true h12, Bool.true_and]
      simp only [Option.bind_some]
      cases hx : s[i].all fun x => inB x 0 ((l[i].length : Int) - 1) with
      | true => rw [if_pos rfl, wrap_up hlt (by omega), ih k (i + 1) (by omega) (by omega), Bool.true_and]
      | false => rw [if_neg (by decide), Bool.false_and]
    · rw [if_pos (by omega), decide_eq_false h12, Bool.false_and, Bool.false_and]
theorem skGood_eq (l : List (List Int)) (a : Int) (s : List (List Int)) (k : Nat) (hk : 100 ≤ k) : spec_skGood.f k l a s = some (stacksB l a s) := by
  obtain ⟨k, rfl⟩ := succ_of (show 0 < k by omega)
  unfold spec_skGood.f stacksB
  rw [grPlace_eq l a _ (by omega)]
  simp only [Option.bind_some]
  cases hp : placeB l a with
  | false => simp [spec_skGood.j0]
  | true =>
    obtain ⟨hg, h1, h8, ha0, hal⟩ := place_is hp
    obtain ⟨a, rfl⟩ := Int.eq_ofNat_of_zero_le ha0
    rw [if_pos rfl]
    by_cases hsl : s.length = l.length
    · have has : a < s.length := by omega
      rw [if_pos (by omega), if_pos ha0, if_pos (by omega), rdGD, rdL_at s a has, Int.toNat_natCast]
      rw [show s.getD a [] = s[a] by rw [List.getD_eq_getElem?_getD, List.getElem?_eq_getElem has]; rfl]
      simp only [spec_skGood.j0]
      by_cases hz : s[a].length = 0
      · have := skGood_loop l s h8 hsl (fun r hr => (graph_row hg hr).1) s.length k 0 (by omega) (by omega)
        rw [List.drop_zero, List.drop_zero] at this
        rw [show decide ((s[a].length : Int) > 0) = false from decide_eq_false (by omega), if_neg (by decide), show (0 : Int) = ((0 : Nat) : Int) from rfl, this]
        simp [hsl, hz]
      · rw [show decide ((s[a].length : Int) > 0) = true from decide_eq_true (by omega), if_pos rfl]
        simp [hz]
    · rw [if_neg (by omega)]
      simp [spec_skGood.j0, hsl]
end Go.Proofs.Ytnbnalbomflafaa.KA
