/-
  What the small functions on lists answer: sums, equal lists, marked and held lists. No memory here.
-/
import Derived.Test.YtmechelmnpoddaaA7
import Derived.Test.YtmechelmnpoddaaEs
namespace Go.Proofs.Ytmechelmnpoddaa.H7
open Go.RowKit Go.Proofs.YtmechelmnpoddaaW.PrintWords Go.Proofs.YtmechelmnpoddaaW.PrintLast
open Go.Proofs.Ytmechelmnpoddaa.A7
set_option linter.unusedVariables false

theorem wrap_id {x : Int} (h0 : -9223372036854775808 ≤ x) (h1 : x ≤ 9223372036854775807) : wrap64 x = x := by unfold wrap64; omega
theorem rd_at (l : List Int) (i : Nat) (h : i < l.length) : rd l (i : Int) = l[i] := by
  unfold rd
  rw [Int.toNat_natCast, List.getD_eq_getElem?_getD, List.getElem?_eq_getElem h]
  rfl

/-! ### Sums -/
def sumI : List Int → Int
  | [] => 0
  | x :: t => x + sumI t
def absI : List Int → Int
  | [] => 0
  | x :: t => (if x < 0 then -x else x) + absI t
theorem absI_nonneg (l : List Int) : 0 ≤ absI l := by
  induction l with
  | nil => simp [absI]
  | cons x t ih => simp only [absI]; split <;> omega
theorem sum_abs (l : List Int) : -absI l ≤ sumI l ∧ sumI l ≤ absI l := by
  induction l with
  | nil => simp [absI, sumI]
  | cons x t ih => simp only [absI, sumI]; split <;> omega
theorem drop_step (l : List Int) (i : Nat) (h : i < l.length) : l.drop i = l[i] :: l.drop (i + 1) := List.drop_eq_getElem_cons h
theorem sum_loop (l0 : Nat → Int → List Int → Int → Int → Option Int)
    (hl : ∀ k x3 x6 x7 x8, l0 (k + 1) x3 x6 x7 x8 = if x8 < x7 then (if 0 ≤ x8 then (if x8 < (x6.length : Int) then (l0 k (wrap64 (x3 + (rd x6 x8))) x6 x7 (wrap64 (x8 + 1))) else (none)) else (none)) else (some x3))
    (l : List Int) (hn : l.length ≤ 1000000000000) (d : Nat) : ∀ (k i : Nat) (a : Int), i + d = l.length → d < k → (0 ≤ a ∧ a + absI (l.drop i) ≤ 4611686018427387904 ∨ -4611686018427387904 ≤ a - absI (l.drop i) ∧ a + absI (l.drop i) ≤ 4611686018427387904) →
      l0 k a l (l.length : Int) (i : Int) = some (a + sumI (l.drop i)) := by
  induction d with
  | zero =>
    intro k i a hi hk hb
    obtain ⟨k, rfl⟩ : ∃ m, k = m + 1 := ⟨k - 1, by omega⟩
    rw [hl, if_neg (by omega), List.drop_of_length_le (by omega)]
    simp [sumI]
  | succ d ih =>
    intro k i a hi hk hb
    obtain ⟨k, rfl⟩ : ∃ m, k = m + 1 := ⟨k - 1, by omega⟩
    have hlt : i < l.length := by omega
    have hx : absI (l.drop i) = (if l[i] < 0 then -l[i] else l[i]) + absI (l.drop (i + 1)) := by rw [drop_step l i hlt]; rfl
    have hy : sumI (l.drop i) = l[i] + sumI (l.drop (i + 1)) := by rw [drop_step l i hlt]; rfl
    have h0 := absI_nonneg (l.drop (i + 1))
    rw [hl, if_pos (by omega), if_pos (by omega), if_pos (by omega), rd_at l i hlt]
    have e1 : wrap64 (a + l[i]) = a + l[i] := wrap_id (by split at hx <;> omega) (by split at hx <;> omega)
    have e2 : wrap64 ((i : Int) + 1) = ((i + 1 : Nat) : Int) := by rw [wrap_id (by omega) (by omega)]; omega
    rw [e1, e2, ih k (i + 1) (a + l[i]) (by omega) (by omega) (by right; split at hx <;> omega), hy, Int.add_assoc]
theorem chSum_eq (l : List Int) (hn : l.length ≤ 1000000000000) (hb : absI l ≤ 4611686018427387904) : spec_chSum.f (l.length + 1) l = some (sumI l) := by
  have h := sum_loop spec_chSum.l0 (fun _ _ _ _ _ => rfl) l hn l.length (l.length + 1) 0 0 (by omega) (by omega) (by left; simpa using hb)
  unfold spec_chSum.f
  simpa using h
theorem sum_eq (l : List Int) (hn : l.length ≤ 1000000000000) (hb : absI l ≤ 4611686018427387904) : impl_sum.f (l.length + 1) l = some (sumI l) := by
  have h := sum_loop impl_sum.l0 (fun _ _ _ _ _ => rfl) l hn l.length (l.length + 1) 0 0 (by omega) (by omega) (by left; simpa using hb)
  unfold impl_sum.f
  simpa using h

/-! ### Equal lists -/
theorem eqIntS_loop (l : List Int) (hn : l.length ≤ 1000000000000) (d : Nat) : ∀ (k i : Nat), i + d = l.length → d < k → laws_eqIntS.l0 k l l (i : Int) = some true := by
  induction d with
  | zero =>
    intro k i hi hk
    obtain ⟨k, rfl⟩ : ∃ m, k = m + 1 := ⟨k - 1, by omega⟩
    simp only [laws_eqIntS.l0]
    rw [if_neg (by omega)]
  | succ d ih =>
    intro k i hi hk
    obtain ⟨k, rfl⟩ : ∃ m, k = m + 1 := ⟨k - 1, by omega⟩
    simp only [laws_eqIntS.l0]
    have e2 : wrap64 ((i : Int) + 1) = ((i + 1 : Nat) : Int) := by rw [wrap_id (by omega) (by omega)]; omega
    rw [if_pos (by omega), if_pos (by omega), if_pos (by omega), if_pos trivial, e2]
    exact ih k (i + 1) (by omega) (by omega)
theorem eqIntS_refl (l : List Int) (hn : l.length ≤ 1000000000000) (k : Nat) (hk : l.length < k) : laws_eqIntS.f k l l = some true := by
  unfold laws_eqIntS.f
  rw [if_pos rfl]
  exact eqIntS_loop l hn l.length k 0 (by omega) hk

/-! ### Marked and held lists -/
def marks (n : Nat) (m : Int) : List Int := (List.range n).map fun (i : Nat) => m + (i : Int)
theorem markIntS_loop (n : Nat) (hn : n ≤ 1000000000000) (d : Nat) : ∀ (k i : Nat) (l : List Int), l.length = n → i + d = n → d < k → l.take i = marks i 1 →
    laws_markIntS.l0 k l (1 + (i : Int)) (i : Int) = some (1 + (n : Int), marks n 1) := by
  induction d with
  | zero =>
    intro k i l hl hi hk ht
    obtain ⟨k, rfl⟩ : ∃ m, k = m + 1 := ⟨k - 1, by omega⟩
    simp only [laws_markIntS.l0]
    obtain rfl : i = n := by omega
    rw [if_neg (by omega), ← ht, List.take_of_length_le (by omega)]
  | succ d ih =>
    intro k i l hl hi hk ht
    obtain ⟨k, rfl⟩ : ∃ m, k = m + 1 := ⟨k - 1, by omega⟩
    simp only [laws_markIntS.l0]
    have e1 : wrap64 (1 + (i : Int) + 1) = 1 + ((i + 1 : Nat) : Int) := by rw [wrap_id (by omega) (by omega)]; omega
    have e2 : wrap64 ((i : Int) + 1) = ((i + 1 : Nat) : Int) := by rw [wrap_id (by omega) (by omega)]; omega
    rw [if_pos (by omega), if_pos (by omega), e1, e2, Int.toNat_natCast]
    refine ih k (i + 1) _ (by simpa using hl) (by omega) (by omega) ?_
    have hlt : i < l.length := by omega
    rw [List.take_add_one, List.take_set_of_le (by omega), ht]
    simp [marks, List.range_succ, hlt]
theorem markIntS_eq (l : List Int) (hn : l.length ≤ 1000000000000) (k : Nat) (hk : l.length < k) : laws_markIntS.f k l 1 = some (1 + (l.length : Int), marks l.length 1) := by
  unfold laws_markIntS.f
  exact markIntS_loop l.length hn l.length k 0 l rfl (by omega) hk (by simp [marks])
theorem heldIntS_loop (n : Nat) (hn : n ≤ 1000000000000) (d : Nat) : ∀ (k i : Nat), i + d = n → d < k → laws_heldIntS.l0 k (marks n 1) (1 + (i : Int)) (i : Int) = some (1 + (n : Int)) := by
  have hl : (marks n 1).length = n := by simp [marks]
  induction d with
  | zero =>
    intro k i hi hk
    obtain ⟨k, rfl⟩ : ∃ m, k = m + 1 := ⟨k - 1, by omega⟩
    simp only [laws_heldIntS.l0]
    obtain rfl : i = n := by omega
    rw [if_neg (by omega)]
  | succ d ih =>
    intro k i hi hk
    obtain ⟨k, rfl⟩ : ∃ m, k = m + 1 := ⟨k - 1, by omega⟩
    simp only [laws_heldIntS.l0]
    have e1 : wrap64 (1 + (i : Int) + 1) = 1 + ((i + 1 : Nat) : Int) := by rw [wrap_id (by omega) (by omega)]; omega
    have e2 : wrap64 ((i : Int) + 1) = ((i + 1 : Nat) : Int) := by rw [wrap_id (by omega) (by omega)]; omega
    have e3 : rd (marks n 1) (i : Int) = 1 + (i : Int) := by rw [rd_at _ _ (by omega)]; simp [marks]
    rw [if_pos (by omega), if_pos (by omega), if_pos e3, e1, e2]
    exact ih k (i + 1) (by omega) (by omega)
theorem heldIntS_eq (n : Nat) (hn : n ≤ 1000000000000) (k : Nat) (hk : n < k) : laws_heldIntS.f k (marks n 1) 1 = some (1 + (n : Int)) := by
  unfold laws_heldIntS.f
  exact heldIntS_loop n hn n k 0 (by omega) hk
end Go.Proofs.Ytmechelmnpoddaa.H7
