/-
  What the laws' small functions on lists of strings answer: equal lists, marked and held lists. No memory here.
-/
import Derived.Test.YtjedhjeijpbobaaPe
namespace Go.Proofs.Ytjedhjeijpbobaa.G8
open Go.RowKit Go.Proofs.YtjedhjeijpbobaaW.PrintWords Go.Proofs.YtjedhjeijpbobaaW.PrintLast
open Go.Proofs.Ytjedhjeijpbobaa.GA
set_option linter.unusedVariables false
theorem eqStringS_loop (l : List ByteArray) (hn : l.length ≤ 1000000000000) (d : Nat) : ∀ (k i : Nat), i + d = l.length → d < k → laws_eqStringS.l0 k l l (i : Int) = some true := by
  induction d with
  | zero =>
    intro k i hi hk
    obtain ⟨k, rfl⟩ : ∃ m, k = m + 1 := ⟨k - 1, by omega⟩
    simp only [laws_eqStringS.l0]
    rw [if_neg (by omega)]
  | succ d ih =>
    intro k i hi hk
    obtain ⟨k, rfl⟩ : ∃ m, k = m + 1 := ⟨k - 1, by omega⟩
    simp only [laws_eqStringS.l0]
    have e2 : wrap64 ((i : Int) + 1) = ((i + 1 : Nat) : Int) := by rw [wrap_id (by omega) (by omega)]; omega
    rw [if_pos (by omega), if_pos (by omega), if_pos (by omega), if_pos trivial, e2]
    exact ih k (i + 1) (by omega) (by omega)
theorem eqStringS_refl (l : List ByteArray) (hn : l.length ≤ 1000000000000) (k : Nat) (hk : l.length < k) : laws_eqStringS.f k l l = some true := by
  unfold laws_eqStringS.f
  rw [if_pos rfl]
  exact eqStringS_loop l hn l.length k 0 (by omega) hk
/-! ### A number's mark -/
theorem text_l0 : ∀ (d : Nat) (x : Int) (s : ByteArray), 0 ≤ x → x < ((10 ^ d : Nat) : Int) → x ≤ 100000 → s.size + d ≤ 1000 → ∃ r, laws_markText.l0 (d + 1) x s = some r
  | 0, x, s, h0, h1, _, hs => by
    simp only [laws_markText.l0]
    rw [if_neg (by simp at h1; omega), if_pos (by omega)]
    exact ⟨_, rfl⟩
  | d + 1, x, s, h0, h1, h2, hs => by
    unfold laws_markText.l0
    by_cases hx : x > 0
    · rw [if_pos hx]
      simp only [Option.bind_some]
      have hz : (strOfNums [(wrap64 (48 + (Int.tmod x 10))) % 256]).size = 1 := by rw [strOfNums_size]; rfl
      rw [if_pos (by rw [hz]; omega)]
      have e : wrap64 (Int.tdiv x 10) = x / 10 := by
        rw [Int.tdiv_eq_ediv_of_nonneg h0]
        exact wrap_id (by omega) (by omega)
      rw [e]
      refine text_l0 d (x / 10) _ (by omega) ?_ (by omega) (by rw [ByteArray.size_append, hz]; omega)
      rw [Nat.pow_succ] at h1
      omega
    · rw [if_neg hx, if_pos (by omega)]
      exact ⟨_, rfl⟩
def txt (a : Int) : ByteArray := (laws_markText.f 20 a).getD ⟨#[]⟩
theorem text_f {a : Int} (h0 : 1 ≤ a) (h1 : a ≤ 999) (k : Nat) (hk : 20 ≤ k) : laws_markText.f k a = some (txt a) := by
  obtain ⟨r, hr⟩ := text_l0 3 a ⟨#[]⟩ (by omega) (by simp; omega) (by omega) (by decide)
  have h4 : laws_markText.f 4 a = some r := by
    unfold laws_markText.f
    rw [if_neg (by omega)]
    exact hr
  have h20 := at_rounds (laws_markText.mono a) (show 4 ≤ 20 by omega) h4
  have hkk := at_rounds (laws_markText.mono a) (show 4 ≤ k by omega) h4
  unfold txt
  rw [h20, hkk]
  rfl
/-! ### Marked and held lists -/
def smarks (n : Nat) : List ByteArray := (List.range n).map fun (i : Nat) => txt (1 + (i : Int))
theorem markStringS_loop (n : Nat) (hn : n ≤ 900) (d : Nat) : ∀ (k i : Nat) (l : List ByteArray), l.length = n → i + d = n → d + 20 < k → l.take i = smarks i →
    laws_markStringS.l0 k l (1 + (i : Int)) (i : Int) = some (1 + (n : Int), smarks n) := by
  induction d with
  | zero =>
    intro k i l hl hi hk ht
    obtain ⟨k, rfl⟩ : ∃ m, k = m + 1 := ⟨k - 1, by omega⟩
    simp only [laws_markStringS.l0]
    obtain rfl : i = n := by omega
    rw [if_neg (by omega), ← ht, List.take_of_length_le (by omega)]
  | succ d ih =>
    intro k i l hl hi hk ht
    obtain ⟨k, rfl⟩ : ∃ m, k = m + 1 := ⟨k - 1, by omega⟩
    simp only [laws_markStringS.l0]
    have e1 : wrap64 (1 + (i : Int) + 1) = 1 + ((i + 1 : Nat) : Int) := by rw [wrap_id (by omega) (by omega)]; omega
    have e2 : wrap64 ((i : Int) + 1) = ((i + 1 : Nat) : Int) := by rw [wrap_id (by omega) (by omega)]; omega
    rw [if_pos (by omega), text_f (by omega) (by omega) k (by omega), Option.bind_some, if_pos (by omega), e1, e2, Int.toNat_natCast]
    refine ih k (i + 1) _ (by simpa using hl) (by omega) (by omega) ?_
    have hlt : i < l.length := by omega
    rw [List.take_add_one, List.take_set_of_le (by omega), ht]
    simp [smarks, List.range_succ, hlt]
theorem markStringS_eq (l : List ByteArray) (hn : l.length ≤ 900) (k : Nat) (hk : l.length + 20 < k) : laws_markStringS.f k l 1 = some (1 + (l.length : Int), smarks l.length) := by
  unfold laws_markStringS.f
  exact markStringS_loop l.length hn l.length k 0 l rfl (by omega) hk (by simp [smarks])
theorem heldStringS_loop (n : Nat) (hn : n ≤ 900) (d : Nat) : ∀ (k i : Nat), i + d = n → d + 20 < k → laws_heldStringS.l0 k (smarks n) (1 + (i : Int)) (i : Int) = some (1 + (n : Int)) := by
  have hl : (smarks n).length = n := by simp [smarks]
  induction d with
  | zero =>
    intro k i hi hk
    obtain ⟨k, rfl⟩ : ∃ m, k = m + 1 := ⟨k - 1, by omega⟩
    simp only [laws_heldStringS.l0]
    obtain rfl : i = n := by omega
    rw [if_neg (by omega)]
  | succ d ih =>
    intro k i hi hk
    obtain ⟨k, rfl⟩ : ∃ m, k = m + 1 := ⟨k - 1, by omega⟩
    simp only [laws_heldStringS.l0]
    have e1 : wrap64 (1 + (i : Int) + 1) = 1 + ((i + 1 : Nat) : Int) := by rw [wrap_id (by omega) (by omega)]; omega
    have e2 : wrap64 ((i : Int) + 1) = ((i + 1 : Nat) : Int) := by rw [wrap_id (by omega) (by omega)]; omega
    have e3 : rdOf ByteArray.empty (smarks n) (i : Int) = txt (1 + (i : Int)) := by
      unfold rdOf
      rw [Int.toNat_natCast, List.getD_eq_getElem?_getD]
      simp [smarks, show i < n by omega]
    rw [if_pos (by omega), if_pos (by omega), text_f (by omega) (by omega) k (by omega), Option.bind_some, e3, if_pos rfl, e1, e2]
    exact ih k (i + 1) (by omega) (by omega)
theorem heldStringS_eq (n : Nat) (hn : n ≤ 900) (k : Nat) (hk : n + 20 < k) : laws_heldStringS.f k (smarks n) 1 = some (1 + (n : Int)) := by
  unfold laws_heldStringS.f
  exact heldStringS_loop n hn n k 0 (by omega) hk
end Go.Proofs.Ytjedhjeijpbobaa.G8
