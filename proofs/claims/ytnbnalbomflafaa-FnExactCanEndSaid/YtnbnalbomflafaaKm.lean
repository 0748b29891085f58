/-
  Whether two places are goals: the program's answer is the reference's. Plain lists: no memory here.
-/
import Derived.Test.YtnbnalbomflafaaKl
namespace Go.Proofs.Ytnbnalbomflafaa.KA
open Go.RowKit Go.Proofs.YtnbnalbomflafaaW.PrintWords Go.Proofs.YtnbnalbomflafaaW.PrintLast
open Go.Proofs.Ytnbnalbomflafaa.GA Go.Proofs.Ytnbnalbomflafaa.GB Go.Proofs.Ytnbnalbomflafaa.HB
set_option linter.unusedVariables false
set_option linter.unusedSimpArgs false
section
variable {l : List (List Int)} (hg : isGraphB l = true) (a b : Nat) (ha : a < l.length) (hb : b < l.length)
include hg ha hb
theorem can_loop (d : Nat) : ∀ i : Nat, i + d = l.length → ∃ u, ∀ k, d + 250 ≤ k → spec_hiCan.l0 k (a : Int) (b : Int) l (l.length : Int) (i : Int) l = some u ∧ impl_canEnd.l0 k (a : Int) (b : Int) l (l.length : Int) (i : Int) l = some u := by
  have hn := (graph_len hg).2
  induction d with
  | zero =>
    intro i hi
    refine ⟨true, fun k hk => ?_⟩
    obtain ⟨k, rfl⟩ := succ_of (show 0 < k by omega)
    simp only [spec_hiCan.l0, impl_canEnd.l0]
    rw [if_neg (by omega), if_neg (by omega)]
    exact ⟨rfl, rfl⟩
  | succ d ih =>
    intro i hi
    have hlt : i < l.length := by omega
    obtain ⟨X, hX, hf⟩ := both_far hg i hlt
    obtain ⟨u, hu⟩ := ih (i + 1) (by omega)
    obtain ⟨t, ht⟩ : ∃ t : Bool, t = (if rd X (a : Int) < 0 then (if rd X (b : Int) < 0 then false else (if (i : Int) = (a : Int) then u else if (i : Int) = (b : Int) then u else if ((l[i]).length : Int) = 0 then false else u)) else (if (i : Int) = (a : Int) then u else if (i : Int) = (b : Int) then u else if ((l[i]).length : Int) = 0 then false else u)) := ⟨_, rfl⟩
    refine ⟨t, fun k hk => ?_⟩
    obtain ⟨k, rfl⟩ := succ_of (show 0 < k by omega)
    have h1 := hf k (by omega)
    have h2 := hu k (by omega)
    refine ⟨?_, ?_⟩
    · simp only [spec_hiCan.l0]
      rw [if_pos (by omega), if_pos (by omega), if_pos (by omega), h1.2]
      simp only [Option.bind_some]
      rw [rdGB, rdL_at l i hlt, wrap_up hlt (by omega), h2.1, if_pos (show 0 ≤ (a : Int) by omega), if_pos (show (a : Int) < X.length by omega), if_pos (show 0 ≤ (b : Int) by omega), if_pos (show (b : Int) < X.length by omega), ht]
      (repeat' split) <;> rfl
    · simp only [impl_canEnd.l0]
      rw [if_pos (by omega), if_pos (by omega), if_pos (by omega), h1.1]
      simp only [Option.bind_some]
      rw [rdHB, rdL_at l i hlt, wrap_up hlt (by omega), h2.2, if_pos (show 0 ≤ (a : Int) by omega), if_pos (show (a : Int) < X.length by omega), if_pos (show 0 ≤ (b : Int) by omega), if_pos (show (b : Int) < X.length by omega), ht]
      (repeat' split) <;> rfl
end
theorem goals_eq (l : List (List Int)) (a b : Int) (k : Nat) (hk : 20 ≤ k) : spec_hiGoals.f k l a b = some (placeB l a && placeB l b && (a != b)) := by
  unfold spec_hiGoals.f
  rw [grPlace_eq l a k hk, grPlace_eq l b k hk]
  cases placeB l a <;> cases placeB l b <;> simp
/-- Whether walks end at two places: one answer of both sides, where these are different places of a graph. -/
theorem can_both (l : List (List Int)) (a b : Int) (h : (placeB l a && placeB l b && (a != b)) = true) : ∃ u, ∀ k, 300 ≤ k → spec_hiCan.f k l a b = some u ∧ impl_canEnd.f k l a b = some u := by
  simp only [Bool.and_eq_true, bne_iff_ne] at h
  obtain ⟨⟨h1, h2⟩, h3⟩ := h
  obtain ⟨hg, _, h8, ha0, ha⟩ := place_is h1
  obtain ⟨_, _, _, hb0, hb⟩ := place_is h2
  obtain ⟨a, rfl⟩ := Int.eq_ofNat_of_zero_le ha0
  obtain ⟨b, rfl⟩ := Int.eq_ofNat_of_zero_le hb0
  obtain ⟨u, hu⟩ := can_loop hg a b (by omega) (by omega) l.length 0 (by omega)
  refine ⟨u, fun k hk => ⟨?_, ?_⟩⟩
  · exact (hu k (by omega)).1
  · unfold impl_canEnd.f impl_has.f
    rw [hasB_two, h1, h2]
    simp only [Option.bind_some, Bool.and_self, if_true]
    obtain ⟨k, rfl⟩ := succ_of (show 0 < k by omega)
    simp only [impl_canEnd.j0]
    rw [if_neg (by simpa using h3)]
    exact (hu k (by omega)).2
theorem can_none (l : List (List Int)) (a b : Int) (h : (placeB l a && placeB l b && (a != b)) = false) (k : Nat) (hk : 300 ≤ k) : impl_canEnd.f k l a b = some false := by
  obtain ⟨k, rfl⟩ := succ_of (show 0 < k by omega)
  unfold impl_canEnd.f impl_has.f
  rw [hasB_two]
  simp only [Option.bind_some]
  cases hp : placeB l a && placeB l b with
  | false => simp [impl_canEnd.j0]
  | true =>
    rw [hp, Bool.true_and] at h
    have e : (a == b) = true := by simpa using h
    rw [if_pos rfl, e]
    simp [impl_canEnd.j0]
theorem canEnd_both (l : List (List Int)) (a b : Int) : ∃ u v, ∀ k, 400 ≤ k → spec_CanEnd.f k l a b = some (u, v) ∧ impl_CanEnd.f k l a b = some (u, v) := by
  cases h : placeB l a && placeB l b && (a != b) with
  | true =>
    obtain ⟨u, hu⟩ := can_both l a b h
    refine ⟨u, true, fun k hk => ⟨?_, ?_⟩⟩
    · unfold spec_CanEnd.f
      rw [goals_eq l a b k (by omega), h]
      simp only [Option.bind_some, if_true]
      rw [(hu k (by omega)).1]
      rfl
    · simp only [Bool.and_eq_true, bne_iff_ne] at h
      unfold impl_CanEnd.f impl_has.f
      rw [hasB_two, h.1.1, h.1.2]
      simp only [Option.bind_some, Bool.and_self, if_true]
      rw [if_neg h.2, (hu k (by omega)).2]
      rfl
  | false =>
    refine ⟨false, false, fun k hk => ⟨?_, ?_⟩⟩
    · unfold spec_CanEnd.f
      rw [goals_eq l a b k (by omega), h]
      rfl
    · unfold impl_CanEnd.f impl_has.f
      rw [hasB_two]
      cases hp : placeB l a && placeB l b with
      | false => rfl
      | true =>
        rw [hp, Bool.true_and] at h
        have e : a = b := by simpa using h
        simp only [Option.bind_some, if_true]
        rw [if_pos e]
end Go.Proofs.Ytnbnalbomflafaa.KA
