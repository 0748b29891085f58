/-
  The program's number of escapes, its chance in lowest terms; both sides of EscapeGap alike.
-/
import Derived.Test.YtmechelmnpoddaaHn
import Derived.Test.YtmechelmnpoddaaE72
namespace Go.Proofs.Ytmechelmnpoddaa.H7
open Go.RowKit Go.Proofs.YtmechelmnpoddaaW.PrintWords Go.Proofs.YtmechelmnpoddaaW.PrintLast Go.Proofs.YtmechelmnpoddaaW.PrintMore
open Go.Proofs.Ytmechelmnpoddaa.A7 Go.Proofs.Ytmechelmnpoddaa.E7
set_option linter.unusedVariables false
set_option linter.unusedSimpArgs false

theorem impl_escapes (a0 a1 a2 a3 : Int) (k : Nat) (hk : 201 ≤ k) : impl_EscapesOf.f k a0 a1 a2 a3 = some (if asked a0 a1 a2 a3 = true then sumE a0 a1 a2 a3 else 0, asked a0 a1 a2 a3) := by
  obtain ⟨X, hX⟩ : ∃ X, X = (if asked a0 a1 a2 a3 = true then ints (outS a0 a1 a2 a3).ends else []) := ⟨_, rfl⟩
  have hlen : X.length ≤ 200 := by rw [hX]; exact list_len a0 a1 a2 a3 (fun s => s.ends) (fun s => by exact .inl rfl)
  have habs : absI X ≤ 4611686018427387904 := by
    rw [hX]
    split
    · rename_i h; have := ends_abs h; omega
    · decide
  have hr : sumI X = (if asked a0 a1 a2 a3 = true then sumE a0 a1 a2 a3 else 0) := by
    rw [hX]
    split <;> rfl
  have hs := sum_eq X (by omega) habs
  refine at_rounds (g := fun k => impl_EscapesOf.f k a0 a1 a2 a3) (fun k => impl_EscapesOf.mono _ _ _ _ k) (k := X.length + 1) (by omega) ?_
  show impl_EscapesOf.f _ a0 a1 a2 a3 = _
  unfold impl_EscapesOf.f impl_EscapeList.f
  rw [← hX, ← hr]
  simp only [Option.bind_some]
  rw [hs]
  simp
theorem chance_is (b d : Nat) (h : (b, d) ∈ Es.trees) : ∃ g c1 c2 p : Nat, spec_esPower.f 30 (b : Int) (d : Int) = some (p : Int) ∧ wrap64 (wrap64 ((b : Int) * (p : Int)) - 1) = ((g * c2 : Nat) : Int) ∧ wrap64 (wrap64 ((b : Int) - 1) * (p : Int)) = ((g * c1 : Nat) : Int) ∧
    impl_escapeChance.f 1000 (b : Int) (d : Int) = some ((c1 : Int), (c2 : Int)) ∧ 0 < g ∧ 0 < c2 ∧ g * c1 ≤ 500 ∧ g * c2 ≤ 500 := by
  simp only [Es.trees, List.mem_cons, Prod.mk.injEq, List.mem_nil_iff, or_false] at h
  rcases h with ⟨rfl, rfl⟩ | ⟨rfl, rfl⟩ | ⟨rfl, rfl⟩ | ⟨rfl, rfl⟩ | ⟨rfl, rfl⟩ | ⟨rfl, rfl⟩ | ⟨rfl, rfl⟩ | ⟨rfl, rfl⟩ | ⟨rfl, rfl⟩ | ⟨rfl, rfl⟩
  · exact ⟨1, 2, 3, 2, by decide +kernel, by decide +kernel, by decide +kernel, by decide +kernel, by decide, by decide, by decide, by decide⟩
  · exact ⟨1, 4, 7, 4, by decide +kernel, by decide +kernel, by decide +kernel, by decide +kernel, by decide, by decide, by decide, by decide⟩
  · exact ⟨1, 8, 15, 8, by decide +kernel, by decide +kernel, by decide +kernel, by decide +kernel, by decide, by decide, by decide, by decide⟩
  · exact ⟨1, 16, 31, 16, by decide +kernel, by decide +kernel, by decide +kernel, by decide +kernel, by decide, by decide, by decide, by decide⟩
  · exact ⟨1, 32, 63, 32, by decide +kernel, by decide +kernel, by decide +kernel, by decide +kernel, by decide, by decide, by decide, by decide⟩
  · exact ⟨1, 64, 127, 64, by decide +kernel, by decide +kernel, by decide +kernel, by decide +kernel, by decide, by decide, by decide, by decide⟩
  · exact ⟨2, 3, 4, 3, by decide +kernel, by decide +kernel, by decide +kernel, by decide +kernel, by decide, by decide, by decide, by decide⟩
  · exact ⟨2, 9, 13, 9, by decide +kernel, by decide +kernel, by decide +kernel, by decide +kernel, by decide, by decide, by decide, by decide⟩
  · exact ⟨2, 27, 40, 27, by decide +kernel, by decide +kernel, by decide +kernel, by decide +kernel, by decide, by decide, by decide, by decide⟩
  · exact ⟨2, 81, 121, 81, by decide +kernel, by decide +kernel, by decide +kernel, by decide +kernel, by decide, by decide, by decide, by decide⟩
theorem gap_lift (E n : Int) (g c1 c2 : Nat) (b d : Int) (hg : 0 < g) (h2 : 0 < c2) (e0 : -200 ≤ E) (e1 : E ≤ 200) (n0 : 0 ≤ n) (n1 : n ≤ 200) (b1 : g * c1 ≤ 500) (b2 : g * c2 ≤ 500) (hc : ∀ k, 1000 ≤ k → impl_escapeChance.f k b d = some ((c1 : Int), (c2 : Int))) :
    ∃ u v, ∀ k, 1100 ≤ k → ((spec_hiRatio.f k (absW (wrap64 (wrap64 (E * ((g * c2 : Nat) : Int)) - wrap64 (n * ((g * c1 : Nat) : Int))))) ((g * c2 : Nat) : Int)).bind fun r => some (r.1, r.2, true)) = some (u, v, true) ∧
      ((impl_escapeChance.f k b d).bind fun bt145 => ((impl_size.f (wrap64 ((wrap64 (E * bt145.2)) - (wrap64 (n * bt145.1))))).bind fun t148 => ((impl_ratio.f k t148 bt145.2).bind fun bt149 => (some (bt149.1, bt149.2, true))))) = some (u, v, true) := by
  obtain ⟨u, v, hb⟩ := gap_both E n g c1 c2 hg h2 e0 e1 n0 n1 b1 b2
  refine ⟨u, v, fun k hk => ⟨?_, ?_⟩⟩
  · rw [(hb k hk).1]; rfl
  · rw [hc k (by omega)]
    simp only [Option.bind_some]
    have h := (hb k hk).2
    obtain ⟨t, ht, h⟩ := Option.bind_eq_some_iff.1 h
    rw [ht]
    simp only [Option.bind_some]
    rw [h]; rfl
theorem chance_all {b d : Int} {c1 c2 : Nat} (h : impl_escapeChance.f 1000 b d = some ((c1 : Int), (c2 : Int))) : ∀ k, 1000 ≤ k → impl_escapeChance.f k b d = some ((c1 : Int), (c2 : Int)) :=
  fun k hk => at_rounds (g := fun k => impl_escapeChance.f k b d) (fun k => impl_escapeChance.mono _ _ k) hk h
theorem sumE_small {a0 a1 a2 a3 : Int} (hq : asked a0 a1 a2 a3 = true) : -200 ≤ sumE a0 a1 a2 a3 ∧ sumE a0 a1 a2 a3 ≤ 200 := by
  have he := ends_abs hq
  have hs := sum_abs (ints (outS a0 a1 a2 a3).ends)
  unfold sumE
  omega
theorem both_asked (a0 a1 a2 a3 : Int) (hq : asked a0 a1 a2 a3 = true) : ∃ u v, ∀ k, 1100 ≤ k → spec_EscapeGap.f k a0 a1 a2 a3 = some (u, v, true) ∧ impl_EscapeGap.f k a0 a1 a2 a3 = some (u, v, true) := by
  obtain ⟨hs0, hs1⟩ := sumE_small hq
  have hi := fun k hk => impl_escapes a0 a1 a2 a3 k hk
  rw [hq, if_pos rfl] at hi
  have hn : 0 ≤ a3 ∧ a3 ≤ 200 := by have h' : branch a0 a1 ∧ (0 : Int) ≤ a2 ∧ a2 ≤ a0 ∧ 0 ≤ a3 ∧ a3 ≤ 200 := (by simpa [asked] using hq); exact h'.2.2.2
  obtain ⟨g, c1, c2, p, hp, hd, hnu, hc, hg, h2, b1, b2⟩ : ∃ g c1 c2 p : Nat, spec_esPower.f 30 a0 a1 = some (p : Int) ∧ wrap64 (wrap64 (a0 * (p : Int)) - 1) = ((g * c2 : Nat) : Int) ∧ wrap64 (wrap64 (a0 - 1) * (p : Int)) = ((g * c1 : Nat) : Int) ∧
    impl_escapeChance.f 1000 a0 a1 = some ((c1 : Int), (c2 : Int)) ∧ 0 < g ∧ 0 < c2 ∧ g * c1 ≤ 500 ∧ g * c2 ≤ 500 := by
    obtain ⟨b, d, k1, n, N, p0, rfl, rfl, rfl, rfl, ht, _⟩ := asked_tree hq
    exact chance_is b d ht
  unfold spec_EscapeGap.f impl_EscapeGap.f gapNum
  rw [hq, hp]
  generalize sumE a0 a1 a2 a3 = E at *
  obtain ⟨u, v, hb⟩ := gap_lift E a3 g c1 c2 a0 a1 hg h2 hs0 hs1 hn.1 hn.2 b1 b2 (chance_all hc)
  refine ⟨u, v, fun k hk => ⟨?_, ?_⟩⟩
  · rw [if_pos rfl, Option.bind_some, hd, hnu]
    exact (hb k hk).1
  · rw [hi k (by omega), Option.bind_some, if_pos rfl]
    exact (hb k hk).2
theorem both_gaps (a0 a1 a2 a3 : Int) : ∃ u v, ∀ k, 1100 ≤ k → spec_EscapeGap.f k a0 a1 a2 a3 = some (u, v, asked a0 a1 a2 a3) ∧ impl_EscapeGap.f k a0 a1 a2 a3 = some (u, v, asked a0 a1 a2 a3) := by
  cases hq : asked a0 a1 a2 a3 with
  | true => exact both_asked a0 a1 a2 a3 hq
  | false =>
    refine ⟨0, 0, fun k hk => ⟨?_, ?_⟩⟩
    · unfold spec_EscapeGap.f
      rw [hq, if_neg (by decide)]
    · unfold impl_EscapeGap.f
      rw [impl_escapes a0 a1 a2 a3 k (by omega), hq]
      simp

/-! ### TurnedEscapes of the program -/
theorem turned_take (a0 a1 a2 : Int) (i : Nat) (hi : i < a0.toNat + 1) : (turnedL a0 a1 a2).take (i + 1) = (turnedL a0 a1 a2).take i ++ [sumE a0 a1 (i : Int) a2] := by
  rw [List.take_succ_eq_append_getElem (by simp [turnedL]; omega)]
  simp [turnedL]
theorem turned_loop (b : Nat) (d n : Int) (hb : b ≤ 3) (hq : asked (b : Int) d 0 n = true) : ∀ (m i k : Nat), i + m = b + 1 → 300 + m ≤ k →
    impl_TurnedEscapes.l0 k (b : Int) d n ((turnedL (b : Int) d n).take i) ((b : Int) + 1) (i : Int) = some (turnedL (b : Int) d n, true) := by
  intro m
  induction m with
  | zero =>
    intro i k hi hk
    obtain ⟨k, rfl⟩ := succ_of (show 0 < k by omega)
    simp only [impl_TurnedEscapes.l0]
    rw [if_neg (by omega), List.take_of_length_le (by simp [turnedL]; omega)]
  | succ m ih =>
    intro i k hi hk
    obtain ⟨k, rfl⟩ := succ_of (show 0 < k by omega)
    simp only [impl_TurnedEscapes.l0]
    have ha := asked_turn hq (show (0 : Int) ≤ (i : Int) by omega) (by omega)
    have hw : wrap64 ((i : Int) + 1) = ((i + 1 : Nat) : Int) := by rw [wrap_id (by omega) (by omega)]; omega
    rw [if_pos (by omega), impl_escapes _ _ _ _ _ (by omega), ha, Option.bind_some, if_pos (by rw [List.length_take]; omega), hw, if_pos rfl, ← turned_take (b : Int) d n i (by omega)]
    exact ih (i + 1) k (by omega) (by omega)
theorem branching_eq (a0 a1 : Int) (k : Nat) (hk : 30 ≤ k) : impl_isBranching.f k a0 a1 = some (decide (branch a0 a1)) := by
  obtain ⟨N, _, _, h⟩ := nodes_of a0 a1
  exact at_rounds (g := fun k => impl_isBranching.f k a0 a1) (fun k => impl_isBranching.mono _ _ k) hk h
theorem turned_impl (a0 a1 a2 : Int) : ∀ k, 1000 ≤ k → impl_TurnedEscapes.f k a0 a1 a2 = some (if asked a0 a1 0 a2 = true then turnedL a0 a1 a2 else [], asked a0 a1 0 a2) := by
  intro k hk
  obtain ⟨k, rfl⟩ := succ_of (show 0 < k by omega)
  unfold impl_TurnedEscapes.f
  rw [branching_eq a0 a1 _ (by omega), Option.bind_some]
  by_cases hb : branch a0 a1
  · rw [if_pos (decide_eq_true hb), (in_eq a2 0 200).2, Option.bind_some]
    simp only [impl_TurnedEscapes.j0]
    have hb0 : 0 ≤ a0 ∧ a0 ≤ 3 := by unfold branch at hb; omega
    by_cases hn : 0 ≤ a2 ∧ a2 ≤ 200
    · have hq : asked a0 a1 0 a2 = true := by simp only [asked, decide_eq_true_eq]; exact ⟨hb, by omega, by omega, hn⟩
      obtain ⟨b, rfl⟩ := Int.eq_ofNat_of_zero_le hb0.1
      rw [decide_eq_true hn, if_neg (by decide), hq, if_pos rfl, wrap_id (by omega) (by omega)]
      exact turned_loop b a1 a2 (by omega) hq (b + 1) 0 k (by omega) (by omega)
    · have hq : asked a0 a1 0 a2 = false := by simp only [asked, decide_eq_false_iff_not]; exact fun h => hn h.2.2.2
      rw [decide_eq_false hn, if_pos (by decide), hq, if_neg (by decide)]
  · have hq : asked a0 a1 0 a2 = false := by simp only [asked, decide_eq_false_iff_not]; exact fun h => hb h.1
    rw [if_neg (by simpa using hb), hq, if_neg (by decide)]
    simp only [impl_TurnedEscapes.j0]
    rw [if_pos trivial]
theorem turned_len (a0 a1 a2 : Int) (h : asked a0 a1 0 a2 = true) : (turnedL a0 a1 a2).length ≤ 200 := by
  have h' : branch a0 a1 ∧ (0 : Int) ≤ 0 ∧ 0 ≤ a0 ∧ 0 ≤ a2 ∧ a2 ≤ 200 := by simpa [asked] using h
  have hb := h'.1
  unfold branch at hb
  simp [turnedL]
  omega
end Go.Proofs.Ytmechelmnpoddaa.H7
