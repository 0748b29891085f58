/-
  Lengths of what the chips leave.
-/
import Derived.Test.YtmechelmnpoddaaHe
namespace Go.Proofs.Ytmechelmnpoddaa.H7
open Es (nth)
theorem run_len (b inner : Nat) : ∀ (k a l st : Nat) (rot vis : List Nat) e s R V, Es.run b inner k a l st rot vis = some (e, s, R, V) → R.length = rot.length ∧ V.length = vis.length
  | 0, _, _, _, _, _, _, _, _, _, h => by simp [Es.run] at h
  | k + 1, a, l, st, rot, vis, e, s, R, V, h => by
    unfold Es.run at h
    split at h
    · split at h
      · split at h
        · split at h
          · have := run_len b inner k _ _ _ _ _ _ _ _ _ h
            simpa using this
          · cases h
        · split at h
          · split at h
            · simp only [Option.some.injEq, Prod.mk.injEq] at h
              obtain ⟨_, _, h1, h2⟩ := h
              subst h1 h2
              simp
            · cases h
          · split at h
            · have := run_len b inner k _ _ _ _ _ _ _ _ _ h
              simpa using this
            · cases h
      · cases h
    · simp only [Option.some.injEq, Prod.mk.injEq] at h
      obtain ⟨_, _, h1, h2⟩ := h
      subst h1 h2
      simp
theorem chips_len (b inner : Nat) : ∀ (n : Nat) (s S : Es.St), Es.chips b inner n s = some S → S.ends.length = s.ends.length + n ∧ S.trips.length = s.trips.length + n ∧ S.rot.length = s.rot.length ∧ S.vis.length = s.vis.length
  | 0, s, S, h => by
    simp only [Es.chips, Option.some.injEq] at h
    subst h
    simp
  | n + 1, s, S, h => by
    unfold Es.chips at h
    split at h
    · cases h
    · rename_i e st rot vis hc
      have h1 := chips_len b inner n _ _ h
      unfold Es.chip at hc
      split at hc
      · have h2 := run_len _ _ _ _ _ _ _ _ _ _ _ _ hc
        simp at h1 h2
        omega
      · cases hc
theorem out_len {b d k n : Int} (h : asked b d k n = true) : (outS b d k n).ends.length ≤ 200 ∧ (outS b d k n).trips.length ≤ 200 ∧ (outS b d k n).rot.length ≤ 130 ∧ (outS b d k n).vis.length ≤ 7 := by
  obtain ⟨b1, d1, k1, n1, N, p, rfl, rfl, rfl, rfl, ht, hk, hn, hT, hc⟩ := asked_tree h
  have h1 := chips_len _ _ _ _ _ hc
  have := hT.few
  have := hT.sum
  have := hT.d6
  simp [Es.start] at h1
  omega
theorem list_len (b d k n : Int) (g : Es.St → List Nat) (hg : ∀ s : Es.St, (g s).length = s.ends.length ∨ (g s).length = s.trips.length ∨ (g s).length = s.rot.length ∨ (g s).length = s.vis.length) :
    (if asked b d k n = true then ints (g (outS b d k n)) else []).length ≤ 200 := by
  by_cases h : asked b d k n = true
  · rw [if_pos h]
    have := out_len h
    have := hg (outS b d k n)
    simp only [ints, List.length_map]
    omega
  · rw [if_neg h]
    simp
end Go.Proofs.Ytmechelmnpoddaa.H7
