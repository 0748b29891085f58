/-
  More of the reference's functions on branching trees, by contracts in the print's own form.
-/
import Derived.Test.YtmechelmnpoddaaHl
import Derived.Test.YtmechelmnpoddaaHp
namespace Go.Proofs.Ytmechelmnpoddaa.H7
open Go.RowKit Go.Proofs.YtmechelmnpoddaaW.PrintWords Go.Proofs.YtmechelmnpoddaaW.PrintLast Go.Proofs.YtmechelmnpoddaaW.PrintMore
open Go.Proofs.Ytmechelmnpoddaa.A7
open Es (nth)
set_option linter.unusedVariables false
set_option linter.unusedSimpArgs false

theorem run_steps (b inner : Nat) : ∀ (k a l st : Nat) (rot vis : List Nat) e s R V, st ≤ 100000 → Es.run b inner k a l st rot vis = some (e, s, R, V) → s ≤ 100000
  | 0, _, _, _, _, _, _, _, _, _, _, h => by simp [Es.run] at h
  | k + 1, a, l, st, rot, vis, e, s, R, V, h0, h => by
    unfold Es.run at h
    split at h
    · split at h
      · rename_i hs
        split at h
        · split at h
          · exact run_steps b inner k _ _ _ _ _ _ _ _ _ (by omega) h
          · cases h
        · split at h
          · split at h
            · simp only [Option.some.injEq, Prod.mk.injEq] at h
              omega
            · cases h
          · split at h
            · exact run_steps b inner k _ _ _ _ _ _ _ _ _ (by omega) h
            · cases h
      · cases h
    · simp only [Option.some.injEq, Prod.mk.injEq] at h
      omega
theorem chips_small (b inner : Nat) : ∀ (n : Nat) (s S : Es.St), Es.chips b inner n s = some S → (∀ x ∈ s.ends, x ≤ 1) → (∀ x ∈ s.trips, x ≤ 100000) → (∀ x ∈ S.ends, x ≤ 1) ∧ (∀ x ∈ S.trips, x ≤ 100000)
  | 0, s, S, h, h1, h2 => by
    simp only [Es.chips, Option.some.injEq] at h
    subst h
    exact ⟨h1, h2⟩
  | n + 1, s, S, h, h1, h2 => by
    unfold Es.chips at h
    split at h
    · cases h
    · rename_i e st rot vis hc
      refine chips_small b inner n _ _ h ?_ ?_
      · intro x hx
        rw [List.mem_append] at hx
        rcases hx with hx | hx
        · exact h1 x hx
        · simp only [List.mem_singleton] at hx
          subst hx
          cases e <;> decide
      · intro x hx
        rw [List.mem_append] at hx
        rcases hx with hx | hx
        · exact h2 x hx
        · simp only [List.mem_singleton] at hx
          subst hx
          unfold Es.chip at hc
          split at hc
          · exact run_steps _ _ _ _ _ _ _ _ _ _ _ _ (by omega) hc
          · cases hc
theorem out_small {b d k n : Int} (h : asked b d k n = true) : (∀ x ∈ (outS b d k n).ends, x ≤ 1) ∧ (∀ x ∈ (outS b d k n).trips, x ≤ 100000) := by
  obtain ⟨b1, d1, k1, n1, N, p, rfl, rfl, rfl, rfl, ht, hk, hn, hT, hc⟩ := asked_tree h
  exact chips_small _ _ _ _ _ hc (by simp [Es.start]) (by simp [Es.start])
theorem absI_small (B : Nat) : ∀ (l : List Nat), (∀ x ∈ l, x ≤ B) → absI (ints l) ≤ (l.length * B : Nat)
  | [], _ => by simp [ints, absI]
  | x :: t, h => by
    have h1 := absI_small B t (fun y hy => h y (List.mem_cons_of_mem _ hy))
    have h2 := h x List.mem_cons_self
    rw [show ints (x :: t) = (x : Int) :: ints t from rfl]
    simp only [absI, List.length_cons]
    rw [if_neg (by omega), Nat.succ_mul]
    omega
theorem ends_abs {b d k n : Int} (h : asked b d k n = true) : absI (ints (outS b d k n).ends) ≤ 200 := by
  have h1 := absI_small 1 _ (out_small h).1
  have h2 := (out_len h).1
  omega
theorem ints_len (l : List Nat) : (ints l).length = l.length := by simp [ints]

def sumE (a0 a1 a2 a3 : Int) : Int := sumI (ints (outS a0 a1 a2 a3).ends)
def spec_EscapesOf.f (a0 a1 a2 a3 : Int) : Option (Int × Bool) := some (if asked a0 a1 a2 a3 = true then sumE a0 a1 a2 a3 else 0, asked a0 a1 a2 a3)
set_option maxHeartbeats 4000000 in
set_option maxRecDepth 100000 in
theorem spec_EscapesOf.walk (a0 a1 a2 a3 : Int) (w : World) : Calls Try.prog 24 #[.int .i64 a0, .int .i64 a1, .int .i64 a2, .int .i64 a3] w fun e w' => e = .returned (.tuple #[.int .i64 (if asked a0 a1 a2 a3 = true then sumE a0 a1 a2 a3 else 0), .bool (asked a0 a1 a2 a3)]) ∧ Below w.heap.size w w' := by
  have HA := Aside0.mk (asked_eq a0 a1 a2 a3)
  cases hq : asked a0 a1 a2 a3 with
  | false =>
    rw [hq] at HA
    rw [if_neg (by decide)]
    clear hq
    go_enter Try.func24, Try.ntmps24
    go_wp2_with (go_at_call 61; (with_reducible refine (spec_esAsked.calls 30 a0 a1 a2 a3 false _ HA.out).mono ?_); rintro e w' ⟨rfl, ⟨nd, rfl⟩⟩)
    go_ret2
    exact ⟨rfl, pw_below_drewN (Below.refl _ _) _⟩
  | true =>
    have HB := fun W => go_asked a0 a1 a2 a3 W hq
    have HB := Aside0.mk HB
    have HS := chSum_eq (ints (outS a0 a1 a2 a3).ends) (by have := (out_len hq).1; rw [ints_len]; omega) (by have := ends_abs hq; omega)
    have HS := Aside0.mk HS
    rw [hq] at HA
    rw [if_pos rfl]
    clear hq
    go_enter Try.func24, Try.ntmps24
    go_wp2_with (first | (go_at_call 61; (with_reducible refine (spec_esAsked.calls 30 a0 a1 a2 a3 true _ HA.out).mono ?_); rintro e w' ⟨rfl, ⟨nd, rfl⟩⟩) | (go_at_call 63; obtain ⟨b1, d1, hc⟩ := HB.out (w.drewN nd); refine hc.mono ?_; rintro e w1 ⟨g, vr, ve, vt, vv, rfl, hB, hF⟩; obtain ⟨A, cA, rfl, hle, hC⟩ := Kd.R_reads (own_R hF.e); have HF := Aside0.mk hF; have HC := Aside0.mk hC; have HL := Aside0.mk ((pw_below_drewN (Below.refl w.heap.size w) nd).trans hB); clear hB hF hC; have c := blk_cell HF.out.blk 4; simp at c) | (go_at_call 62; (with_reducible refine (spec_chSum.calls _ A cA _ _ _ HC.out hle HS.out).mono ?_); rintro e w' ⟨rfl, ⟨nd2, rfl⟩⟩))
    go_ret2
    exact ⟨rfl, pw_below_drewN HL.out _⟩
theorem spec_EscapesOf.calls (a0 a1 a2 a3 r1 : Int) (r2 : Bool) (w : World) (h : spec_EscapesOf.f a0 a1 a2 a3 = some (r1, r2)) :
    Calls Try.prog 24 #[.int .i64 a0, .int .i64 a1, .int .i64 a2, .int .i64 a3] w fun e w' => e = .returned (.tuple #[.int .i64 r1, .bool r2]) ∧ Below w.heap.size w w' := by
  have e := Option.some.inj h
  injection e with e1 e2
  subst e1 e2
  exact spec_EscapesOf.walk a0 a1 a2 a3 w
end Go.Proofs.Ytmechelmnpoddaa.H7
