/-
  AreAsBefore and LongestTrip of both sides, by contracts in the print's own form.
-/
import Derived.Test.YtmechelmnpoddaaHg
namespace Go.Proofs.Ytmechelmnpoddaa.H7
open Go.RowKit Go.Proofs.YtmechelmnpoddaaW.PrintWords Go.Proofs.YtmechelmnpoddaaW.PrintLast Go.Proofs.YtmechelmnpoddaaW.PrintMore
open Go.Proofs.Ytmechelmnpoddaa.A7
open Es (nth)
set_option linter.unusedVariables false
set_option linter.unusedSimpArgs false

theorem l1All_loop (c : Int) (l : List Int) (hn : l.length ≤ 1000000000000) (d : Nat) : ∀ (k i : Nat), i + d = l.length → d < k → spec_l1All.l0 k c c l (l.length : Int) (i : Int) = some ((l.drop i).all fun x => decide (x = c)) := by
  induction d with
  | zero =>
    intro k i hi hk
    obtain ⟨k, rfl⟩ : ∃ m, k = m + 1 := ⟨k - 1, by omega⟩
    unfold spec_l1All.l0
    rw [if_neg (by omega), List.drop_of_length_le (by omega)]
    rfl
  | succ d ih =>
    intro k i hi hk
    obtain ⟨k, rfl⟩ : ∃ m, k = m + 1 := ⟨k - 1, by omega⟩
    unfold spec_l1All.l0
    rw [if_pos (by omega), if_pos (by omega), if_pos (by omega), rd_at l i (by omega), (in_eq _ _ _).1, drop_step l i (by omega)]
    simp only [Option.bind_some, List.all_cons]
    by_cases hx : l[i] = c
    · have h1 : decide (c ≤ l[i] ∧ l[i] ≤ c) = true := by simp [hx]
      rw [h1, if_pos rfl, wrap_id (by omega) (by omega)]
      have := ih k (i + 1) (by omega) (by omega)
      rw [show ((i + 1 : Nat) : Int) = (i : Int) + 1 by omega] at this
      rw [this, decide_eq_true hx, Bool.true_and]
    · have h1 : decide (c ≤ l[i] ∧ l[i] ≤ c) = false := decide_eq_false (by omega)
      rw [h1, decide_eq_false hx, Bool.false_and]
      rfl
theorem l1All_eq (c : Int) (l : List Int) (hn : l.length ≤ 1000000000000) : spec_l1All.f (l.length + 1) l c c = some (l.all fun x => decide (x = c)) := by
  have := l1All_loop c l hn l.length (l.length + 1) 0 (by omega) (by omega)
  simpa [spec_l1All.f] using this

def same (a0 a1 a2 a3 : Int) : Bool := (ints (outS a0 a1 a2 a3).rot).all fun x => decide (x = a2)
def spec_AreAsBefore.f (a0 a1 a2 a3 : Int) : Option (Bool × Bool) := some (if asked a0 a1 a2 a3 = true then same a0 a1 a2 a3 else false, asked a0 a1 a2 a3)
set_option maxHeartbeats 4000000 in
set_option maxRecDepth 100000 in
theorem spec_AreAsBefore.walk (a0 a1 a2 a3 : Int) (w : World) : Calls Try.prog 26 #[.int .i64 a0, .int .i64 a1, .int .i64 a2, .int .i64 a3] w fun e w' => e = .returned (.tuple #[.bool (if asked a0 a1 a2 a3 = true then same a0 a1 a2 a3 else false), .bool (asked a0 a1 a2 a3)]) ∧ Below w.heap.size w w' := by
  have HA := Aside0.mk (asked_eq a0 a1 a2 a3)
  cases hq : asked a0 a1 a2 a3 with
  | false =>
    rw [hq] at HA
    rw [if_neg (by decide)]
    clear hq
    go_enter Try.func26, Try.ntmps26
    go_wp2_with (go_at_call 61; (with_reducible refine (spec_esAsked.calls 30 a0 a1 a2 a3 false _ HA.out).mono ?_); rintro e w' ⟨rfl, ⟨nd, rfl⟩⟩)
    go_ret2
    exact ⟨rfl, pw_below_drewN (Below.refl _ _) _⟩
  | true =>
    have HB := fun W => go_asked a0 a1 a2 a3 W hq
    have HB := Aside0.mk HB
    have HS := l1All_eq a2 (ints (outS a0 a1 a2 a3).rot) (by have := (out_len hq).2.2.1; rw [ints_len]; omega)
    have HS := Aside0.mk HS
    have hsame : ((ints (outS a0 a1 a2 a3).rot).all fun x => decide (x = a2)) = same a0 a1 a2 a3 := rfl
    rw [hsame] at HS
    clear hsame
    rw [hq] at HA
    rw [if_pos rfl]
    clear hq
    generalize same a0 a1 a2 a3 = sm at *
    go_enter Try.func26, Try.ntmps26
    go_wp2_with (first | (go_at_call 61; (with_reducible refine (spec_esAsked.calls 30 a0 a1 a2 a3 true _ HA.out).mono ?_); rintro e w' ⟨rfl, ⟨nd, rfl⟩⟩) | (go_at_call 63; obtain ⟨b1, d1, hc⟩ := HB.out (w.drewN nd); refine hc.mono ?_; rintro e w1 ⟨g, vr, ve, vt, vv, rfl, hB, hF⟩; obtain ⟨A, cA, rfl, hle, hC⟩ := Kd.R_reads (own_R hF.r); have HF := Aside0.mk hF; have HC := Aside0.mk hC; have HL := Aside0.mk ((pw_below_drewN (Below.refl w.heap.size w) nd).trans hB); clear hB hF hC; have c := blk_cell HF.out.blk 3; simp at c) | (go_at_call 65; (with_reducible refine (spec_l1All.calls _ A cA _ _ _ _ _ HC.out hle HS.out).mono ?_); rintro e w' ⟨rfl, ⟨nd2, rfl⟩⟩))
    go_ret2
    exact ⟨rfl, pw_below_drewN HL.out _⟩
theorem spec_AreAsBefore.calls (a0 a1 a2 a3 : Int) (r1 r2 : Bool) (w : World) (h : spec_AreAsBefore.f a0 a1 a2 a3 = some (r1, r2)) :
    Calls Try.prog 26 #[.int .i64 a0, .int .i64 a1, .int .i64 a2, .int .i64 a3] w fun e w' => e = .returned (.tuple #[.bool r1, .bool r2]) ∧ Below w.heap.size w w' := by
  have e := Option.some.inj h
  injection e with e1 e2
  subst e1 e2
  exact spec_AreAsBefore.walk a0 a1 a2 a3 w
end Go.Proofs.Ytmechelmnpoddaa.H7
