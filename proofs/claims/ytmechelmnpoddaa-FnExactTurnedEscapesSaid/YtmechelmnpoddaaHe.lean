/-
  The program's functions on branching trees, by contracts in the print's own form.
-/
import Derived.Test.YtmechelmnpoddaaHf
namespace Go.Proofs.Ytmechelmnpoddaa.H7
open Go.RowKit Go.Proofs.YtmechelmnpoddaaW.PrintWords Go.Proofs.YtmechelmnpoddaaW.PrintLast Go.Proofs.YtmechelmnpoddaaW.PrintMore
open Go.Proofs.Ytmechelmnpoddaa.A7
open Es (nth)
set_option linter.unusedVariables false
set_option linter.unusedSimpArgs false

theorem forest_not (a0 a1 a2 a3 : Int) (w : World) (h : asked a0 a1 a2 a3 = false) : Calls Try.prog 66 #[.int .i64 a0, .int .i64 a1, .int .i64 a2, .int .i64 a3] w fun e w' => e = .returned (.tuple #[.pointer none, .bool false]) ∧ Below w.heap.size w w' := by
  obtain ⟨N, _, _, h3⟩ := nodes_of a0 a1
  refine forest_no a0 a1 a2 a3 _ _ _ w h3 (in_eq a2 0 a0).2 (in_eq a3 0 200).2 ?_
  unfold asked at h
  rw [← h, ← Bool.decide_and, ← Bool.decide_and]
  exact decide_eq_decide.2 ⟨fun h => ⟨h.1.1, h.1.2.1, h.1.2.2, h.2.1, h.2.2⟩, fun h => ⟨⟨h.1, h.2.1, h.2.2.1⟩, h.2.2.2.1, h.2.2.2.2⟩⟩
theorem forest_asked (a0 a1 a2 a3 : Int) (w : World) (h : asked a0 a1 a2 a3 = true) : ∃ b1 d1, Calls Try.prog 66 #[.int .i64 a0, .int .i64 a1, .int .i64 a2, .int .i64 a3] w (FoOut w b1 d1 (Es.inner b1 d1) (outS a0 a1 a2 a3)) := by
  have hb : branch a0 a1 := by
    have : branch a0 a1 ∧ 0 ≤ a2 ∧ a2 ≤ a0 ∧ 0 ≤ a3 ∧ a3 ≤ 200 := by simpa [asked] using h
    exact this.1
  obtain ⟨b1, d1, k1, n1, N, p, rfl, rfl, rfl, rfl, ht, hk, hn, hT, hc⟩ := asked_tree h
  obtain ⟨N', _, _, h3⟩ := nodes_of (b1 : Int) (d1 : Int)
  rw [decide_eq_true hb] at h3
  exact ⟨b1, d1, forest_yes b1 d1 _ k1 n1 _ w h3 hT.first (by have := hT.d6; omega) hk hT.b3 hT.b2 (by have := hT.few; have := hT.sum; omega) hT.i0 hn hc⟩

def impl_EscapeList.f (a0 a1 a2 a3 : Int) : Option (List Int × Bool) := some (if asked a0 a1 a2 a3 = true then ints (outS a0 a1 a2 a3).ends else [], asked a0 a1 a2 a3)
set_option maxHeartbeats 4000000 in
set_option maxRecDepth 100000 in
theorem impl_EscapeList.walk (a0 a1 a2 a3 : Int) (w : World) : Calls Try.prog 31 #[.int .i64 a0, .int .i64 a1, .int .i64 a2, .int .i64 a3] w (SlOut w (if asked a0 a1 a2 a3 = true then ints (outS a0 a1 a2 a3).ends else []) (asked a0 a1 a2 a3)) := by
  cases hq : asked a0 a1 a2 a3 with
  | false =>
    have HA := fun W => forest_not a0 a1 a2 a3 W hq
    have HA := Aside0.mk HA
    rw [if_neg (by decide)]
    clear hq
    go_enter Try.func31, Try.ntmps31
    go_wp2_with (go_at_call 66; refine (HA.out _).mono ?_; rintro e w' ⟨rfl, hB⟩; have HB := Aside0.mk hB; clear hB)
    go_ret2
    exact slout_no _ _ HB.out
  | true =>
    have HB := fun W => forest_asked a0 a1 a2 a3 W hq
    have HB := Aside0.mk HB
    rw [if_pos rfl]
    clear hq
    go_enter Try.func31, Try.ntmps31
    go_wp2_with (go_at_call 66; obtain ⟨b1, d1, hc⟩ := HB.out w; refine hc.mono ?_; rintro e w1 ⟨g, vr, ve, vt, vv, rfl, hB, hF⟩; have HF := Aside0.mk hF; have HL := Aside0.mk hB; clear hB hF; have c := blk_cell HF.out.blk 3; simp at c)
    go_ret2
    exact ⟨_, rfl, own_R HF.out.e, HL.out⟩
theorem impl_EscapeList.calls (a0 a1 a2 a3 : Int) (r1 : List Int) (r2 : Bool) (w : World) (h : impl_EscapeList.f a0 a1 a2 a3 = some (r1, r2)) :
    Calls Try.prog 31 #[.int .i64 a0, .int .i64 a1, .int .i64 a2, .int .i64 a3] w fun e w' => ∃ v0_ : Value, e = .returned (.tuple #[v0_, .bool r2]) ∧ Kd.R (Kd.int .i64) 3 w' w.heap.size (fun _ => True) v0_ r1 ∧ Below w.heap.size w w' := by
  have e := Option.some.inj h
  injection e with e1 e2
  subst e1 e2
  exact impl_EscapeList.walk a0 a1 a2 a3 w

def impl_TripsOf.f (a0 a1 a2 a3 : Int) : Option (List Int × Bool) := some (if asked a0 a1 a2 a3 = true then ints (outS a0 a1 a2 a3).trips else [], asked a0 a1 a2 a3)
set_option maxHeartbeats 4000000 in
set_option maxRecDepth 100000 in
theorem impl_TripsOf.walk (a0 a1 a2 a3 : Int) (w : World) : Calls Try.prog 38 #[.int .i64 a0, .int .i64 a1, .int .i64 a2, .int .i64 a3] w (SlOut w (if asked a0 a1 a2 a3 = true then ints (outS a0 a1 a2 a3).trips else []) (asked a0 a1 a2 a3)) := by
  cases hq : asked a0 a1 a2 a3 with
  | false =>
    have HA := fun W => forest_not a0 a1 a2 a3 W hq
    have HA := Aside0.mk HA
    rw [if_neg (by decide)]
    clear hq
    go_enter Try.func38, Try.ntmps38
    go_wp2_with (go_at_call 66; refine (HA.out _).mono ?_; rintro e w' ⟨rfl, hB⟩; have HB := Aside0.mk hB; clear hB)
    go_ret2
    exact slout_no _ _ HB.out
  | true =>
    have HB := fun W => forest_asked a0 a1 a2 a3 W hq
    have HB := Aside0.mk HB
    rw [if_pos rfl]
    clear hq
    go_enter Try.func38, Try.ntmps38
    go_wp2_with (go_at_call 66; obtain ⟨b1, d1, hc⟩ := HB.out w; refine hc.mono ?_; rintro e w1 ⟨g, vr, ve, vt, vv, rfl, hB, hF⟩; have HF := Aside0.mk hF; have HL := Aside0.mk hB; clear hB hF; have c := blk_cell HF.out.blk 4; simp at c)
    go_ret2
    exact ⟨_, rfl, own_R HF.out.t, HL.out⟩
theorem impl_TripsOf.calls (a0 a1 a2 a3 : Int) (r1 : List Int) (r2 : Bool) (w : World) (h : impl_TripsOf.f a0 a1 a2 a3 = some (r1, r2)) :
    Calls Try.prog 38 #[.int .i64 a0, .int .i64 a1, .int .i64 a2, .int .i64 a3] w fun e w' => ∃ v0_ : Value, e = .returned (.tuple #[v0_, .bool r2]) ∧ Kd.R (Kd.int .i64) 3 w' w.heap.size (fun _ => True) v0_ r1 ∧ Below w.heap.size w w' := by
  have e := Option.some.inj h
  injection e with e1 e2
  subst e1 e2
  exact impl_TripsOf.walk a0 a1 a2 a3 w

def impl_LevelVisits.f (a0 a1 a2 a3 : Int) : Option (List Int × Bool) := some (if asked a0 a1 a2 a3 = true then ints (outS a0 a1 a2 a3).vis else [], asked a0 a1 a2 a3)
set_option maxHeartbeats 4000000 in
set_option maxRecDepth 100000 in
theorem impl_LevelVisits.walk (a0 a1 a2 a3 : Int) (w : World) : Calls Try.prog 36 #[.int .i64 a0, .int .i64 a1, .int .i64 a2, .int .i64 a3] w (SlOut w (if asked a0 a1 a2 a3 = true then ints (outS a0 a1 a2 a3).vis else []) (asked a0 a1 a2 a3)) := by
  cases hq : asked a0 a1 a2 a3 with
  | false =>
    have HA := fun W => forest_not a0 a1 a2 a3 W hq
    have HA := Aside0.mk HA
    rw [if_neg (by decide)]
    clear hq
    go_enter Try.func36, Try.ntmps36
    go_wp2_with (go_at_call 66; refine (HA.out _).mono ?_; rintro e w' ⟨rfl, hB⟩; have HB := Aside0.mk hB; clear hB)
    go_ret2
    exact slout_no _ _ HB.out
  | true =>
    have HB := fun W => forest_asked a0 a1 a2 a3 W hq
    have HB := Aside0.mk HB
    rw [if_pos rfl]
    clear hq
    go_enter Try.func36, Try.ntmps36
    go_wp2_with (go_at_call 66; obtain ⟨b1, d1, hc⟩ := HB.out w; refine hc.mono ?_; rintro e w1 ⟨g, vr, ve, vt, vv, rfl, hB, hF⟩; have HF := Aside0.mk hF; have HL := Aside0.mk hB; clear hB hF; have c := blk_cell HF.out.blk 5; simp at c)
    go_ret2
    exact ⟨_, rfl, own_R HF.out.v, HL.out⟩
theorem impl_LevelVisits.calls (a0 a1 a2 a3 : Int) (r1 : List Int) (r2 : Bool) (w : World) (h : impl_LevelVisits.f a0 a1 a2 a3 = some (r1, r2)) :
    Calls Try.prog 36 #[.int .i64 a0, .int .i64 a1, .int .i64 a2, .int .i64 a3] w fun e w' => ∃ v0_ : Value, e = .returned (.tuple #[v0_, .bool r2]) ∧ Kd.R (Kd.int .i64) 3 w' w.heap.size (fun _ => True) v0_ r1 ∧ Below w.heap.size w w' := by
  have e := Option.some.inj h
  injection e with e1 e2
  subst e1 e2
  exact impl_LevelVisits.walk a0 a1 a2 a3 w
end Go.Proofs.Ytmechelmnpoddaa.H7
