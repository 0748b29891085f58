/-
  The reference's functions on branching trees, by contracts in the print's own form.
-/
import Derived.Test.YtmechelmnpoddaaHb
namespace Go.Proofs.Ytmechelmnpoddaa.H7
open Go.RowKit Go.Proofs.YtmechelmnpoddaaW.PrintWords Go.Proofs.YtmechelmnpoddaaW.PrintLast Go.Proofs.YtmechelmnpoddaaW.PrintMore
open Go.Proofs.Ytmechelmnpoddaa.A7
open Es (nth)
set_option linter.unusedVariables false
set_option linter.unusedSimpArgs false

/-! ### What is asked for -/
def branch (b d : Int) : Prop := (b = 2 ∧ 1 ≤ d ∧ d ≤ 6) ∨ (b = 3 ∧ 1 ≤ d ∧ d ≤ 4)
instance (b d : Int) : Decidable (branch b d) := by unfold branch; infer_instance
def asked (b d k n : Int) : Bool := decide (branch b d ∧ 0 ≤ k ∧ k ≤ b ∧ 0 ≤ n ∧ n ≤ 200)
theorem in_no (a lo hi : Int) (h : ¬ (lo ≤ a ∧ a ≤ hi)) : spec_l1In.f a lo hi = some false ∧ impl_in.f a lo hi = some false := by
  unfold spec_l1In.f impl_in.f
  by_cases h1 : lo ≤ a
  · have h2 : ¬ a ≤ hi := fun h2 => h ⟨h1, h2⟩
    simp [h1, h2]
  · simp [h1]
theorem in_yes (a lo hi : Int) (h : lo ≤ a ∧ a ≤ hi) : spec_l1In.f a lo hi = some true ∧ impl_in.f a lo hi = some true := by
  unfold spec_l1In.f impl_in.f
  simp [h.1, h.2]
theorem in_eq (a lo hi : Int) : spec_l1In.f a lo hi = some (decide (lo ≤ a ∧ a ≤ hi)) ∧ impl_in.f a lo hi = some (decide (lo ≤ a ∧ a ≤ hi)) := by
  by_cases h : lo ≤ a ∧ a ≤ hi
  · rw [(in_yes a lo hi h).1, (in_yes a lo hi h).2]; simp [h]
  · rw [(in_no a lo hi h).1, (in_no a lo hi h).2]; simp [h]
/-- The reference's number of nodes is 0 where there is no tree; the program's test says so. -/
theorem nodes_of (b d : Int) : ∃ N : Nat, spec_esNodes.f 30 b d = some (N : Int) ∧ (0 < N ↔ branch b d) ∧ impl_isBranching.f 30 b d = some (decide (branch b d)) := by
  by_cases h : (2 ≤ b ∧ b ≤ 3) ∧ (1 ≤ d ∧ d ≤ 6)
  · have h0 : b = 2 ∨ b = 3 := by omega
    have h1 : d = 1 ∨ d = 2 ∨ d = 3 ∨ d = 4 ∨ d = 5 ∨ d = 6 := by omega
    rcases h0 with rfl | rfl <;> rcases h1 with rfl | rfl | rfl | rfl | rfl | rfl
    · exact ⟨3, by decide +kernel, by decide, by decide +kernel⟩
    · exact ⟨7, by decide +kernel, by decide, by decide +kernel⟩
    · exact ⟨15, by decide +kernel, by decide, by decide +kernel⟩
    · exact ⟨31, by decide +kernel, by decide, by decide +kernel⟩
    · exact ⟨63, by decide +kernel, by decide, by decide +kernel⟩
    · exact ⟨127, by decide +kernel, by decide, by decide +kernel⟩
    · exact ⟨4, by decide +kernel, by decide, by decide +kernel⟩
    · exact ⟨13, by decide +kernel, by decide, by decide +kernel⟩
    · exact ⟨40, by decide +kernel, by decide, by decide +kernel⟩
    · exact ⟨121, by decide +kernel, by decide, by decide +kernel⟩
    · exact ⟨0, by decide +kernel, by decide, by decide +kernel⟩
    · exact ⟨0, by decide +kernel, by decide, by decide +kernel⟩
  · have hb : ¬ branch b d := by unfold branch; omega
    refine ⟨0, ?_, by simp [hb], ?_⟩
    · unfold spec_esNodes.f
      by_cases h0 : 2 ≤ b ∧ b ≤ 3
      · have h1 : ¬ (1 ≤ d ∧ d ≤ 6) := fun h1 => h ⟨h0, h1⟩
        rw [(in_yes _ _ _ h0).1, (in_no _ _ _ h1).1]
        simp [spec_esNodes.j0]
      · rw [(in_no _ _ _ h0).1]
        simp [spec_esNodes.j0]
    · unfold impl_isBranching.f
      by_cases h0 : 2 ≤ b ∧ b ≤ 3
      · have h1 : ¬ (1 ≤ d ∧ d ≤ 6) := fun h1 => h ⟨h0, h1⟩
        rw [(in_yes _ _ _ h0).2, (in_no _ _ _ h1).2]
        simp [hb]
      · rw [(in_no _ _ _ h0).2]
        simp [hb]
theorem asked_eq (b d k n : Int) : spec_esAsked.f 30 b d k n = some (asked b d k n) := by
  obtain ⟨N, h1, h2, _⟩ := nodes_of b d
  unfold spec_esAsked.f asked
  rw [h1, (in_eq k 0 b).1, (in_eq n 0 200).1]
  by_cases hb : branch b d
  · have hN : (N : Int) > 0 := by have := h2.2 hb; omega
    simp only [Option.bind_some]
    rw [if_pos hN]
    by_cases hk : 0 ≤ k ∧ k ≤ b
    · by_cases hn : 0 ≤ n ∧ n ≤ 200
      · simp [hb, hk, hn]
      · have hn' : ¬ (branch b d ∧ 0 ≤ k ∧ k ≤ b ∧ 0 ≤ n ∧ n ≤ 200) := fun h => hn h.2.2.2
        simp [decide_eq_true hk, decide_eq_false hn, decide_eq_false hn']
    · have hk' : ¬ (branch b d ∧ 0 ≤ k ∧ k ≤ b ∧ 0 ≤ n ∧ n ≤ 200) := fun h => hk ⟨h.2.1, h.2.2.1⟩
      simp [decide_eq_false hk, decide_eq_false hk']
  · have hN : ¬ ((N : Int) > 0) := by intro h; exact hb (h2.1 (by omega))
    have hb' : ¬ (branch b d ∧ 0 ≤ k ∧ k ≤ b ∧ 0 ≤ n ∧ n ≤ 200) := fun h => hb h.1
    simp only [Option.bind_some]
    rw [if_neg hN, decide_eq_false hb']
/-- What 'n' chips leave of a tree whose rotors are 'k' at first. -/
def outS (b d k n : Int) : Es.St := match Es.chips b.toNat (Es.inner b.toNat d.toNat) n.toNat (Es.start d.toNat (Es.inner b.toNat d.toNat) k.toNat) with
  | some s => s
  | none => ⟨[], [], [], []⟩
theorem branch_tree {b d : Int} (h : branch b d) : ∃ b1 d1 : Nat, b = b1 ∧ d = d1 ∧ (b1, d1) ∈ Es.trees := by
  unfold branch at h
  refine ⟨b.toNat, d.toNat, by omega, by omega, ?_⟩
  have h0 : (b = 2 ∧ (d = 1 ∨ d = 2 ∨ d = 3 ∨ d = 4 ∨ d = 5 ∨ d = 6)) ∨ (b = 3 ∧ (d = 1 ∨ d = 2 ∨ d = 3 ∨ d = 4)) := by omega
  rcases h0 with ⟨rfl, rfl | rfl | rfl | rfl | rfl | rfl⟩ | ⟨rfl, rfl | rfl | rfl | rfl⟩ <;> decide
/-- What is known of a tree's numbers. -/
structure Tree (b d inner N p : Nat) : Prop where
  nodes : spec_esNodes.f 30 (b : Int) (d : Int) = some (N : Int)
  power : spec_esPower.f 30 (b : Int) (d : Int) = some (p : Int)
  sum : N = inner + p
  few : N ≤ 130
  b3 : b ≤ 3
  b2 : 2 ≤ b
  i0 : 0 < inner
  d6 : d ≤ 6
  d1 : 1 ≤ d
  first : impl_nodesOf.f 30 (b : Int) (d - 1 : Int) = some (inner : Int)
theorem tree_is (b d : Nat) (h : (b, d) ∈ Es.trees) : ∃ N p, Tree b d (Es.inner b d) N p := by
  simp only [Es.trees, List.mem_cons, Prod.mk.injEq, List.mem_nil_iff, or_false] at h
  rcases h with ⟨rfl, rfl⟩ | ⟨rfl, rfl⟩ | ⟨rfl, rfl⟩ | ⟨rfl, rfl⟩ | ⟨rfl, rfl⟩ | ⟨rfl, rfl⟩ | ⟨rfl, rfl⟩ | ⟨rfl, rfl⟩ | ⟨rfl, rfl⟩ | ⟨rfl, rfl⟩
  · exact ⟨3, 2, by decide +kernel, by decide +kernel, by decide, by decide, by decide, by decide, by decide, by decide, by decide, by decide +kernel⟩
  · exact ⟨7, 4, by decide +kernel, by decide +kernel, by decide, by decide, by decide, by decide, by decide, by decide, by decide, by decide +kernel⟩
  · exact ⟨15, 8, by decide +kernel, by decide +kernel, by decide, by decide, by decide, by decide, by decide, by decide, by decide, by decide +kernel⟩
  · exact ⟨31, 16, by decide +kernel, by decide +kernel, by decide, by decide, by decide, by decide, by decide, by decide, by decide, by decide +kernel⟩
  · exact ⟨63, 32, by decide +kernel, by decide +kernel, by decide, by decide, by decide, by decide, by decide, by decide, by decide, by decide +kernel⟩
  · exact ⟨127, 64, by decide +kernel, by decide +kernel, by decide, by decide, by decide, by decide, by decide, by decide, by decide, by decide +kernel⟩
  · exact ⟨4, 3, by decide +kernel, by decide +kernel, by decide, by decide, by decide, by decide, by decide, by decide, by decide, by decide +kernel⟩
  · exact ⟨13, 9, by decide +kernel, by decide +kernel, by decide, by decide, by decide, by decide, by decide, by decide, by decide, by decide +kernel⟩
  · exact ⟨40, 27, by decide +kernel, by decide +kernel, by decide, by decide, by decide, by decide, by decide, by decide, by decide, by decide +kernel⟩
  · exact ⟨121, 81, by decide +kernel, by decide +kernel, by decide, by decide, by decide, by decide, by decide, by decide, by decide, by decide +kernel⟩
theorem asked_tree {b d k n : Int} (h : asked b d k n = true) : ∃ b1 d1 k1 n1 N p : Nat, b = b1 ∧ d = d1 ∧ k = k1 ∧ n = n1 ∧ (b1, d1) ∈ Es.trees ∧ k1 ≤ b1 ∧ n1 ≤ 200 ∧ Tree b1 d1 (Es.inner b1 d1) N p ∧
    Es.chips b1 (Es.inner b1 d1) n1 (Es.start d1 (Es.inner b1 d1) k1) = some (outS b d k n) := by
  have h' : branch b d ∧ 0 ≤ k ∧ k ≤ b ∧ 0 ≤ n ∧ n ≤ 200 := by simpa [asked] using h
  obtain ⟨hb, h1, h2, h3, h4⟩ := h'
  obtain ⟨b1, d1, rfl, rfl, ht⟩ := branch_tree hb
  obtain ⟨N, p, hT⟩ := tree_is b1 d1 ht
  obtain ⟨s, hs⟩ := Es.end_of b1 d1 k.toNat n.toNat ht (by omega) (by omega)
  refine ⟨b1, d1, k.toNat, n.toNat, N, p, rfl, rfl, by omega, by omega, ht, by omega, by omega, hT, ?_⟩
  unfold outS
  rw [Int.toNat_natCast, Int.toNat_natCast, hs]

/-- The reference's chips, where they are asked for. -/
theorem go_asked (b d k n : Int) (w : World) (h : asked b d k n = true) : ∃ b1 d1, Calls Try.prog 63 #[.int .i64 b, .int .i64 d, .int .i64 k, .int .i64 n] w (EsOut w b1 d1 (Es.inner b1 d1) (outS b d k n)) := by
  obtain ⟨b1, d1, k1, n1, N, p, rfl, rfl, rfl, rfl, ht, hk, hn, hT, hc⟩ := asked_tree h
  exact ⟨b1, d1, go_calls 30 b1 d1 _ k1 N p n1 _ w hT.nodes hT.power hT.sum hT.few (by have := hT.d6; omega) (by have := hT.b3; omega) hT.b3 hT.b2 hT.i0 (by omega) hc⟩
theorem own_R {w : World} {base n : Nat} {v : Value} {l : List Nat} (h : w.ownsRow base 3 1 v n (nums .i64 (ints l))) : Kd.R (Kd.int .i64) 3 w base (fun _ => True) v (ints l) := by
  have hl := row_len h
  refine Kd.R_of_own ?_ (fun _ _ => trivial)
  rw [ints_length, hl]
  exact h
def SlOut (w : World) (l : List Int) (ok : Bool) (e : Ending) (w' : World) : Prop :=
  ∃ v0_ : Value, e = .returned (.tuple #[v0_, .bool ok]) ∧ Kd.R (Kd.int .i64) 3 w' w.heap.size (fun _ => True) v0_ l ∧ Below w.heap.size w w'
theorem slout_no (w w' : World) (h : Below w.heap.size w w') : SlOut w [] false (.returned (.tuple #[.slice none 0 0, .bool false])) w' := ⟨_, rfl, Kd.R_nil _ _ _ _ _, h⟩

def spec_EscapeList.f (a0 a1 a2 a3 : Int) : Option (List Int × Bool) := some (if asked a0 a1 a2 a3 = true then ints (outS a0 a1 a2 a3).ends else [], asked a0 a1 a2 a3)
set_option maxHeartbeats 4000000 in
set_option maxRecDepth 100000 in
theorem spec_EscapeList.walk (a0 a1 a2 a3 : Int) (w : World) : Calls Try.prog 30 #[.int .i64 a0, .int .i64 a1, .int .i64 a2, .int .i64 a3] w (SlOut w (if asked a0 a1 a2 a3 = true then ints (outS a0 a1 a2 a3).ends else []) (asked a0 a1 a2 a3)) := by
  have HA := Aside0.mk (asked_eq a0 a1 a2 a3)
  cases hq : asked a0 a1 a2 a3 with
  | false =>
    rw [hq] at HA
    rw [if_neg (by decide)]
    clear hq
    go_enter Try.func30, Try.ntmps30
    go_wp2_with (go_at_call 61; (with_reducible refine (spec_esAsked.calls 30 a0 a1 a2 a3 false _ HA.out).mono ?_); rintro e w' ⟨rfl, ⟨nd, rfl⟩⟩)
    go_ret2
    exact slout_no _ _ (pw_below_drewN (Below.refl _ _) _)
  | true =>
    have HB := fun W => go_asked a0 a1 a2 a3 W hq
    have HB := Aside0.mk HB
    rw [hq] at HA
    rw [if_pos rfl]
    clear hq
    go_enter Try.func30, Try.ntmps30
    go_wp2_with (first | (go_at_call 61; (with_reducible refine (spec_esAsked.calls 30 a0 a1 a2 a3 true _ HA.out).mono ?_); rintro e w' ⟨rfl, ⟨nd, rfl⟩⟩) | (go_at_call 63; obtain ⟨b1, d1, hc⟩ := HB.out (w.drewN nd); refine hc.mono ?_; rintro e w1 ⟨g, vr, ve, vt, vv, rfl, hB, hF⟩; have HF := Aside0.mk hF; have HL := Aside0.mk ((pw_below_drewN (Below.refl w.heap.size w) nd).trans hB); clear hB hF; have c := blk_cell HF.out.blk 4; simp at c))
    go_ret2
    exact ⟨_, rfl, own_R HF.out.e, HL.out⟩
theorem spec_EscapeList.calls (a0 a1 a2 a3 : Int) (r1 : List Int) (r2 : Bool) (w : World) (h : spec_EscapeList.f a0 a1 a2 a3 = some (r1, r2)) :
    Calls Try.prog 30 #[.int .i64 a0, .int .i64 a1, .int .i64 a2, .int .i64 a3] w fun e w' => ∃ v0_ : Value, e = .returned (.tuple #[v0_, .bool r2]) ∧ Kd.R (Kd.int .i64) 3 w' w.heap.size (fun _ => True) v0_ r1 ∧ Below w.heap.size w w' := by
  have e := Option.some.inj h
  injection e with e1 e2
  subst e1 e2
  exact spec_EscapeList.walk a0 a1 a2 a3 w

def spec_TripsOf.f (a0 a1 a2 a3 : Int) : Option (List Int × Bool) := some (if asked a0 a1 a2 a3 = true then ints (outS a0 a1 a2 a3).trips else [], asked a0 a1 a2 a3)
set_option maxHeartbeats 4000000 in
set_option maxRecDepth 100000 in
theorem spec_TripsOf.walk (a0 a1 a2 a3 : Int) (w : World) : Calls Try.prog 37 #[.int .i64 a0, .int .i64 a1, .int .i64 a2, .int .i64 a3] w (SlOut w (if asked a0 a1 a2 a3 = true then ints (outS a0 a1 a2 a3).trips else []) (asked a0 a1 a2 a3)) := by
  have HA := Aside0.mk (asked_eq a0 a1 a2 a3)
  cases hq : asked a0 a1 a2 a3 with
  | false =>
    rw [hq] at HA
    rw [if_neg (by decide)]
    clear hq
    go_enter Try.func37, Try.ntmps37
    go_wp2_with (go_at_call 61; (with_reducible refine (spec_esAsked.calls 30 a0 a1 a2 a3 false _ HA.out).mono ?_); rintro e w' ⟨rfl, ⟨nd, rfl⟩⟩)
    go_ret2
    exact slout_no _ _ (pw_below_drewN (Below.refl _ _) _)
  | true =>
    have HB := fun W => go_asked a0 a1 a2 a3 W hq
    have HB := Aside0.mk HB
    rw [hq] at HA
    rw [if_pos rfl]
    clear hq
    go_enter Try.func37, Try.ntmps37
    go_wp2_with (first | (go_at_call 61; (with_reducible refine (spec_esAsked.calls 30 a0 a1 a2 a3 true _ HA.out).mono ?_); rintro e w' ⟨rfl, ⟨nd, rfl⟩⟩) | (go_at_call 63; obtain ⟨b1, d1, hc⟩ := HB.out (w.drewN nd); refine hc.mono ?_; rintro e w1 ⟨g, vr, ve, vt, vv, rfl, hB, hF⟩; have HF := Aside0.mk hF; have HL := Aside0.mk ((pw_below_drewN (Below.refl w.heap.size w) nd).trans hB); clear hB hF; have c := blk_cell HF.out.blk 5; simp at c))
    go_ret2
    exact ⟨_, rfl, own_R HF.out.t, HL.out⟩
theorem spec_TripsOf.calls (a0 a1 a2 a3 : Int) (r1 : List Int) (r2 : Bool) (w : World) (h : spec_TripsOf.f a0 a1 a2 a3 = some (r1, r2)) :
    Calls Try.prog 37 #[.int .i64 a0, .int .i64 a1, .int .i64 a2, .int .i64 a3] w fun e w' => ∃ v0_ : Value, e = .returned (.tuple #[v0_, .bool r2]) ∧ Kd.R (Kd.int .i64) 3 w' w.heap.size (fun _ => True) v0_ r1 ∧ Below w.heap.size w w' := by
  have e := Option.some.inj h
  injection e with e1 e2
  subst e1 e2
  exact spec_TripsOf.walk a0 a1 a2 a3 w

def spec_LevelVisits.f (a0 a1 a2 a3 : Int) : Option (List Int × Bool) := some (if asked a0 a1 a2 a3 = true then ints (outS a0 a1 a2 a3).vis else [], asked a0 a1 a2 a3)
set_option maxHeartbeats 4000000 in
set_option maxRecDepth 100000 in
theorem spec_LevelVisits.walk (a0 a1 a2 a3 : Int) (w : World) : Calls Try.prog 35 #[.int .i64 a0, .int .i64 a1, .int .i64 a2, .int .i64 a3] w (SlOut w (if asked a0 a1 a2 a3 = true then ints (outS a0 a1 a2 a3).vis else []) (asked a0 a1 a2 a3)) := by
  have HA := Aside0.mk (asked_eq a0 a1 a2 a3)
  cases hq : asked a0 a1 a2 a3 with
  | false =>
    rw [hq] at HA
    rw [if_neg (by decide)]
    clear hq
    go_enter Try.func35, Try.ntmps35
    go_wp2_with (go_at_call 61; (with_reducible refine (spec_esAsked.calls 30 a0 a1 a2 a3 false _ HA.out).mono ?_); rintro e w' ⟨rfl, ⟨nd, rfl⟩⟩)
    go_ret2
    exact slout_no _ _ (pw_below_drewN (Below.refl _ _) _)
  | true =>
    have HB := fun W => go_asked a0 a1 a2 a3 W hq
    have HB := Aside0.mk HB
    rw [hq] at HA
    rw [if_pos rfl]
    clear hq
    go_enter Try.func35, Try.ntmps35
    go_wp2_with (first | (go_at_call 61; (with_reducible refine (spec_esAsked.calls 30 a0 a1 a2 a3 true _ HA.out).mono ?_); rintro e w' ⟨rfl, ⟨nd, rfl⟩⟩) | (go_at_call 63; obtain ⟨b1, d1, hc⟩ := HB.out (w.drewN nd); refine hc.mono ?_; rintro e w1 ⟨g, vr, ve, vt, vv, rfl, hB, hF⟩; have HF := Aside0.mk hF; have HL := Aside0.mk ((pw_below_drewN (Below.refl w.heap.size w) nd).trans hB); clear hB hF; have c := blk_cell HF.out.blk 6; simp at c))
    go_ret2
    exact ⟨_, rfl, own_R HF.out.v, HL.out⟩
theorem spec_LevelVisits.calls (a0 a1 a2 a3 : Int) (r1 : List Int) (r2 : Bool) (w : World) (h : spec_LevelVisits.f a0 a1 a2 a3 = some (r1, r2)) :
    Calls Try.prog 35 #[.int .i64 a0, .int .i64 a1, .int .i64 a2, .int .i64 a3] w fun e w' => ∃ v0_ : Value, e = .returned (.tuple #[v0_, .bool r2]) ∧ Kd.R (Kd.int .i64) 3 w' w.heap.size (fun _ => True) v0_ r1 ∧ Below w.heap.size w w' := by
  have e := Option.some.inj h
  injection e with e1 e2
  subst e1 e2
  exact spec_LevelVisits.walk a0 a1 a2 a3 w
end Go.Proofs.Ytmechelmnpoddaa.H7
