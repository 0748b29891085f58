/-
  RotorsOnLevel of both sides, by contracts in the print's own form.
-/
import Derived.Test.YtmechelmnpoddaaHj
namespace Go.Proofs.Ytmechelmnpoddaa.H7
open Go.RowKit Go.Proofs.YtmechelmnpoddaaW.PrintWords Go.Proofs.YtmechelmnpoddaaW.PrintLast Go.Proofs.YtmechelmnpoddaaW.PrintMore
open Go.Proofs.Ytmechelmnpoddaa.A7
open Go.Shelf Go.Lib
open Es (nth)
set_option linter.unusedVariables false
set_option linter.unusedSimpArgs false

/-- The numbers of a level: where it begins, how many nodes it has. -/
structure Lev (b d l f p : Nat) : Prop where
  power : spec_esPower.f 30 (b : Int) (l : Int) = some (p : Int)
  power2 : impl_power.f 30 (b : Int) (l : Int) = some (p : Int)
  nodes : impl_nodesOf.f 30 (b : Int) (l : Int) = some ((f + p : Nat) : Int)
  first : 0 < l → (p - 1) / (b - 1) = f
  zero : l = 0 → f = 0
  p1 : 1 ≤ p
  fits : f + p ≤ Es.inner b d
  few : f + p ≤ 130
  b2 : 2 ≤ b
def levOk (b d l : Nat) : Bool := 
  decide (spec_esPower.f 30 (b : Int) (l : Int) = some ((b ^ l : Nat) : Int)) && decide (impl_power.f 30 (b : Int) (l : Int) = some ((b ^ l : Nat) : Int)) && decide (impl_nodesOf.f 30 (b : Int) (l : Int) = some ((Es.inner b l + b ^ l : Nat) : Int)) &&
  decide (1 ≤ b ^ l) && decide (Es.inner b l + b ^ l ≤ Es.inner b d) && decide (Es.inner b l + b ^ l ≤ 130) && decide (2 ≤ b) && decide (l = 0 → Es.inner b l = 0)
theorem lev_all : (Es.trees.all fun t => (List.range t.2).all fun l => levOk t.1 t.2 l) = true := by decide +kernel
theorem lev_is (b d l : Nat) (h : (b, d) ∈ Es.trees) (hl : l < d) : Lev b d l (Es.inner b l) (b ^ l) := by
  have h1 := List.all_eq_true.1 lev_all _ h
  have h2 := List.all_eq_true.1 h1 l (List.mem_range.2 hl)
  simp only [levOk, Bool.and_eq_true, decide_eq_true_eq] at h2
  obtain ⟨⟨⟨⟨⟨⟨⟨h3, h4⟩, h5⟩, h6⟩, h7⟩, h8⟩, h9⟩, h10⟩ := h2
  exact ⟨h3, h4, h5, fun _ => rfl, h10, h6, h7, h8, h9⟩
def rowOf (a0 a1 a2 a3 a4 : Int) : List Nat := ((outS a0 a1 a2 a3).rot.drop (Es.inner a0.toNat a4.toNat)).take (a0.toNat ^ a4.toNat)
def lasked (a0 a1 a2 a3 a4 : Int) : Bool := asked a0 a1 a2 a3 && decide (0 ≤ a4 ∧ a4 ≤ a1 - 1)
def spec_RotorsOnLevel.f (a0 a1 a2 a3 a4 : Int) : Option (List Int × Bool) := some (if lasked a0 a1 a2 a3 a4 = true then ints (rowOf a0 a1 a2 a3 a4) else [], lasked a0 a1 a2 a3 a4)

set_option maxHeartbeats 4000000 in
set_option maxRecDepth 100000 in
theorem spec_RotorsOnLevel.no (a0 a1 a2 a3 a4 : Int) (w : World) (hq : lasked a0 a1 a2 a3 a4 = false) (h1 : 0 ≤ a1 ∧ a1 ≤ 100 ∨ asked a0 a1 a2 a3 = false) : Calls Try.prog 39 #[.int .i64 a0, .int .i64 a1, .int .i64 a2, .int .i64 a3, .int .i64 a4] w (SlOut w [] false) := by
  have HA := Aside0.mk (asked_eq a0 a1 a2 a3)
  have HI := Aside0.mk (in_eq a4 0 (a1 - 1)).1
  unfold lasked at hq
  cases hb : asked a0 a1 a2 a3 with
  | false =>
    rw [hb] at HA
    clear hq hb h1
    go_enter Try.func39, Try.ntmps39
    go_wp2_with (go_at_call 61; (with_reducible refine (spec_esAsked.calls 30 a0 a1 a2 a3 false _ HA.out).mono ?_); rintro e w' ⟨rfl, ⟨nd, rfl⟩⟩)
    go_ret2
    exact slout_no _ _ (pw_below_drewN (Below.refl _ _) _)
  | true =>
    rw [hb] at hq HA h1
    have h2 : decide (0 ≤ a4 ∧ a4 ≤ a1 - 1) = false := by simpa using hq
    rw [h2] at HI
    have h3 : 0 ≤ a1 ∧ a1 ≤ 100 := by simpa using h1
    have hw : IntKind.i64.wrap (a1 - 1) = a1 - 1 := IntWalk.i64_in _ (by omega)
    clear hq hb h1 h2 h3
    go_enter Try.func39, Try.ntmps39
    go_wp2_with (first | (go_at_call 61; (with_reducible refine (spec_esAsked.calls 30 a0 a1 a2 a3 true _ HA.out).mono ?_); rintro e w' ⟨rfl, ⟨nd, rfl⟩⟩) | (go_at_call 71; (with_reducible refine (spec_l1In.calls a4 0 (a1 - 1) false _ HI.out).mono ?_); rintro e w' ⟨rfl, ⟨nd2, rfl⟩⟩))
    go_ret2
    exact slout_no _ _ (pw_below_drewN (Below.refl _ _) _)

theorem run_rot (b inner : Nat) : ∀ (k a l st : Nat) (rot vis : List Nat) e s R V, Es.run b inner k a l st rot vis = some (e, s, R, V) → R.length = rot.length
  | 0, _, _, _, _, _, _, _, _, _, h => by simp [Es.run] at h
  | k + 1, a, l, st, rot, vis, e, s, R, V, h => by
    unfold Es.run at h
    split at h
    · split at h
      · split at h
        · split at h
          · exact (run_rot b inner k _ _ _ _ _ _ _ _ _ h).trans (by simp)
          · cases h
        · split at h
          · split at h
            · simp only [Option.some.injEq, Prod.mk.injEq] at h
              rw [← h.2.2.1]
              simp
            · cases h
          · split at h
            · exact (run_rot b inner k _ _ _ _ _ _ _ _ _ h).trans (by simp)
            · cases h
      · cases h
    · simp only [Option.some.injEq, Prod.mk.injEq] at h
      rw [← h.2.2.1]
theorem chips_rot (b inner : Nat) : ∀ (n : Nat) (s S : Es.St), Es.chips b inner n s = some S → S.rot.length = s.rot.length
  | 0, s, S, h => by
    simp only [Es.chips, Option.some.injEq] at h
    rw [h]
  | n + 1, s, S, h => by
    unfold Es.chips at h
    split at h
    · cases h
    · rename_i e st rot vis hc
      have h1 := chips_rot b inner n _ _ h
      unfold Es.chip at hc
      split at hc
      · exact h1.trans (run_rot _ _ _ _ _ _ _ _ _ _ _ _ hc)
      · cases hc
theorem lasked_is {a0 a1 a2 a3 a4 : Int} (h : lasked a0 a1 a2 a3 a4 = true) : asked a0 a1 a2 a3 = true ∧ ∃ b d l f p : Nat, a0 = b ∧ a1 = d ∧ a4 = l ∧ l < d ∧ d ≤ 6 ∧ b ≤ 3 ∧ Lev b d l f p ∧ rowOf a0 a1 a2 a3 a4 = ((outS a0 a1 a2 a3).rot.drop f).take p ∧ (outS a0 a1 a2 a3).rot.length = Es.inner b d := by
  unfold lasked at h
  simp only [Bool.and_eq_true, decide_eq_true_eq] at h
  obtain ⟨h1, h2, h3⟩ := h
  obtain ⟨b, d, k, n, N, p, rfl, rfl, rfl, rfl, ht, hk, hn, hT, hc⟩ := asked_tree h1
  have hl : a4.toNat < d := by omega
  refine ⟨h1, b, d, a4.toNat, _, _, rfl, rfl, by omega, hl, hT.d6, hT.b3, lev_is b d a4.toNat ht hl, by unfold rowOf; rw [Int.toNat_natCast], ?_⟩
  exact (chips_rot b (Es.inner b d) n _ _ hc).trans (by simp [Es.start])
theorem slout_end {w a c W' : World} {v : Value} {X : List Int} (h1 : Below w.heap.size w a) (h2 : Below a.heap.size a c) (h4 : Below c.heap.size c W') (hR : Kd.R (Kd.int .i64) 3 W' c.heap.size (fun _ => True) v X) : SlOut w X true (.returned (.tuple #[v, .bool true])) W' :=
  ⟨v, rfl, Kd.R_lower hR (by have := h1.size; have := h2.size; omega), below_then (below_then h1 h1.size h2) (by have := h1.size; have := h2.size; omega) h4⟩
theorem l1Own_eq (X : List Int) (h : X.length ≤ 200) : spec_l1Own.f X = some X := by
  unfold spec_l1Own.f
  simp only [Option.bind_some]
  rw [if_pos (by simp; omega)]
  rfl
theorem lev_cut {w1 : World} {base n f p : Nat} {vr : Value} {rot : List Nat} (h : w1.ownsRow base 3 1 vr n (nums .i64 (ints rot))) (hfit : f + p ≤ rot.length) {X : List Int} (hX : X = ints ((rot.drop f).take p)) :
    ∃ A c A', vr = .slice A n c ∧ (∀ W : World, (Instr.slice 34 (.slice A n c) (some (.int .i64 (f : Int))) (some (.int .i64 ((f : Int) + (p : Int)))) none).run Try.prog W = .ok (.slice A' X.length (c - f)) W) ∧
      Kd.C (Kd.int .i64) w1 A' X.length X ∧ X.length ≤ c - f := by
  have hn := row_len h
  obtain ⟨A, c, hv, hlc, hC⟩ := Kd.R_reads (own_R h)
  obtain ⟨i0, hi, hzz⟩ := Option.map_eq_some_iff.1 info3
  simp only [Prod.mk.injEq] at hzz
  have hl : (ints rot).length = n := by rw [ints_len]; exact hn
  have hXe : X = ((ints rot).take (f + p)).drop f := by
    rw [hX, List.drop_take]
    simp [ints, List.map_take, List.map_drop]
  have hXl : X.length = p := by rw [hX, ints_len]; simp; omega
  refine ⟨A, c, if c = f then A else A.map (·.add (f * 1)), by rw [hv, hl], fun W => ?_, ?_, by rw [hXl]; omega⟩
  · rw [cut_mid (P := Try.prog) 34 3 .i64 .i64 Try.underlying34 hi 1 hzz.2.1 A n c f ((f : Int) + (p : Int)) (by omega) (by omega) (by omega) (by omega) W]
    rw [Int.toNat_natCast, show ((f : Int) + (p : Int)).toNat - f = X.length by omega]
  · have := Kd.C_mid (lo := f) (hi := f + p) hC (by omega) (by omega) hlc
    rw [← hXe] at this
    exact this
set_option maxHeartbeats 4000000 in
set_option maxRecDepth 100000 in
theorem spec_RotorsOnLevel.yes (a0 a1 a2 a3 a4 : Int) (w : World) (hq : lasked a0 a1 a2 a3 a4 = true) : Calls Try.prog 39 #[.int .i64 a0, .int .i64 a1, .int .i64 a2, .int .i64 a3, .int .i64 a4] w (SlOut w (ints (rowOf a0 a1 a2 a3 a4)) true) := by
  obtain ⟨hb, b, d, l, f, p, rfl, rfl, rfl, hld, hd6, hb3, hL, hrow, hlen⟩ := lasked_is hq
  have HA := asked_eq b d a2 a3
  rw [hb] at HA
  replace HA := Aside0.mk HA
  have HI := (in_eq (l : Int) 0 ((d : Int) - 1)).1
  rw [decide_eq_true (show 0 ≤ (l : Int) ∧ (l : Int) ≤ (d : Int) - 1 by omega)] at HI
  replace HI := Aside0.mk HI
  have HG := fun W => go_asked b d a2 a3 W hb
  replace HG := Aside0.mk HG
  have hw : IntKind.i64.wrap ((d : Int) - 1) = (d : Int) - 1 := IntWalk.i64_in _ (by omega)
  rw [hrow]
  clear hq hb hrow
  generalize outS (b : Int) (d : Int) a2 a3 = S at *
  replace hlen := Aside0.mk hlen
  have HL := Aside0.mk hL
  have b2 := hL.b2
  have p1 := hL.p1
  obtain ⟨X, HX⟩ : ∃ X, X = ints ((S.rot.drop f).take p) := ⟨_, rfl⟩
  rw [← HX]
  have HXl : X.length ≤ 200 := by have := hL.few; rw [HX, ints_len, List.length_take]; omega
  replace HXl := Aside0.mk HXl
  replace HX := Aside0.mk HX
  have few := hL.few
  clear hL
  go_enter Try.func39, Try.ntmps39
  go_upto_if 27 with (first | (go_at_call 61; (with_reducible refine (spec_esAsked.calls 30 b d a2 a3 true _ HA.out).mono ?_); rintro e w' ⟨rfl, ⟨nd, rfl⟩⟩) | (go_at_call 71; (with_reducible refine (spec_l1In.calls l 0 ((d : Int) - 1) true _ HI.out).mono ?_); rintro e w' ⟨rfl, ⟨nd2, rfl⟩⟩))
  go_cut [12] (fun v12 wc => v12 = .int .i64 (f : Int) ∧ Aside0 (Below w.heap.size w wc))
  case first =>
    rcases Nat.eq_zero_or_pos l with h0 | h0
    · subst h0
      have hf := Aside0.mk (HL.out.zero rfl)
      go_wp2_with (fail)
      go_meet
      case rel => exact ⟨by rw [hf.out]; rfl, ⟨by repeat (first | exact Below.refl _ _ | apply pw_below_drewN)⟩⟩
    · have hf := HL.out.first h0
      have HP := Aside0.mk HL.out.power
      have e1 : ((p : Int) - 1) / ((b : Int) - 1) = (f : Int) := by
        rw [← hf, Int.natCast_ediv, Int.natCast_sub (by omega), Int.natCast_sub (by omega)]; rfl
      have e1 := Aside0.mk e1
      have hl : (0 : Int) < (l : Int) := by omega
      clear hf
      go_wp2_with (go_at_call 59; (with_reducible refine (spec_esPower.calls 30 b l p _ HP.out).mono ?_); rintro e w' ⟨rfl, ⟨nd3, rfl⟩⟩)
      go_meet
      case rel => exact ⟨by rw [← e1.out], ⟨by repeat (first | exact Below.refl _ _ | apply pw_below_drewN)⟩⟩
  case rest =>
    obtain ⟨rfl, HB⟩ := hcut
    have HP := Aside0.mk HL.out.power
    have HS := l1Own_eq X HXl.out
    replace HS := Aside0.mk HS
    have hw1 : IntKind.i64.wrap ((f : Int) + (p : Int)) = (f : Int) + (p : Int) := IntWalk.i64_in _ (by omega)
    go_upto_region 6 with (fail)
    go_region_with (first | (go_at_call 59; (with_reducible refine (spec_esPower.calls 30 b l p _ HP.out).mono ?_); rintro e w' ⟨rfl, ⟨nd3, rfl⟩⟩) | (go_at_call 63; obtain ⟨b1, d1, hc⟩ := HG.out _; refine hc.mono ?_; rintro e w1 ⟨g, vr, ve, vt, vv, rfl, hB, hF⟩; obtain ⟨A, cc, A1, rfl, hcu, hC, hle⟩ := lev_cut hF.r (by rw [hlen.out]; exact HL.out.fits) HX.out; have HC := Aside0.mk hC; have HLE := Aside0.mk hle; clear hC hle; have HF := Aside0.mk hF; have HLB := Aside0.mk hB; clear hB hF; have c := blk_cell HF.out.blk 3; simp at c) | (go_at_call 72; (with_reducible refine (spec_l1Own.calls _ _ X X _ (by first | exact HC.out | exact Kd.C_drewN HC.out _ | exact Kd.C_drew HC.out) HLE.out HS.out).mono ?_); rintro e w' ⟨v0, rfl, hR, hB2⟩; have HR := Aside0.mk hR; have HB2 := Aside0.mk hB2; clear hR hB2))
    all_goals go_wp2_with (fail)
    all_goals go_ret2
    all_goals exact slout_end (by repeat (first | exact HB.out | apply pw_below_drewN | apply below_drew)) HLB.out (by first | exact HB2.out | exact (pw_below_drewN (Below.refl _ _) _).trans HB2.out) (by first | exact HR.out | exact HR.out)
theorem spec_RotorsOnLevel.calls (a0 a1 a2 a3 a4 : Int) (r1 : List Int) (r2 : Bool) (w : World) (h : spec_RotorsOnLevel.f a0 a1 a2 a3 a4 = some (r1, r2)) :
    Calls Try.prog 39 #[.int .i64 a0, .int .i64 a1, .int .i64 a2, .int .i64 a3, .int .i64 a4] w fun e w' => ∃ v0_ : Value, e = .returned (.tuple #[v0_, .bool r2]) ∧ Kd.R (Kd.int .i64) 3 w' w.heap.size (fun _ => True) v0_ r1 ∧ Below w.heap.size w w' := by
  have e := Option.some.inj h
  injection e with e1 e2
  cases hq : lasked a0 a1 a2 a3 a4 with
  | true =>
    rw [hq] at e1 e2
    rw [if_pos rfl] at e1
    subst e1 e2
    exact spec_RotorsOnLevel.yes a0 a1 a2 a3 a4 w hq
  | false =>
    rw [hq] at e1 e2
    rw [if_neg (by decide)] at e1
    subst e1 e2
    refine spec_RotorsOnLevel.no a0 a1 a2 a3 a4 w hq ?_
    cases hb : asked a0 a1 a2 a3 with
    | false => exact .inr rfl
    | true =>
      have : branch a0 a1 ∧ 0 ≤ a2 ∧ a2 ≤ a0 ∧ 0 ≤ a3 ∧ a3 ≤ 200 := by simpa [asked] using hb
      have h1 := this.1
      unfold branch at h1
      exact .inl (by omega)

theorem row_len200 (a0 a1 a2 a3 a4 : Int) : (if lasked a0 a1 a2 a3 a4 = true then ints (rowOf a0 a1 a2 a3 a4) else []).length ≤ 200 := by
  split
  · rename_i h
    obtain ⟨_, b, d, l, f, p, rfl, rfl, rfl, _, _, _, hL, hr, _⟩ := lasked_is h
    have := hL.few
    rw [hr, ints_len, List.length_take]
    omega
  · decide
/-! ### The program's -/
theorem addr_plain {w : World} {ad : Addr} {v : Value} (h : w.cell? ad = some v) : ad = ⟨ad.block, ad.off, none⟩ := by
  obtain ⟨b, o, s⟩ := ad
  cases s with
  | none => rfl
  | some s =>
    simp only [World.cell?] at h
    split at h
    · simp at h
    · cases h
theorem clone_calls (A : Option Addr) (c : Nat) (l : List Int) (w : World) (hl : l.length ≤ 1000000) (hr : Kd.C (Kd.int .i64) w A l.length l) :
    Calls Try.prog 74 #[.slice A l.length c] w fun e w' => ∃ v, e = .returned v ∧ Kd.R (Kd.int .i64) 3 w' w.heap.size (fun _ => True) v l ∧ Below w.heap.size w w' := by
  rcases Nat.eq_zero_or_pos l.length with h0 | h0
  · obtain rfl : l = [] := List.eq_nil_of_length_eq_zero h0
    cases A with
    | none =>
      refine (Try.slices_Clone_int_nil 0 c w).mono ?_
      rintro e w' ⟨rfl, rfl⟩
      exact ⟨_, rfl, Kd.R_nil _ _ _ _ _, Below.refl _ _⟩
    | some a =>
      refine (Try.slices_Clone_int_zero a c w).mono ?_
      rintro e w' ⟨v, rfl, ho, _, hB⟩
      exact ⟨v, rfl, Kd.R_of_own ho (fun _ _ => trivial), hB⟩
  · have hcell : ∀ j, j < l.length → ∃ ad, A = some ad ∧ w.cell? (ad.add j) = some (.int .i64 (l.getD j 0)) := fun j hj => by
      obtain ⟨ad, e, hc⟩ := Kd.at_int hr (j : Int) (by omega) (by omega)
      rw [Int.toNat_natCast] at hc
      exact ⟨ad, e, by simpa [rd] using hc⟩
    obtain ⟨ad, rfl, hc0⟩ := hcell 0 h0
    have hpl : ad = ⟨ad.block, ad.off, none⟩ := addr_plain (by simpa [Addr.add] using hc0)
    have hc : ∀ j, j < l.length → w.cell? ⟨ad.block, ad.off + j, none⟩ = some (.int .i64 (l.getD j 0)) := fun j hj => by
      obtain ⟨ad', e, hc⟩ := hcell j hj
      injection e with e
      subst e
      rw [← hc]
      congr 1
      unfold Addr.add
      split
      · rename_i h; subst h; exact hpl.symm
      · rfl
    rw [hpl]
    refine (Try.slices_Clone_int ad.block ad.off l.length c l w (Nat.le_refl _) (by omega) hc).mono ?_
    rintro e w' ⟨v, rfl, ho, _, hB⟩
    rw [List.take_of_length_le (Nat.le_refl _)] at ho
    exact ⟨v, rfl, Kd.R_of_own ho (fun _ _ => trivial), hB⟩
def impl_RotorsOnLevel.f (a0 a1 a2 a3 a4 : Int) : Option (List Int × Bool) := some (if lasked a0 a1 a2 a3 a4 = true then ints (rowOf a0 a1 a2 a3 a4) else [], lasked a0 a1 a2 a3 a4)
set_option maxHeartbeats 4000000 in
set_option maxRecDepth 100000 in
theorem impl_RotorsOnLevel.no (a0 a1 a2 a3 a4 : Int) (w : World) (hq : lasked a0 a1 a2 a3 a4 = false) (h1 : 0 ≤ a1 ∧ a1 ≤ 100 ∨ asked a0 a1 a2 a3 = false) : Calls Try.prog 40 #[.int .i64 a0, .int .i64 a1, .int .i64 a2, .int .i64 a3, .int .i64 a4] w (SlOut w [] false) := by
  have HI := (in_eq a4 0 (a1 - 1)).2
  unfold lasked at hq
  cases hb : asked a0 a1 a2 a3 with
  | false =>
    have HA := fun W => forest_not a0 a1 a2 a3 W hb
    replace HA := Aside0.mk HA
    clear hq hb h1 HI
    go_enter Try.func40, Try.ntmps40
    go_wp2_with (go_at_call 66; refine (HA.out _).mono ?_; rintro e w' ⟨rfl, hB⟩; have HB := Aside0.mk hB; clear hB)
    go_ret2
    exact slout_no _ _ HB.out
  | true =>
    rw [hb] at hq h1
    have h2 : decide (0 ≤ a4 ∧ a4 ≤ a1 - 1) = false := by simpa using hq
    rw [h2] at HI
    replace HI := Aside0.mk HI
    have h3 : 0 ≤ a1 ∧ a1 ≤ 100 := by simpa using h1
    have hw : IntKind.i64.wrap (a1 - 1) = a1 - 1 := IntWalk.i64_in _ (by omega)
    obtain ⟨b1, d1, hi0, hi9, HB⟩ := forest_all a0 a1 a2 a3 hb
    replace HB := Aside0.mk HB
    clear hq hb h1 h2 h3
    go_enter Try.func40, Try.ntmps40
    go_wp2_with (first | (go_at_call 66; refine (HB.out _).mono ?_; rintro e w1 ⟨g, vr, ve, vt, vv, rfl, hB, hF⟩; have HF := Aside0.mk hF; have HL := Aside0.mk hB; clear hB hF) | (go_at_call 73; (with_reducible refine (pay_in a4 0 (a1 - 1) _ _ HI.out).mono ?_); rintro e w' ⟨rfl, ⟨nd2, rfl⟩⟩))
    go_ret2
    exact slout_no _ _ (pw_below_drewN HL.out _)
set_option maxHeartbeats 4000000 in
set_option maxRecDepth 100000 in
theorem impl_RotorsOnLevel.yes (a0 a1 a2 a3 a4 : Int) (w : World) (hq : lasked a0 a1 a2 a3 a4 = true) : Calls Try.prog 40 #[.int .i64 a0, .int .i64 a1, .int .i64 a2, .int .i64 a3, .int .i64 a4] w (SlOut w (ints (rowOf a0 a1 a2 a3 a4)) true) := by
  obtain ⟨hb, b, d, l, f, p, rfl, rfl, rfl, hld, hd6, hb3, hL, hrow, hlen⟩ := lasked_is hq
  have HI := (in_eq (l : Int) 0 ((d : Int) - 1)).2
  rw [decide_eq_true (show 0 ≤ (l : Int) ∧ (l : Int) ≤ (d : Int) - 1 by omega)] at HI
  replace HI := Aside0.mk HI
  obtain ⟨b1, d1, hi0, hi9, HG⟩ := forest_all b d a2 a3 hb
  replace HG := Aside0.mk HG
  have hw : IntKind.i64.wrap ((d : Int) - 1) = (d : Int) - 1 := IntWalk.i64_in _ (by omega)
  rw [hrow]
  clear hq hb hrow
  generalize outS (b : Int) (d : Int) a2 a3 = S at *
  obtain ⟨X, HX⟩ : ∃ X, X = ints ((S.rot.drop f).take p) := ⟨_, rfl⟩
  rw [← HX]
  have HXl : X.length ≤ 200 := by have := hL.few; rw [HX, ints_len, List.length_take]; omega
  replace HXl := Aside0.mk HXl
  replace HX := Aside0.mk HX
  replace hlen := Aside0.mk hlen
  have HL := Aside0.mk hL
  have b2 := hL.b2
  have p1 := hL.p1
  have few := hL.few
  have HP := Aside0.mk HL.out.power2
  have HN := Aside0.mk HL.out.nodes
  clear hL
  have hw1 : IntKind.i64.wrap (((f + p : Nat) : Int) - (p : Int)) = (f : Int) := by rw [show ((f + p : Nat) : Int) - (p : Int) = (f : Int) by omega]; exact IntWalk.i64_in _ (by omega)
  rw [show ((f + p : Nat) : Int) = (f : Int) + (p : Int) by omega] at hw1
  have hw2 : IntKind.i64.wrap (f : Int) = (f : Int) := IntWalk.i64_in _ (by omega)
  have HN2 : impl_nodesOf.f 30 (b : Int) (l : Int) = some ((f : Int) + (p : Int)) := by rw [HN.out]; simp
  replace HN2 := Aside0.mk HN2
  go_enter Try.func40, Try.ntmps40
  go_upto_region 4 with (first | (go_at_call 66; refine (HG.out _).mono ?_; rintro e w1 ⟨g, vr, ve, vt, vv, rfl, hB, hF⟩; obtain ⟨A, cc, A1, rfl, hcu, hC, hle⟩ := lev_cut hF.r (by rw [hlen.out]; exact HL.out.fits) HX.out; have HC := Aside0.mk hC; have HLE := Aside0.mk hle; clear hC hle; have HF := Aside0.mk hF; have HLB := Aside0.mk hB; clear hB hF) | (go_at_call 73; (with_reducible refine (pay_in l 0 ((d : Int) - 1) _ _ HI.out).mono ?_); rintro e w' ⟨rfl, ⟨nd2, rfl⟩⟩))
  have c := blk_cell HF.out.blk 2
  simp at c
  go_region_with (first | (go_at_call 57; (with_reducible refine (impl_nodesOf.calls 30 b l _ _ HN2.out).mono ?_); rintro e w' ⟨rfl, ⟨nq, rfl⟩⟩) | (go_at_call 75; (with_reducible refine (impl_power.calls 30 b l p _ HP.out).mono ?_); rintro e w' ⟨rfl, ⟨nq, rfl⟩⟩) | (go_at_call 74; refine (clone_calls A1 _ X _ (by have := HXl.out; omega) (by first | exact HC.out | exact Kd.C_drewN HC.out _ | exact Kd.C_drew HC.out)).mono ?_; rintro e w' ⟨v0, rfl, hR, hB2⟩; have HR := Aside0.mk hR; have HB2 := Aside0.mk hB2; clear hR hB2))
  all_goals go_wp2_with (fail)
  all_goals go_ret2
  all_goals exact slout_end (Below.refl _ _) (by repeat (first | exact HLB.out | apply pw_below_drewN | apply below_drew)) HB2.out HR.out
theorem impl_RotorsOnLevel.calls (a0 a1 a2 a3 a4 : Int) (r1 : List Int) (r2 : Bool) (w : World) (h : impl_RotorsOnLevel.f a0 a1 a2 a3 a4 = some (r1, r2)) :
    Calls Try.prog 40 #[.int .i64 a0, .int .i64 a1, .int .i64 a2, .int .i64 a3, .int .i64 a4] w fun e w' => ∃ v0_ : Value, e = .returned (.tuple #[v0_, .bool r2]) ∧ Kd.R (Kd.int .i64) 3 w' w.heap.size (fun _ => True) v0_ r1 ∧ Below w.heap.size w w' := by
  have e := Option.some.inj h
  injection e with e1 e2
  cases hq : lasked a0 a1 a2 a3 a4 with
  | true =>
    rw [hq] at e1 e2
    rw [if_pos rfl] at e1
    subst e1 e2
    exact impl_RotorsOnLevel.yes a0 a1 a2 a3 a4 w hq
  | false =>
    rw [hq] at e1 e2
    rw [if_neg (by decide)] at e1
    subst e1 e2
    refine impl_RotorsOnLevel.no a0 a1 a2 a3 a4 w hq ?_
    cases hb : asked a0 a1 a2 a3 with
    | false => exact .inr rfl
    | true =>
      have : branch a0 a1 ∧ 0 ≤ a2 ∧ a2 ≤ a0 ∧ 0 ≤ a3 ∧ a3 ≤ 200 := by simpa [asked] using hb
      have h1 := this.1
      unfold branch at h1
      exact .inl (by omega)
end Go.Proofs.Ytmechelmnpoddaa.H7
