/-
  The reference's TurnedEscapes and EscapeGap, by contracts in the print's own form.
-/
import Derived.Test.YtmechelmnpoddaaHg
namespace Go.Proofs.Ytmechelmnpoddaa.H7
open Go.RowKit Go.Proofs.YtmechelmnpoddaaW.PrintWords Go.Proofs.YtmechelmnpoddaaW.PrintLast Go.Proofs.YtmechelmnpoddaaW.PrintMore
open Go.Proofs.Ytmechelmnpoddaa.A7
open Es (nth)
set_option linter.unusedVariables false
set_option linter.unusedSimpArgs false

/-! ### EscapeGap -/
/-- The size of a number, as both sides reckon it. -/
def absW (x : Int) : Int := if x > wrap64 (-x) then x else wrap64 (-x)
theorem l1Abs_eq (x : Int) : spec_l1Abs.f x = some (absW x) := by
  unfold spec_l1Abs.f spec_l1Most.f absW
  split <;> rfl
def gapNum (a0 a1 a2 a3 : Int) (p : Int) : Int := absW (wrap64 (wrap64 (sumE a0 a1 a2 a3 * wrap64 (wrap64 (a0 * p) - 1)) - wrap64 (a3 * wrap64 (wrap64 (a0 - 1) * p))))
def spec_EscapeGap.f (k : Nat) (a0 a1 a2 a3 : Int) : Option (Int × Int × Bool) :=
  if asked a0 a1 a2 a3 = true then (spec_esPower.f 30 a0 a1).bind fun p => (spec_hiRatio.f k (gapNum a0 a1 a2 a3 p) (wrap64 (wrap64 (a0 * p) - 1))).bind fun r => some (r.1, r.2, true) else some (0, 0, false)
theorem spec_EscapeGap.mono : ∀ a0 a1 a2 a3 k, LeO (spec_EscapeGap.f k a0 a1 a2 a3) (spec_EscapeGap.f (k + 1) a0 a1 a2 a3) := by
  intro a0 a1 a2 a3 k
  unfold spec_EscapeGap.f
  split
  · exact LeO.bind (LeO.refl _) (fun _ => LeO.bind (spec_hiRatio.mono _ _ _) (fun _ => LeO.refl _))
  · exact LeO.refl _
set_option maxHeartbeats 4000000 in
set_option maxRecDepth 100000 in
theorem spec_EscapeGap.calls (k : Nat) (a0 a1 a2 a3 : Int) (r1 r2 : Int) (r3 : Bool) (w : World) (h : spec_EscapeGap.f k a0 a1 a2 a3 = some (r1, r2, r3)) :
    Calls Try.prog 43 #[.int .i64 a0, .int .i64 a1, .int .i64 a2, .int .i64 a3] w fun e w' => e = .returned (.tuple #[.agg #[.int .i64 r1, .int .i64 r2], .bool r3]) ∧ Below w.heap.size w w' := by
  have HA := Aside0.mk (asked_eq a0 a1 a2 a3)
  unfold spec_EscapeGap.f at h
  have hu26 := Try.underlying26
  cases hq : asked a0 a1 a2 a3 with
  | false =>
    rw [hq] at HA h
    rw [if_neg (by decide)] at h
    obtain ⟨rfl, rfl, rfl⟩ : 0 = r1 ∧ 0 = r2 ∧ false = r3 := by simpa using h
    clear hq h
    go_enter Try.func43, Try.ntmps43
    go_wp2_with (go_at_call 61; (with_reducible refine (spec_esAsked.calls 30 a0 a1 a2 a3 false _ HA.out).mono ?_); rintro e w' ⟨rfl, ⟨nd, rfl⟩⟩)
    refine bodyPost_ret (v := .tuple #[.agg #[.int .i64 0, .int .i64 0], .bool false]) (by simp [results, Try.results43, go_sem]) rfl ⟨rfl, ?_⟩
    repeat (first | exact Below.refl _ _ | apply pw_below_drewN | apply below_alloc | (refine below_set ?_ ?_))
    all_goals simp
  | true =>
    rw [hq] at HA h
    rw [if_pos rfl] at h
    obtain ⟨p, hp, h⟩ := Option.bind_eq_some_iff.1 h
    obtain ⟨⟨u, v⟩, hu, h⟩ := Option.bind_eq_some_iff.1 h
    obtain ⟨rfl, rfl, rfl⟩ : u = r1 ∧ v = r2 ∧ true = r3 := by simpa using h
    have HP := Aside0.mk hp
    have HB := fun W => go_asked a0 a1 a2 a3 W hq
    replace HB := Aside0.mk HB
    have hse : sumI (ints (outS a0 a1 a2 a3).ends) = sumE a0 a1 a2 a3 := rfl
    have HS := chSum_eq (ints (outS a0 a1 a2 a3).ends) (by have := (out_len hq).1; rw [ints_len]; omega) (by have := ends_abs hq; omega)
    rw [hse] at HS
    replace HS := Aside0.mk HS
    unfold gapNum at hu
    generalize sumE a0 a1 a2 a3 = sm at *
    have HT := Aside0.mk (l1Abs_eq (wrap64 (wrap64 (sm * wrap64 (wrap64 (a0 * p) - 1)) - wrap64 (a3 * wrap64 (wrap64 (a0 - 1) * p)))))
    have HU := Aside0.mk hu
    generalize absW (wrap64 (wrap64 (sm * wrap64 (wrap64 (a0 * p) - 1)) - wrap64 (a3 * wrap64 (wrap64 (a0 - 1) * p)))) = nm at *
    clear hq h hp hu hse
    go_enter Try.func43, Try.ntmps43
    go_wp2_with (first | (go_at_call 61; (with_reducible refine (spec_esAsked.calls 30 a0 a1 a2 a3 true _ HA.out).mono ?_); rintro e w' ⟨rfl, ⟨nd, rfl⟩⟩) | (go_at_call 59; (with_reducible refine (spec_esPower.calls 30 a0 a1 p _ HP.out).mono ?_); rintro e w' ⟨rfl, ⟨nd3, rfl⟩⟩) | (go_at_call 63; obtain ⟨b1, d1, hc⟩ := HB.out _; refine hc.mono ?_; rintro e w1 ⟨g, vr, ve, vt, vv, rfl, hB, hF⟩; obtain ⟨A, cA, rfl, hle, hC⟩ := Kd.R_reads (own_R hF.e); have HF := Aside0.mk hF; have HC := Aside0.mk hC; have HL := Aside0.mk hB; have BK := Aside0.mk ((hB.block w.heap.size (by simp)).trans (blk_new w (.cells #[.int .i64 0, .int .i64 0] 26))); have hz := hB.size; simp at hz; clear hB hF hC; have c := blk_cell HF.out.blk 4; simp at c) | (go_at_call 62; (with_reducible refine (spec_chSum.calls _ A cA _ _ _ HC.out hle HS.out).mono ?_); rintro e w' ⟨rfl, ⟨nd2, rfl⟩⟩) | (go_at_call 76; (with_reducible refine (spec_l1Abs.calls _ nm _ HT.out).mono ?_); rintro e w' ⟨rfl, ⟨nd4, rfl⟩⟩) | (go_at_call 58; (with_reducible refine (spec_hiRatio.calls k _ _ u v _ HU.out).mono ?_); rintro e w2 ⟨rfl, hB2⟩; have BK2 := (hB2.block w.heap.size (by simp; omega)).trans BK.out; have k0 := blk_cell BK2 0; have k1 := blk_cell BK2 1; have fz := blk_frozen BK2; simp at k0 k1; have BK2 := Aside0.mk BK2; have HB2 := Aside0.mk hB2; clear hB2))
    refine bodyPost_ret (v := .tuple #[.agg #[.int .i64 u, .int .i64 v], .bool true]) (by simp [results, Try.results43, go_sem, k0, k1]) rfl ⟨rfl, ?_⟩
    refine below_set (below_set ?_ (Nat.le_refl _)) (Nat.le_refl _)
    exact below_then (by repeat (first | apply pw_below_drewN | exact below_then (by repeat (first | exact Below.refl _ _ | apply pw_below_drewN | apply below_alloc)) (by simp) HL.out)) (by simp; omega) HB2.out

/-! ### TurnedEscapes -/
theorem own_len {W : World} {base n : Nat} {v : Value} {l : List Int} (m : Nat) (h : W.ownsRow base 3 1 v n (nums .i64 l)) : (W.drewN m).ownsRow base 3 1 v l.length (nums .i64 l) := by
  have e : l.length = n := by have := h.1; simp [nums] at this; exact this
  rw [e]; exact h
theorem own_R_of {W : World} {base n : Nat} {v : Value} {l : List Int} (h : W.ownsRow base 3 1 v n (nums .i64 l)) : Kd.R (Kd.int .i64) 3 W base (fun _ => True) v l := Kd.R_of_own (own_len 0 h) (fun _ _ => trivial)
def turnedL (a0 a1 a2 : Int) : List Int := (List.range (a0.toNat + 1)).map fun (k : Nat) => sumE a0 a1 (k : Int) a2
def spec_TurnedEscapes.f (a0 a1 a2 : Int) : Option (List Int × Bool) := some (if asked a0 a1 0 a2 = true then turnedL a0 a1 a2 else [], asked a0 a1 0 a2)
theorem asked_turn {b d n : Int} (h : asked b d 0 n = true) {k : Int} (h0 : 0 ≤ k) (h1 : k ≤ b) : asked b d k n = true := by
  have h' : branch b d ∧ (0 : Int) ≤ 0 ∧ 0 ≤ b ∧ 0 ≤ n ∧ n ≤ 200 := by simpa [asked] using h
  simp only [asked, decide_eq_true_eq]
  exact ⟨h'.1, h0, h1, h'.2.2.2⟩
set_option maxHeartbeats 4000000 in
set_option maxRecDepth 100000 in
theorem spec_TurnedEscapes.walk (a0 a1 a2 : Int) (w : World) : Calls Try.prog 41 #[.int .i64 a0, .int .i64 a1, .int .i64 a2] w (SlOut w (if asked a0 a1 0 a2 = true then turnedL a0 a1 a2 else []) (asked a0 a1 0 a2)) := by
  have HA := asked_eq a0 a1 0 a2
  cases hq : asked a0 a1 0 a2 with
  | false =>
    rw [hq] at HA
    replace HA := Aside0.mk HA
    rw [if_neg (by decide)]
    clear hq
    go_enter Try.func41, Try.ntmps41
    go_wp2_with (go_at_call 61; (with_reducible refine (spec_esAsked.calls 30 a0 a1 0 a2 false _ HA.out).mono ?_); rintro e w' ⟨rfl, ⟨nd, rfl⟩⟩)
    go_ret2
    exact slout_no _ _ (pw_below_drewN (Below.refl _ _) _)
  | true =>
    have hb : branch a0 a1 ∧ (0 : Int) ≤ 0 ∧ 0 ≤ a0 ∧ 0 ≤ a2 ∧ a2 ≤ 200 := by simpa [asked] using hq
    obtain ⟨b, rfl⟩ := Int.eq_ofNat_of_zero_le hb.2.2.1
    have hb3 : b ≤ 3 := by have := hb.1; unfold branch at this; omega
    clear hb
    have HB := fun (k : Int) (h0 : 0 ≤ k) (h1 : k ≤ (b : Int)) W => go_asked b a1 k a2 W (asked_turn hq h0 h1)
    replace HB := Aside0.mk HB
    have HS := fun (k : Int) (h0 : 0 ≤ k) (h1 : k ≤ (b : Int)) => (show spec_chSum.f ((ints (outS b a1 k a2).ends).length + 1) (ints (outS b a1 k a2).ends) = some (sumE b a1 k a2) from chSum_eq _ (by have := (out_len (asked_turn hq h0 h1)).1; rw [ints_len]; omega) (by have := ends_abs (asked_turn hq h0 h1); omega))
    replace HS := Aside0.mk HS
    obtain ⟨T, hT⟩ : ∃ T, T = turnedL b a1 a2 := ⟨_, rfl⟩
    have hTl : T.length = b + 1 := by rw [hT]; simp [turnedL]
    have hTi : ∀ i : Nat, i ≤ b → T.take (i + 1) = T.take i ++ [sumE b a1 (i : Int) a2] := fun i hi => by
      rw [List.take_succ_eq_append_getElem (by omega)]
      simp [hT, turnedL]
    rw [hq] at HA
    replace HA := Aside0.mk HA
    rw [if_pos rfl, ← hT]
    replace hTl := Aside0.mk hTl
    replace hTi := Aside0.mk hTi
    clear hq hT
    go_enter Try.func41, Try.ntmps41
    go_wp2_with (go_at_call 61; (with_reducible refine (spec_esAsked.calls 30 b a1 0 a2 true _ HA.out).mono ?_); rintro e w' ⟨rfl, ⟨nd, rfl⟩⟩)
    go_loopg [8, 9] (b + 1) (fun kq v8 v9 wr => ∃ i : Nat, v9 = .int .i64 (i : Int) ∧ Aside0 (i + kq = b + 1) ∧ Aside0 (wr.ownsRow w.heap.size 3 1 v8 i (nums .i64 (T.take i))) ∧ Aside0 (Below w.heap.size w wr))
    case atStart => exact ⟨0, rfl, ⟨by omega⟩, ⟨own_nil _ _ _ _⟩, ⟨pw_below_drewN (Below.refl _ _) _⟩⟩
    case round =>
      obtain ⟨i, rfl, HI, HO, HL⟩ := hrel
      by_cases hlt : i ≤ b
      · have hlt' : (i : Int) ≤ (b : Int) := by omega
        obtain ⟨kq, rfl⟩ : ∃ m, gk = m + 1 := ⟨gk - 1, by have := HI.out; omega⟩
        have HS1 := Aside0.mk (HS.out (i : Int) (by omega) hlt')
        have hTi1 := hTi.out i hlt
        replace hTi1 := Aside0.mk hTi1
        have hc := HB.out (i : Int) (by omega) hlt' wr
        obtain ⟨b1, d1, hc⟩ := hc
        generalize outS (b : Int) a1 (i : Int) a2 = S at *
        replace hc := Aside0.mk hc
        generalize sumE (b : Int) a1 (i : Int) a2 = sm at *
        go_upto_region 7 with (fail)
        go_wp2_with (first | (go_at_call 63; refine hc.out.mono ?_; rintro e w1 ⟨g, vr, ve, vt, vv, rfl, hB, hF⟩; obtain ⟨A, cA, rfl, hle, hC⟩ := Kd.R_reads (own_R hF.e); have HF := Aside0.mk hF; have HC := Aside0.mk hC; have HO2 := Aside0.mk (pw_own_below HO.out hB); have HL2 := Aside0.mk (below_then HL.out HL.out.size hB); clear hB hF hC; have c := blk_cell HF.out.blk 4; simp at c) | (go_at_call 62; ((with_reducible refine (spec_chSum.calls _ A cA _ sm _ HC.out hle HS1.out).mono ?_); rintro e w' ⟨rfl, ⟨nd2, rfl⟩⟩; have HO3 := Aside0.mk (own_len nd2 HO2.out); have HL3 := Aside0.mk (pw_below_drewN HL2.out nd2))) | (at_builtin; refine print_append_num (w0 := w) w.heap.size rfl (.tmp 20) (.tmp 30) 34 3 .i64 8 rfl Try.underlying34 info3 (by decide) _ (T.take i) sm rfl rfl HO3.out HL3.out HL3.out.size (by rw [List.length_take, hTl.out]; omega) ?_; intro v1 w2 hown hbel hg hat; have HO4 := Aside0.mk hown; have HL4 := Aside0.mk hbel; clear hown hbel hg hat))
        go_roundg kq
        case measure => omega
        case rel => exact ⟨i + 1, by go_num, ⟨by have := HI.out; omega⟩, ⟨by have h := HO4.out; rw [hTi1.out]; have e : (T.take i ++ [sm]).length = i + 1 := (by rw [List.length_append, List.length_take, hTl.out, List.length_singleton]; omega); rw [e] at h; exact h⟩, HL4⟩
      · have hi : i = b + 1 := by have := HI.out; omega
        have hlt' : ¬ (i : Int) ≤ (b : Int) := by omega
        have HO' := HO.out
        rw [List.take_of_length_le (by rw [hTl.out]; omega)] at HO'
        have HR := Aside0.mk (own_R_of HO')
        clear hi HO'
        go_wp2_with (fail)
        go_ret2
        exact ⟨_, rfl, HR.out, HL.out⟩
theorem spec_TurnedEscapes.calls (a0 a1 a2 : Int) (r1 : List Int) (r2 : Bool) (w : World) (h : spec_TurnedEscapes.f a0 a1 a2 = some (r1, r2)) :
    Calls Try.prog 41 #[.int .i64 a0, .int .i64 a1, .int .i64 a2] w fun e w' => ∃ v0_ : Value, e = .returned (.tuple #[v0_, .bool r2]) ∧ Kd.R (Kd.int .i64) 3 w' w.heap.size (fun _ => True) v0_ r1 ∧ Below w.heap.size w w' := by
  have e := Option.some.inj h
  injection e with e1 e2
  subst e1 e2
  exact spec_TurnedEscapes.walk a0 a1 a2 w
end Go.Proofs.Ytmechelmnpoddaa.H7
