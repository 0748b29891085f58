/-
  The greatest square of a grown cell, and a chip's cell: of both sides, walked.
-/
import Derived.Test.YtjedhjeijpbobaaFd
namespace Go.Proofs.Ytjedhjeijpbobaa.G8
open Go.RowKit Go.Maps Go.Proofs.YtjedhjeijpbobaaW.PrintWords Go.Proofs.YtjedhjeijpbobaaW.PrintLast Go.Proofs.YtjedhjeijpbobaaW.PrintMore
open Go.Proofs.Ytjedhjeijpbobaa.GA
set_option linter.unusedVariables false
set_option linter.unusedSimpArgs false
def toS (c : Int × Int) : S76 := ⟨c.1, c.2⟩
theorem reps_flat (w : World) : ∀ cs : List (Int × Int), Reps (fun p c => k76.K w p c) 2 (cs.map toS) (flat cs)
  | [] => Reps.none _ _
  | c :: cs => by
    have h := Kd.reps_append (ps := [toS c]) (cs := [.int .i64 c.1, .int .i64 c.2]) (R := fun p c => k76.K w p c) (size := 2) ⟨rfl, fun j p hj => by
      match j, hj with
      | 0, hj => simp at hj; subst hj; exact k76_mk w _
      | j + 1, hj => simp at hj⟩ (reps_flat w cs)
    exact h
theorem GroAt.reads {w : World} {base g gm N : Nat} {vc : Value} {F : Fld} {cs : List (Int × Int)} {s : Int} (h : GroAt w base g gm N vc F cs s) : ∃ A c, vc = .slice A cs.length c ∧ cs.length ≤ c ∧ Kd.C k76 w A cs.length (cs.map toS) := by
  obtain ⟨A, c, he, hr⟩ := own_reads_row h.cells (reps_flat w cs) (by simp)
  refine ⟨A, c, he, ?_, hr⟩
  rcases h.cells.2 with ⟨h1, h2⟩ | ⟨g, cap, cur, h1, _, _, h3, _⟩
  · rw [h1] at he
    injection he with _ e2 e3
    omega
  · rw [h1] at he
    injection he with _ e2 e3
    omega
def sq (c : Int × Int) : Int := c.1 * c.1 + c.2 * c.2
def sqF (m : Int) (cs : List (Int × Int)) : Int := cs.foldl (fun m c => if m > sq c then m else sq c) m
theorem sq_box {c : Int × Int} (h : -15 ≤ c.1 ∧ c.1 ≤ 15 ∧ -15 ≤ c.2 ∧ c.2 ≤ 15) : wrap64 (c.1 * c.1) = c.1 * c.1 ∧ wrap64 (c.2 * c.2) = c.2 * c.2 ∧ wrap64 (c.1 * c.1 + c.2 * c.2) = sq c ∧ 0 ≤ sq c ∧ sq c ≤ 200000 := by
  have h1 := sq_bd c.1 (by omega) (by omega)
  have h2 := sq_bd c.2 (by omega) (by omega)
  unfold sq
  generalize c.1 * c.1 = a at *
  generalize c.2 * c.2 = b at *
  exact ⟨wrap_id (by omega) (by omega), wrap_id (by omega) (by omega), wrap_id (by omega) (by omega), by omega, by omega⟩
theorem greatest_l0 (cs : List (Int × Int)) (hl : cs.length ≤ 1000) (hb : ∀ c ∈ cs, -15 ≤ c.1 ∧ c.1 ≤ 15 ∧ -15 ≤ c.2 ∧ c.2 ≤ 15) : ∀ (m i : Nat) (a : Int), i + m = cs.length → impl_greatest.l0 (m + 1) a (cs.map toS) (cs.length : Int) (i : Int) = some (sqF a (cs.drop i)) := by
  intro m
  induction m with
  | zero =>
    intro i a h
    simp only [impl_greatest.l0]
    rw [if_neg (by omega), List.drop_eq_nil_of_le (by omega)]
    rfl
  | succ m ih =>
    intro i a h
    unfold impl_greatest.l0
    have hi : i < cs.length := by omega
    rw [if_pos (by omega), if_pos (by omega), if_pos (by rw [List.length_map]; omega)]
    have e : rd_T76 (cs.map toS) (i : Int) = toS cs[i] := by
      unfold rd_T76
      rw [Int.toNat_natCast, List.getD_eq_getElem?_getD, List.getElem?_map, List.getElem?_eq_getElem hi]
      rfl
    obtain ⟨h1, h2, h3, h4, h5⟩ := sq_box (hb _ (List.getElem_mem hi))
    have e2 : impl_cell_square.f (toS cs[i]).f0 (toS cs[i]).f1 = some (sq cs[i]) := by
      unfold impl_cell_square.f toS
      simp only
      rw [h1, h2, h3]
    rw [e, e2, Option.bind_some, wrap_id (x := (i : Int) + 1) (by omega) (by omega)]
    have := ih (i + 1) (mx a (sq cs[i])) (by omega)
    rw [show ((i + 1 : Nat) : Int) = (i : Int) + 1 by omega] at this
    rw [this, List.drop_eq_getElem_cons hi]
    have e3 : mx a (sq cs[i]) = if a > sq cs[i] then a else sq cs[i] := by
      unfold mx
      by_cases q : a < sq cs[i]
      · rw [if_pos q, if_neg (by omega)]
      · by_cases q2 : a > sq cs[i]
        · rw [if_neg q, if_pos q2]
        · rw [if_neg q, if_neg q2]; omega
    rw [e3]
    rfl
theorem greatest_any {cs : List (Int × Int)} (hl : cs.length ≤ 1000) (hb : ∀ c ∈ cs, -15 ≤ c.1 ∧ c.1 ≤ 15 ∧ -15 ≤ c.2 ∧ c.2 ≤ 15) (W : World) (A : Option Addr) (n c : Nat) (hn : n = cs.length) (hc : n ≤ c) (h : Kd.C k76 W A n (cs.map toS)) : Calls Try.prog 76 #[.slice A n c] W fun e w' => e = .returned (.int .i64 (sqF 0 cs)) ∧ Below W.heap.size W w' := by
  have e : n = (cs.map toS).length := by rw [List.length_map]; exact hn
  subst e
  refine impl_greatest.calls (cs.length + 1) A c (cs.map toS) _ W h hc ?_
  unfold impl_greatest.f
  rw [List.length_map]
  exact greatest_l0 cs hl hb cs.length 0 0 (by omega)
theorem most_quiet (a : Int) (c : Int × Int) (h : -15 ≤ c.1 ∧ c.1 ≤ 15 ∧ -15 ≤ c.2 ∧ c.2 ≤ 15) (W : World) : Calls Try.prog 75 #[.int .i64 a, .int .i64 (IntKind.i64.wrap (IntKind.i64.wrap (c.1 * c.1) + IntKind.i64.wrap (c.2 * c.2)))] W fun e w' => e = .returned (.int .i64 (if a > sq c then a else sq c)) ∧ ∃ m, w' = W.drewN m := by
  obtain ⟨s1, s2, s3, _, _⟩ := sq_box h
  rw [i64_w, i64_w, i64_w, s1, s2, s3]
  exact (spec_l1Most.calls a (sq c) _ W (most_eq a (sq c))).mono fun e w' h => ⟨h.1, h.2.out⟩
def outerV (n k : Int) : Int := if okGrid n k = true ∧ n ≠ 0 then sqF 0 (gridS n k).cells else 0
def okOuter (n k : Int) : Bool := okGrid n k && !decide (n = 0)
theorem GwAt.form {w : World} {base f gb rb : Nat} {vc : Value} {F : Fld} {k0 : Int} {cs : List (Int × Int)} {s : Int} (h : GwAt w base f gb rb vc F k0 cs s) (hp : 0 < cs.length) :
    ∃ g cap, vc = .slice (some ⟨g, 0, none⟩) cs.length cap ∧ ∀ (i : Nat) (c : Int × Int), cs[i]? = some c → ∃ b, w.cell? ⟨g, i, none⟩ = some (.slice (some ⟨b, 0, none⟩) 2 2) ∧ base ≤ b ∧ w.heap[b]? = some (.cells #[.int .i64 c.1, .int .i64 c.2] 3 (0, 0)) := by
  obtain ⟨L, hL, hE⟩ := h.cells
  rcases hL.2 with ⟨_, h2⟩ | ⟨g, cap, cur, h1, _, hh, h3, _, h5, h6⟩
  · omega
  · refine ⟨g, cap, h1, fun i c hc => ?_⟩
    obtain ⟨b, q1, q2, q3⟩ := hE i c hc
    refine ⟨b, (blk_cell hh i).trans ?_, q2, q3⟩
    rw [← h6, List.getElem?_take] at q1
    split at q1
    · simpa using q1
    · cases q1
theorem pairR {w : World} {base b : Nat} {x y : Int} (hb : base ≤ b) (h : w.heap[b]? = some (.cells #[.int .i64 x, .int .i64 y] 3 (0, 0))) : Kd.R (Kd.int .i64) 3 w base (fun _ => True) (.slice (some ⟨b, 0, none⟩) 2 2) [x, y] :=
  Kd.R_of_own ⟨rfl, .inr ⟨b, 2, _, rfl, hb, h, Nat.le_refl _, by unfold maxLen; simp, rfl, rfl⟩⟩ (fun _ _ => trivial)
def spec_OuterSquare.f (n k : Int) : Option (Int × Bool) := some (outerV n k, okOuter n k)
def impl_OuterSquare.f (n k : Int) : Option (Int × Bool) := some (outerV n k, okOuter n k)
theorem out0 {n k : Int} (h : okGrid n k = false) : outerV n k = 0 ∧ okOuter n k = false := by unfold outerV okOuter; rw [h]; simp
theorem out1 {n k : Int} (h : n = 0) : outerV n k = 0 ∧ okOuter n k = false := by unfold outerV okOuter; simp [h]
theorem out2 {n k : Int} (h : okGrid n k = true) (h0 : n ≠ 0) : outerV n k = sqF 0 (gridS n k).cells ∧ okOuter n k = true := by unfold outerV okOuter; rw [h]; simp [h0]
theorem ok_len {n k : Int} (h : okGrid n k = true) (h0 : n ≠ 0) : 0 < (gridS n k).cells.length ∧ (gridS n k).cells.length ≤ 250 ∧ ((gridS n k).cells.length : Int) = n := by
  obtain ⟨m, rfl, hm, _⟩ := grid_is h
  have h2 := (grid_kept h).2.1
  rw [Int.toNat_natCast] at h2
  omega
set_option maxHeartbeats 4000000 in
set_option maxRecDepth 100000 in
theorem spec_OuterSquare.walk (n k : Int) (w : World) : Calls Try.prog 26 #[.int .i64 n, .int .i64 k] w fun e w' => e = .returned (.tuple #[.int .i64 (outerV n k), .bool (okOuter n k)]) ∧ Below w.heap.size w w' := by
  have HA := Aside0.mk (fun W => spec_gwAsked.calls n k _ W (asked_eq n k))
  cases ho : okGrid n k with
  | false =>
    rw [(out0 ho).1, (out0 ho).2]
    rw [ho] at HA
    clear ho
    go_enter Try.func26, Try.ntmps26
    go_wp2_with (first | (go_at_call 65; (with_reducible refine (HA.out _).mono ?_); rintro e w1 ⟨rfl, ⟨nd, rfl⟩⟩))
    go_ret2
    exact ⟨rfl, by repeat (first | exact Below.refl _ _ | apply pw_below_drewN)⟩
  | true =>
    by_cases h0 : n = 0
    · rw [(out1 (k := k) h0).1, (out1 (k := k) h0).2]
      rw [ho] at HA
      clear ho
      subst h0
      go_enter Try.func26, Try.ntmps26
      go_wp2_with (first | (go_at_call 65; (with_reducible refine (HA.out _).mono ?_); rintro e w1 ⟨rfl, ⟨nd, rfl⟩⟩))
      go_ret2
      exact ⟨rfl, by repeat (first | exact Below.refl _ _ | apply pw_below_drewN)⟩
    · rw [(out2 ho h0).1, (out2 ho h0).2]
      have HG := Aside0.mk (fun W => go_any ho W)
      have hb := Aside0.mk (grid_kept ho).1.box
      obtain ⟨l1, l2, l3⟩ := ok_len ho h0
      clear l3
      rw [ho] at HA
      clear ho
      generalize gridS n k = S at *
      go_enter Try.func26, Try.ntmps26
      go_wp2_with (first | (go_at_call 65; (with_reducible refine (HA.out _).mono ?_); rintro e w1 ⟨rfl, ⟨nd, rfl⟩⟩) | (go_at_call 66; (with_reducible refine (HG.out _).mono ?_); rintro e w1 ⟨f, gb, rb, vc, rfl, hB, hG⟩; have HB := Aside0.mk hB; obtain ⟨g, cap, rfl, hE⟩ := hG.out.form l1; have c2 := blk_cell hG.out.blk 2; simp at c2; have HE := Aside0.mk hE; clear hB hG hE))
      go_loopg [6, 24] S.cells.length (fun m v6 v24 wr => ∃ (i : Nat) (a : Int), v6 = .int .i64 a ∧ v24 = .int .i64 (i : Int) ∧ Aside0 (i + m = S.cells.length) ∧ Aside0 (sqF a (S.cells.drop i) = sqF 0 S.cells) ∧ Aside0 (∃ nn, wr = w1.drewN nn))
      case atStart => exact ⟨0, 0, rfl, rfl, ⟨by omega⟩, ⟨rfl⟩, ⟨0, rfl⟩⟩
      case round =>
        obtain ⟨i, a, rfl, rfl, HI, HF, HW⟩ := hrel
        have hce : ∀ p, wr.cell? p = w1.cell? p := fun p => by obtain ⟨nn, e⟩ := HW.out; rw [e]; simp
        have hbe : ∀ W, Below w.heap.size W w1 → Below w.heap.size W wr := fun W h => by obtain ⟨nn, e⟩ := HW.out; rw [e]; exact pw_below_drewN h nn
        cases gk with
        | zero =>
          have hi : ¬ ((i : Int) < (S.cells.length : Int)) := by have := HI.out; omega
          have ht : a = sqF 0 S.cells := by
            have := HF.out
            rw [List.drop_eq_nil_of_le (by have := HI.out; omega)] at this
            exact this
          replace ht := Aside0.mk ht
          replace hbe := Aside0.mk hbe
          clear HF HI hce
          go_wp2_with (fail)
          go_ret2
          exact ⟨by first | rfl | (rw [ht.out]; rfl), hbe.out _ (below_then (by repeat (first | exact Below.refl _ _ | apply pw_below_drewN)) (by simp) HB.out)⟩
        | succ m =>
          have hin : i < S.cells.length := by have := HI.out; omega
          have hi : (i : Int) < (S.cells.length : Int) := by omega
          obtain ⟨c, hc⟩ : ∃ c, c = S.cells[i] := ⟨_, rfl⟩
          have hcm : c ∈ S.cells := by rw [hc]; exact List.getElem_mem hin
          obtain ⟨b, q1, q2, q3⟩ := HE.out i c (by rw [hc]; exact List.getElem?_eq_getElem hin)
          have q4 := blk_cell q3 0
          have q5 := blk_cell q3 1
          simp at q4 q5
          rw [← hce] at q1 q4 q5
          clear hce hbe
          obtain ⟨s1, s2, s3, s4, s5⟩ := sq_box (hb.out c hcm)
          have HM := Aside0.mk (most_quiet a c (hb.out c hcm))
          have hnx : sqF (if a > sq c then a else sq c) (S.cells.drop (i + 1)) = sqF 0 S.cells := by
            have := HF.out
            rw [List.drop_eq_getElem_cons hin, ← hc] at this
            exact this
          generalize (if a > sq c then a else sq c) = t at HM hnx
          have HX := Aside0.mk hnx
          have hw := wrap_id (x := (i : Int) + 1) (by omega) (by omega)
          clear HF hnx hcm hc q2 q3 s1 s2 s3 s4 s5
          go_upto_region 7 with (fail)
          go_quiet ((go_at_call 75; exact Calls.quiet_of (HM.out _)))
          go_wp2_with (fail)
          go_roundg m
          case measure => omega
          case rel => exact ⟨i + 1, _, by first | rfl | trivial, by first | rfl | go_num, ⟨by have := HI.out; omega⟩, HX, ⟨by obtain ⟨nn, e⟩ := HW.out; exact ⟨nn + nq, by rw [e, World.drewN_drewN]⟩⟩⟩
theorem spec_OuterSquare.calls (n k : Int) (r1 : Int) (r2 : Bool) (w : World) (h : spec_OuterSquare.f n k = some (r1, r2)) :
    Calls Try.prog 26 #[.int .i64 n, .int .i64 k] w fun e w' => e = .returned (.tuple #[.int .i64 r1, .bool r2]) ∧ Below w.heap.size w w' := by
  have e := Option.some.inj h
  injection e with e1 e2
  subst e1 e2
  exact spec_OuterSquare.walk n k w
end Go.Proofs.Ytjedhjeijpbobaa.G8
