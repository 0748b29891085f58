/-
  The greatest square of a grown cell, and a chip's cell: the program's, and the reference's chip.
-/
import Derived.Test.YtjedhjeijpbobaaFe
namespace Go.Proofs.Ytjedhjeijpbobaa.G8
open Go.RowKit Go.Maps Go.Proofs.YtjedhjeijpbobaaW.PrintWords Go.Proofs.YtjedhjeijpbobaaW.PrintLast Go.Proofs.YtjedhjeijpbobaaW.PrintMore
open Go.Proofs.Ytjedhjeijpbobaa.GA
set_option linter.unusedVariables false
set_option linter.unusedSimpArgs false
set_option maxHeartbeats 4000000 in
set_option maxRecDepth 100000 in
theorem impl_OuterSquare.walk (n k : Int) (w : World) : Calls Try.prog 27 #[.int .i64 n, .int .i64 k] w fun e w' => e = .returned (.tuple #[.int .i64 (outerV n k), .bool (okOuter n k)]) ∧ Below w.heap.size w w' := by
  have HG := Aside0.mk (fun W => grown_calls n k W)
  cases ho : okGrid n k with
  | false =>
    rw [(out0 ho).1, (out0 ho).2]
    rw [ho] at HG
    clear ho
    go_enter Try.func27, Try.ntmps27
    go_wp2_with (first | (go_at_call 67; (with_reducible refine (HG.out _).mono ?_); rintro e w1 (⟨_, rfl, hB⟩ | ⟨h, _⟩); rotate_left; (exact absurd h (by decide)); have HB := Aside0.mk hB; clear hB))
    go_ret2
    exact ⟨rfl, HB.out⟩
  | true =>
    rw [ho] at HG
    by_cases h0 : n = 0
    · rw [(out1 (k := k) h0).1, (out1 (k := k) h0).2]
      clear ho
      subst h0
      generalize gridS 0 k = S at *
      go_enter Try.func27, Try.ntmps27
      go_wp2_with (first | (go_at_call 67; (with_reducible refine (HG.out _).mono ?_); rintro e w1 (⟨h, _⟩ | ⟨_, g, gm, N, vc, rfl, hB, hG⟩); (exact absurd h (by decide)); have HB := Aside0.mk hB; clear hB))
      go_ret2
      exact ⟨rfl, HB.out⟩
    · rw [(out2 ho h0).1, (out2 ho h0).2]
      have hb := Aside0.mk (grid_kept ho).1.box
      obtain ⟨l1, l2, l3⟩ := ok_len ho h0
      clear l3 ho
      generalize gridS n k = S at *
      have l4 := Aside0.mk (show S.cells.length ≤ 1000 by omega)
      go_enter Try.func27, Try.ntmps27
      go_wp2_with (first | (go_at_call 67; (with_reducible refine (HG.out _).mono ?_); rintro e w1 (⟨h, _⟩ | ⟨_, g, gm, N, vc, rfl, hB, hG⟩); (exact absurd h (by decide)); have HB := Aside0.mk hB; clear hB; obtain ⟨A, c, rfl, hc, hC⟩ := hG.out.reads; have HC := Aside0.mk (And.intro hc hC); have c1 := blk_cell hG.out.blk 1; simp at c1; clear hc hC) | (go_at_call 76; refine (greatest_any l4.out hb.out _ A _ c rfl HC.out.1 HC.out.2).mono ?_; rintro e w2 ⟨rfl, hB2⟩; have HB2 := Aside0.mk hB2; clear hB2))
      go_ret2
      exact ⟨rfl, HB.out.trans (HB2.out.mono HB.out.size)⟩
theorem impl_OuterSquare.calls (n k : Int) (r1 : Int) (r2 : Bool) (w : World) (h : impl_OuterSquare.f n k = some (r1, r2)) :
    Calls Try.prog 27 #[.int .i64 n, .int .i64 k] w fun e w' => e = .returned (.tuple #[.int .i64 r1, .bool r2]) ∧ Below w.heap.size w w' := by
  have e := Option.some.inj h
  injection e with e1 e2
  subst e1 e2
  exact impl_OuterSquare.walk n k w
/-! ### A chip's cell -/
def cellAt (n k : Int) : Int × Int := (gridS n k).cells.getD (n.toNat - 1) (0, 0)
def chipV (n k : Int) : List Int := if okOuter n k = true then [(cellAt n k).1, (cellAt n k).2] else []
def spec_CellOfChip.f (n k : Int) : Option (List Int × Bool) := some (chipV n k, okOuter n k)
def impl_CellOfChip.f (n k : Int) : Option (List Int × Bool) := some (chipV n k, okOuter n k)
theorem chip0 {n k : Int} (h : okOuter n k = false) : chipV n k = [] := by unfold chipV; rw [h]; rfl
theorem chip_at {n k : Int} (h : okGrid n k = true) (h0 : n ≠ 0) : ∃ m : Nat, n = ((m + 1 : Nat) : Int) ∧ m < 250 ∧ m < (gridS n k).cells.length ∧ (gridS n k).cells[m]? = some (cellAt n k) ∧ chipV n k = [(cellAt n k).1, (cellAt n k).2] := by
  obtain ⟨l1, l2, l3⟩ := ok_len h h0
  refine ⟨(gridS n k).cells.length - 1, by omega, by omega, by omega, ?_, by unfold chipV; rw [(out2 h h0).2]; rfl⟩
  unfold cellAt
  have e : n.toNat - 1 = (gridS n k).cells.length - 1 := by omega
  rw [e, List.getD_eq_getElem?_getD, List.getElem?_eq_getElem (by omega)]
  rfl
set_option maxHeartbeats 4000000 in
set_option maxRecDepth 100000 in
theorem spec_CellOfChip.walk (n k : Int) (w : World) : Calls Try.prog 28 #[.int .i64 n, .int .i64 k] w fun e w' => ∃ v0_ : Value, e = .returned (.tuple #[v0_, .bool (okOuter n k)]) ∧ Kd.R (Kd.int .i64) 3 w' w.heap.size (fun _ => True) v0_ (chipV n k) ∧ Below w.heap.size w w' := by
  have HA := Aside0.mk (fun W => spec_gwAsked.calls n k _ W (asked_eq n k))
  cases ho : okGrid n k with
  | false =>
    rw [chip0 (out0 ho).2, (out0 ho).2]
    rw [ho] at HA
    clear ho
    go_enter Try.func28, Try.ntmps28
    go_wp2_with (first | (go_at_call 65; (with_reducible refine (HA.out _).mono ?_); rintro e w1 ⟨rfl, ⟨nd, rfl⟩⟩))
    go_ret2
    exact ⟨_, rfl, Kd.R_nil _ _ _ _ _, by repeat (first | exact Below.refl _ _ | apply pw_below_drewN)⟩
  | true =>
    by_cases h0 : n = 0
    · rw [chip0 (out1 (k := k) h0).2, (out1 (k := k) h0).2]
      rw [ho] at HA
      clear ho
      subst h0
      go_enter Try.func28, Try.ntmps28
      go_wp2_with (first | (go_at_call 65; (with_reducible refine (HA.out _).mono ?_); rintro e w1 ⟨rfl, ⟨nd, rfl⟩⟩))
      go_ret2
      exact ⟨_, rfl, Kd.R_nil _ _ _ _ _, by repeat (first | exact Below.refl _ _ | apply pw_below_drewN)⟩
    · obtain ⟨m, hnm, hm2, hml, hc, he⟩ := chip_at ho h0
      rw [he, (out2 ho h0).2]
      have HG := Aside0.mk (fun W => go_any ho W)
      rw [ho] at HA
      have l1 : 0 < (gridS n k).cells.length := by omega
      clear ho he h0
      generalize gridS n k = S at *
      generalize cellAt n k = c at *
      replace hnm : n = (m : Int) + 1 := by omega
      subst hnm
      have hw := wrap_id (x := (m : Int)) (by omega) (by omega)
      have hmi : (m : Int) < (S.cells.length : Int) := by omega
      replace hc := Aside0.mk hc
      go_enter Try.func28, Try.ntmps28
      go_wp2_with (first | (go_at_call 65; (with_reducible refine (HA.out _).mono ?_); rintro e w1 ⟨rfl, ⟨nd, rfl⟩⟩) | (go_at_call 66; (with_reducible refine (HG.out _).mono ?_); rintro e w1 ⟨f, gb, rb, vc, rfl, hB, hG⟩; have HB := Aside0.mk hB; obtain ⟨g, cap, rfl, hE⟩ := hG.out.form l1; obtain ⟨b, q1, q2, q3⟩ := hE m c hc.out; have q3 := Aside0.mk (And.intro q2 q3); have c2 := blk_cell hG.out.blk 2; simp at c2; clear hB hG hE q2))
      go_ret2
      exact ⟨_, rfl, pairR q3.out.1 q3.out.2, below_then (by repeat (first | exact Below.refl _ _ | apply pw_below_drewN)) (by simp) HB.out⟩
theorem spec_CellOfChip.calls (n k : Int) (r1 : List Int) (r2 : Bool) (w : World) (h : spec_CellOfChip.f n k = some (r1, r2)) :
    Calls Try.prog 28 #[.int .i64 n, .int .i64 k] w fun e w' => ∃ v0_ : Value, e = .returned (.tuple #[v0_, .bool r2]) ∧ Kd.R (Kd.int .i64) 3 w' w.heap.size (fun _ => True) v0_ r1 ∧ Below w.heap.size w w' := by
  have e := Option.some.inj h
  injection e with e1 e2
  subst e1 e2
  exact spec_CellOfChip.walk n k w
theorem GroAt.form {w : World} {base g gm N : Nat} {vc : Value} {F : Fld} {cs : List (Int × Int)} {s : Int} (h : GroAt w base g gm N vc F cs s) (hp : 0 < cs.length) :
    ∃ b cap, vc = .slice (some ⟨b, 0, none⟩) cs.length cap ∧ base ≤ b ∧ ∀ (i : Nat) (c : Int × Int), cs[i]? = some c → w.cell? ⟨b, i * 2, none⟩ = some (.int .i64 c.1) ∧ w.cell? ⟨b, i * 2 + 1, none⟩ = some (.int .i64 c.2) := by
  rcases h.cells.2 with ⟨_, h2⟩ | ⟨b, cap, cur, h1, hb, hh, h3, _, h5, h6⟩
  · omega
  · refine ⟨b, cap, h1, hb, fun i c hc => ?_⟩
    have hr := (reps_flat w cs).2 i (toS c) (by rw [List.getElem?_map, hc]; rfl)
    have e := k76_open hr
    have hi : i < cs.length := (List.getElem?_eq_some_iff.1 hc).1
    have hfl : (flat cs).length = cs.length * 2 := by have := (reps_flat w cs).1; rw [List.length_map] at this; exact this
    have e0 : (flat cs)[i * 2]? = some (.int .i64 c.1) := by
      have := congrArg (fun l => l[0]?) e
      simp only [List.getElem?_take, List.getElem?_drop] at this
      simpa [toS] using this
    have e1 : (flat cs)[i * 2 + 1]? = some (.int .i64 c.2) := by
      have := congrArg (fun l => l[1]?) e
      simp only [List.getElem?_take, List.getElem?_drop] at this
      simpa [toS] using this
    rw [← h6, List.getElem?_take, if_pos (by omega)] at e0 e1
    exact ⟨(blk_cell hh _).trans (by simpa using e0), (blk_cell hh _).trans (by simpa using e1)⟩
set_option maxHeartbeats 4000000 in
set_option maxRecDepth 100000 in
theorem impl_CellOfChip.walk (n k : Int) (w : World) : Calls Try.prog 29 #[.int .i64 n, .int .i64 k] w fun e w' => ∃ v0_ : Value, e = .returned (.tuple #[v0_, .bool (okOuter n k)]) ∧ Kd.R (Kd.int .i64) 3 w' w.heap.size (fun _ => True) v0_ (chipV n k) ∧ Below w.heap.size w w' := by
  have HG := Aside0.mk (fun W => grown_calls n k W)
  have hu76 := Try.underlying76
  cases ho : okGrid n k with
  | false =>
    rw [chip0 (out0 ho).2, (out0 ho).2]
    rw [ho] at HG
    clear ho
    go_enter Try.func29, Try.ntmps29
    go_wp2_with (first | (go_at_call 67; (with_reducible refine (HG.out _).mono ?_); rintro e w1 (⟨_, rfl, hB⟩ | ⟨h, _⟩); rotate_left; (exact absurd h (by decide)); have HB := Aside0.mk hB; clear hB))
    go_ret2
    exact ⟨_, rfl, Kd.R_nil _ _ _ _ _, HB.out⟩
  | true =>
    rw [ho] at HG
    by_cases h0 : n = 0
    · rw [chip0 (out1 (k := k) h0).2, (out1 (k := k) h0).2]
      clear ho
      subst h0
      generalize gridS 0 k = S at *
      go_enter Try.func29, Try.ntmps29
      go_wp2_with (first | (go_at_call 67; (with_reducible refine (HG.out _).mono ?_); rintro e w1 (⟨h, _⟩ | ⟨_, g, gm, N, vc, rfl, hB, hG⟩); (exact absurd h (by decide)); have HB := Aside0.mk hB; clear hB))
      go_ret2
      exact ⟨_, rfl, Kd.R_nil _ _ _ _ _, HB.out⟩
    · obtain ⟨m, hnm, hm2, hml, hc, he⟩ := chip_at ho h0
      rw [he, (out2 ho h0).2]
      have l1 : 0 < (gridS n k).cells.length := by omega
      clear ho he h0
      generalize gridS n k = S at *
      generalize cellAt n k = c at *
      replace hnm : n = (m : Int) + 1 := by omega
      subst hnm
      have hw := wrap_id (x := (m : Int)) (by omega) (by omega)
      have hmi : (m : Int) < (S.cells.length : Int) := by omega
      replace hc := Aside0.mk hc
      go_enter Try.func29, Try.ntmps29
      go_wp2_with (first | (go_at_call 67; (with_reducible refine (HG.out _).mono ?_); rintro e w1 (⟨h, _⟩ | ⟨_, g, gm, N, vc, rfl, hB, hG⟩); (exact absurd h (by decide)); have HB := Aside0.mk hB; clear hB; obtain ⟨b, cap, rfl, hbb, hE⟩ := hG.out.form l1; obtain ⟨q0, q1⟩ := hE m c hc.out; have c1 := blk_cell hG.out.blk 1; simp at c1; have hGl := hG.out.lt (.inr (.inr rfl)); clear hE))
      go_ret2
      have hs := HB.out.size
      exact ⟨_, rfl, pairR (Nat.le_succ_of_le hs) (two_new1 w1 _ _), (HB.out.alloc hs _).alloc (by simp; omega) _⟩
theorem impl_CellOfChip.calls (n k : Int) (r1 : List Int) (r2 : Bool) (w : World) (h : impl_CellOfChip.f n k = some (r1, r2)) :
    Calls Try.prog 29 #[.int .i64 n, .int .i64 k] w fun e w' => ∃ v0_ : Value, e = .returned (.tuple #[v0_, .bool r2]) ∧ Kd.R (Kd.int .i64) 3 w' w.heap.size (fun _ => True) v0_ r1 ∧ Below w.heap.size w w' := by
  have e := Option.some.inj h
  injection e with e1 e2
  subst e1 e2
  exact impl_CellOfChip.walk n k w
end Go.Proofs.Ytjedhjeijpbobaa.G8
