/-
  What chips have made, if it may be asked for: the program's grown and onLine, walked; its numbers of steps.
-/
import Derived.Test.YtjedhjeijpbobaaMd
import Derived.Test.YtjedhjeijpbobaaGA
namespace Go.Proofs.Ytjedhjeijpbobaa.G8
open Go.RowKit Go.Maps Go.Proofs.YtjedhjeijpbobaaW.PrintWords Go.Proofs.YtjedhjeijpbobaaW.PrintLast Go.Proofs.YtjedhjeijpbobaaW.PrintMore
open Go.Proofs.Ytjedhjeijpbobaa.GA
set_option linter.unusedVariables false
set_option linter.unusedSimpArgs false
def inB (a lo hi : Int) : Bool := decide (lo ≤ a ∧ a ≤ hi)
theorem impl_in_eq (a lo hi : Int) : impl_in.f a lo hi = some (inB a lo hi) := by
  unfold impl_in.f inB
  by_cases h1 : lo ≤ a
  · simp [h1]
  · simp [h1]
def okGrid (n k : Int) : Bool := inB n 0 250 && inB k 0 3
def okLine (n k : Int) : Bool := inB n 0 250 && inB k 0 1
def gridS (n k : Int) : St := (chips 4 15 mv4 5000 k n.toNat st0).getD st0
def lineS (n k : Int) : St := (chips 2 300 mv2 215603 k n.toNat st0).getD st0
theorem grid_is {n k : Int} (h : okGrid n k = true) : ∃ m : Nat, n = m ∧ m ≤ 250 ∧ 0 ≤ k ∧ k < 4 ∧ chips 4 15 mv4 5000 k m st0 = some (gridS n k) := by
  simp only [okGrid, inB, Bool.and_eq_true, decide_eq_true_eq] at h
  obtain ⟨k1, rfl⟩ := Int.eq_ofNat_of_zero_le h.2.1
  obtain ⟨m, rfl⟩ := Int.eq_ofNat_of_zero_le h.1.1
  obtain ⟨S, hS⟩ := grid_n m k1 (by omega) (by omega)
  refine ⟨m, rfl, by omega, by omega, by omega, ?_⟩
  unfold gridS
  rw [Int.toNat_natCast, hS]
  rfl
theorem line_is {n k : Int} (h : okLine n k = true) : ∃ m : Nat, n = m ∧ m ≤ 250 ∧ 0 ≤ k ∧ k < 2 ∧ chips 2 300 mv2 215603 k m st0 = some (lineS n k) := by
  simp only [okLine, inB, Bool.and_eq_true, decide_eq_true_eq] at h
  obtain ⟨m, rfl⟩ := Int.eq_ofNat_of_zero_le h.1.1
  obtain ⟨S, hS⟩ := line_n m k (by omega) (by omega)
  refine ⟨m, rfl, by omega, by omega, by omega, ?_⟩
  unfold lineS
  rw [Int.toNat_natCast, hS]
  rfl
theorem grow_grid_any {n k : Int} (h : okGrid n k = true) (w : World) : Calls Try.prog 97 #[.int .i64 n, .int .i64 k, .int .i64 4, .func (.func 98) #[] #[]] w (GroOut w (gridS n k)) := by
  obtain ⟨m, rfl, hm, h0, h1, hS⟩ := grid_is h
  exact grow_grid 5000 k m _ w (by omega) ⟨h0, h1⟩ hm hS
theorem grow_line_any {n k : Int} (h : okLine n k = true) (w : World) : Calls Try.prog 97 #[.int .i64 n, .int .i64 k, .int .i64 2, .func (.func 99) #[] #[]] w (GroOut w (lineS n k)) := by
  obtain ⟨m, rfl, hm, h0, h1, hS⟩ := line_is h
  exact grow_line 215603 k m _ w (by omega) ⟨h0, h1⟩ hm hS
/-- What is handed back: what has grown, and true; or nothing, and false. -/
def GrownOut (w : World) (ok : Bool) (S : St) (e : Ending) (w' : World) : Prop :=
  (ok = false ∧ e = .returned (.tuple #[.pointer none, .bool false]) ∧ Below w.heap.size w w') ∨
  (ok = true ∧ ∃ g gm N vc, e = .returned (.tuple #[.pointer (some ⟨g, 0, none⟩), .bool true]) ∧ Below w.heap.size w w' ∧ Aside0 (GroAt w' w.heap.size g gm N vc S.f S.cells S.steps))
set_option maxHeartbeats 4000000 in
set_option maxRecDepth 100000 in
theorem grown_calls (n k : Int) (w : World) : Calls Try.prog 67 #[.int .i64 n, .int .i64 k] w (GrownOut w (okGrid n k) (gridS n k)) := by
  have HI1 := Aside0.mk (fun W => impl_in.calls n 0 250 (inB n 0 250) W (impl_in_eq _ _ _))
  have HI2 := Aside0.mk (fun W => impl_in.calls k 0 3 (inB k 0 3) W (impl_in_eq _ _ _))
  cases h1 : inB n 0 250 with
  | false =>
    have ho : okGrid n k = false := by unfold okGrid; rw [h1]; rfl
    rw [ho]
    rw [h1] at HI1
    clear ho h1 HI2
    go_enter Try.func67, Try.ntmps67
    go_wp2_with (first | (go_at_call 79; (with_reducible refine (HI1.out _).mono ?_); rintro e w' ⟨rfl, ⟨nd, rfl⟩⟩))
    go_ret2
    exact .inl ⟨rfl, rfl, by repeat (first | exact Below.refl _ _ | apply pw_below_drewN)⟩
  | true =>
    cases h2 : inB k 0 3 with
    | false =>
      have ho : okGrid n k = false := by unfold okGrid; rw [h1, h2]; rfl
      rw [ho]
      rw [h1] at HI1
      rw [h2] at HI2
      clear ho h1 h2
      go_enter Try.func67, Try.ntmps67
      go_wp2_with (first | (go_at_call 79; (with_reducible refine (HI1.out _).mono ?_); rintro e w' ⟨rfl, ⟨nd, rfl⟩⟩) | (go_at_call 79; (with_reducible refine (HI2.out _).mono ?_); rintro e w' ⟨rfl, ⟨nd2, rfl⟩⟩))
      go_ret2
      exact .inl ⟨rfl, rfl, by repeat (first | exact Below.refl _ _ | apply pw_below_drewN)⟩
    | true =>
      have ho : okGrid n k = true := by unfold okGrid; rw [h1, h2]; rfl
      have HG := Aside0.mk (fun W => grow_grid_any ho W)
      rw [ho]
      rw [h1] at HI1
      rw [h2] at HI2
      clear ho h1 h2
      generalize gridS n k = S at *
      go_enter Try.func67, Try.ntmps67
      go_wp2_with (first | (go_at_call 79; (with_reducible refine (HI1.out _).mono ?_); rintro e w' ⟨rfl, ⟨nd, rfl⟩⟩) | (go_at_call 79; (with_reducible refine (HI2.out _).mono ?_); rintro e w' ⟨rfl, ⟨nd2, rfl⟩⟩) | (go_at_call 97; refine (HG.out _).mono ?_; rintro e w1 ⟨g, gm, N, vc, rfl, hB, hG⟩; have HB := Aside0.mk hB; clear hB))
      go_ret2
      refine .inr ⟨rfl, g, gm, N, vc, rfl, ?_, ?_⟩
      · exact below_then (by repeat (first | exact Below.refl _ _ | apply pw_below_drewN)) (by simp) HB.out
      · exact hG
set_option maxHeartbeats 4000000 in
set_option maxRecDepth 100000 in
theorem onLine_calls (n k : Int) (w : World) : Calls Try.prog 70 #[.int .i64 n, .int .i64 k] w (GrownOut w (okLine n k) (lineS n k)) := by
  have HI1 := Aside0.mk (fun W => impl_in.calls n 0 250 (inB n 0 250) W (impl_in_eq _ _ _))
  have HI2 := Aside0.mk (fun W => impl_in.calls k 0 1 (inB k 0 1) W (impl_in_eq _ _ _))
  cases h1 : inB n 0 250 with
  | false =>
    have ho : okLine n k = false := by unfold okLine; rw [h1]; rfl
    rw [ho]
    rw [h1] at HI1
    clear ho h1 HI2
    go_enter Try.func70, Try.ntmps70
    go_wp2_with (first | (go_at_call 79; (with_reducible refine (HI1.out _).mono ?_); rintro e w' ⟨rfl, ⟨nd, rfl⟩⟩))
    go_ret2
    exact .inl ⟨rfl, rfl, by repeat (first | exact Below.refl _ _ | apply pw_below_drewN)⟩
  | true =>
    cases h2 : inB k 0 1 with
    | false =>
      have ho : okLine n k = false := by unfold okLine; rw [h1, h2]; rfl
      rw [ho]
      rw [h1] at HI1
      rw [h2] at HI2
      clear ho h1 h2
      go_enter Try.func70, Try.ntmps70
      go_wp2_with (first | (go_at_call 79; (with_reducible refine (HI1.out _).mono ?_); rintro e w' ⟨rfl, ⟨nd, rfl⟩⟩) | (go_at_call 79; (with_reducible refine (HI2.out _).mono ?_); rintro e w' ⟨rfl, ⟨nd2, rfl⟩⟩))
      go_ret2
      exact .inl ⟨rfl, rfl, by repeat (first | exact Below.refl _ _ | apply pw_below_drewN)⟩
    | true =>
      have ho : okLine n k = true := by unfold okLine; rw [h1, h2]; rfl
      have HG := Aside0.mk (fun W => grow_line_any ho W)
      rw [ho]
      rw [h1] at HI1
      rw [h2] at HI2
      clear ho h1 h2
      generalize lineS n k = S at *
      go_enter Try.func70, Try.ntmps70
      go_wp2_with (first | (go_at_call 79; (with_reducible refine (HI1.out _).mono ?_); rintro e w' ⟨rfl, ⟨nd, rfl⟩⟩) | (go_at_call 79; (with_reducible refine (HI2.out _).mono ?_); rintro e w' ⟨rfl, ⟨nd2, rfl⟩⟩) | (go_at_call 97; refine (HG.out _).mono ?_; rintro e w1 ⟨g, gm, N, vc, rfl, hB, hG⟩; have HB := Aside0.mk hB; clear hB))
      go_ret2
      refine .inr ⟨rfl, g, gm, N, vc, rfl, ?_, ?_⟩
      · exact below_then (by repeat (first | exact Below.refl _ _ | apply pw_below_drewN)) (by simp) HB.out
      · exact hG
def impl_StepsToGrow.f (n k : Int) : Option (Int × Bool) := some (if okGrid n k = true then (gridS n k).steps else 0, okGrid n k)
def impl_LineSteps.f (n k : Int) : Option (Int × Bool) := some (if okLine n k = true then (lineS n k).steps else 0, okLine n k)
set_option maxHeartbeats 4000000 in
set_option maxRecDepth 100000 in
theorem impl_StepsToGrow.walk (n k : Int) (w : World) : Calls Try.prog 19 #[.int .i64 n, .int .i64 k] w fun e w' => e = .returned (.tuple #[.int .i64 (if okGrid n k = true then (gridS n k).steps else 0), .bool (okGrid n k)]) ∧ Below w.heap.size w w' := by
  have HG := Aside0.mk (fun W => grown_calls n k W)
  cases ho : okGrid n k with
  | false =>
    rw [ho] at HG
    rw [if_neg (by decide)]
    clear ho
    go_enter Try.func19, Try.ntmps19
    go_wp2_with (first | (go_at_call 67; refine (HG.out _).mono ?_; rintro e w1 (⟨_, rfl, hB⟩ | ⟨h, _⟩); rotate_left; (exact absurd h (by decide)); have HB := Aside0.mk hB; clear hB))
    go_ret2
    exact ⟨rfl, HB.out⟩
  | true =>
    rw [ho] at HG
    rw [if_pos rfl]
    clear ho
    generalize gridS n k = S at *
    go_enter Try.func19, Try.ntmps19
    go_wp2_with (first | (go_at_call 67; refine (HG.out _).mono ?_; rintro e w1 (⟨h, _⟩ | ⟨_, g, gm, N, vc, rfl, hB, hG⟩); (exact absurd h (by decide)); have HB := Aside0.mk hB; clear hB; have c2 := blk_cell hG.out.blk 2; simp at c2))
    go_ret2
    exact ⟨rfl, HB.out⟩
theorem impl_StepsToGrow.calls (n k : Int) (r1 : Int) (r2 : Bool) (w : World) (h : impl_StepsToGrow.f n k = some (r1, r2)) :
    Calls Try.prog 19 #[.int .i64 n, .int .i64 k] w fun e w' => e = .returned (.tuple #[.int .i64 r1, .bool r2]) ∧ Below w.heap.size w w' := by
  have e := Option.some.inj h
  injection e with e1 e2
  subst e1 e2
  exact impl_StepsToGrow.walk n k w
set_option maxHeartbeats 4000000 in
set_option maxRecDepth 100000 in
theorem impl_LineSteps.walk (n k : Int) (w : World) : Calls Try.prog 21 #[.int .i64 n, .int .i64 k] w fun e w' => e = .returned (.tuple #[.int .i64 (if okLine n k = true then (lineS n k).steps else 0), .bool (okLine n k)]) ∧ Below w.heap.size w w' := by
  have HG := Aside0.mk (fun W => onLine_calls n k W)
  cases ho : okLine n k with
  | false =>
    rw [ho] at HG
    rw [if_neg (by decide)]
    clear ho
    go_enter Try.func21, Try.ntmps21
    go_wp2_with (first | (go_at_call 70; refine (HG.out _).mono ?_; rintro e w1 (⟨_, rfl, hB⟩ | ⟨h, _⟩); rotate_left; (exact absurd h (by decide)); have HB := Aside0.mk hB; clear hB))
    go_ret2
    exact ⟨rfl, HB.out⟩
  | true =>
    rw [ho] at HG
    rw [if_pos rfl]
    clear ho
    generalize lineS n k = S at *
    go_enter Try.func21, Try.ntmps21
    go_wp2_with (first | (go_at_call 70; refine (HG.out _).mono ?_; rintro e w1 (⟨h, _⟩ | ⟨_, g, gm, N, vc, rfl, hB, hG⟩); (exact absurd h (by decide)); have HB := Aside0.mk hB; clear hB; have c2 := blk_cell hG.out.blk 2; simp at c2))
    go_ret2
    exact ⟨rfl, HB.out⟩
theorem impl_LineSteps.calls (n k : Int) (r1 : Int) (r2 : Bool) (w : World) (h : impl_LineSteps.f n k = some (r1, r2)) :
    Calls Try.prog 21 #[.int .i64 n, .int .i64 k] w fun e w' => e = .returned (.tuple #[.int .i64 r1, .bool r2]) ∧ Below w.heap.size w w' := by
  have e := Option.some.inj h
  injection e with e1 e2
  subst e1 e2
  exact impl_LineSteps.walk n k w
end Go.Proofs.Ytjedhjeijpbobaa.G8
