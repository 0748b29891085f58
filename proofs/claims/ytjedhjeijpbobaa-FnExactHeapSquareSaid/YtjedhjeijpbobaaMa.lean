/-
  The program's exits of a cell, walked.
-/
import Derived.Test.YtjedhjeijpbobaaPl
import Derived.Test.YtjedhjeijpbobaaGA1
namespace Go.Proofs.Ytjedhjeijpbobaa.G8
open Go.RowKit Go.Proofs.YtjedhjeijpbobaaW.PrintWords Go.Proofs.YtjedhjeijpbobaaW.PrintLast Go.Proofs.YtjedhjeijpbobaaW.PrintMore
set_option linter.unusedVariables false
set_option linter.unusedSimpArgs false
theorem wrap_id {x : Int} (h0 : -9223372036854775808 ≤ x) (h1 : x ≤ 9223372036854775807) : wrap64 x = x := by unfold wrap64; omega
set_option maxHeartbeats 4000000 in
set_option maxRecDepth 100000 in
theorem exit0 (x y : Int) (w : World) (hx : -100000 ≤ x ∧ x ≤ 100000) (hy : -100000 ≤ y ∧ y ≤ 100000) :
    Calls Try.prog 98 #[.agg #[.int .i64 x, .int .i64 y], .int .i64 0] w fun e w' => e = .returned (.agg #[.int .i64 (x + 1), .int .i64 y]) ∧ Below w.heap.size w w' := by
  have hw := wrap_id (x := x + 1) (by omega) (by omega)
  have hu76 := Try.underlying76
  clear hx hy
  go_enter Try.func98, Try.ntmps98
  go_wp2
  refine bodyPost_ret (v := .agg #[.int .i64 (x + 1), .int .i64 y]) (by simp [results, Try.results98, go_sem]) rfl ⟨rfl, ?_⟩
  exact ((Below.refl _ _).alloc (Nat.le_refl _) _).alloc (by simp) _
set_option maxHeartbeats 4000000 in
set_option maxRecDepth 100000 in
theorem exit1 (x y : Int) (w : World) (hx : -100000 ≤ x ∧ x ≤ 100000) (hy : -100000 ≤ y ∧ y ≤ 100000) :
    Calls Try.prog 98 #[.agg #[.int .i64 x, .int .i64 y], .int .i64 1] w fun e w' => e = .returned (.agg #[.int .i64 x, .int .i64 (y + 1)]) ∧ Below w.heap.size w w' := by
  have hw := wrap_id (x := y + 1) (by omega) (by omega)
  have hu76 := Try.underlying76
  clear hx hy
  go_enter Try.func98, Try.ntmps98
  go_wp2
  refine bodyPost_ret (v := .agg #[.int .i64 x, .int .i64 (y + 1)]) (by simp [results, Try.results98, go_sem]) rfl ⟨rfl, ?_⟩
  exact ((Below.refl _ _).alloc (Nat.le_refl _) _).alloc (by simp) _
set_option maxHeartbeats 4000000 in
set_option maxRecDepth 100000 in
theorem exit2 (x y : Int) (w : World) (hx : -100000 ≤ x ∧ x ≤ 100000) (hy : -100000 ≤ y ∧ y ≤ 100000) :
    Calls Try.prog 98 #[.agg #[.int .i64 x, .int .i64 y], .int .i64 2] w fun e w' => e = .returned (.agg #[.int .i64 (x - 1), .int .i64 y]) ∧ Below w.heap.size w w' := by
  have hw := wrap_id (x := x - 1) (by omega) (by omega)
  have hu76 := Try.underlying76
  clear hx hy
  go_enter Try.func98, Try.ntmps98
  go_wp2
  refine bodyPost_ret (v := .agg #[.int .i64 (x - 1), .int .i64 y]) (by simp [results, Try.results98, go_sem]) rfl ⟨rfl, ?_⟩
  exact ((Below.refl _ _).alloc (Nat.le_refl _) _).alloc (by simp) _
set_option maxHeartbeats 4000000 in
set_option maxRecDepth 100000 in
theorem exit3 (x y : Int) (w : World) (hx : -100000 ≤ x ∧ x ≤ 100000) (hy : -100000 ≤ y ∧ y ≤ 100000) :
    Calls Try.prog 98 #[.agg #[.int .i64 x, .int .i64 y], .int .i64 3] w fun e w' => e = .returned (.agg #[.int .i64 x, .int .i64 (y - 1)]) ∧ Below w.heap.size w w' := by
  have hw := wrap_id (x := y - 1) (by omega) (by omega)
  have hu76 := Try.underlying76
  clear hx hy
  go_enter Try.func98, Try.ntmps98
  go_wp2
  refine bodyPost_ret (v := .agg #[.int .i64 x, .int .i64 (y - 1)]) (by simp [results, Try.results98, go_sem]) rfl ⟨rfl, ?_⟩
  exact ((Below.refl _ _).alloc (Nat.le_refl _) _).alloc (by simp) _
theorem blk_two (w : World) (o1 o2 : Obj) : ((w.alloc o1).alloc o2).heap[w.heap.size + 1]? = some o2 := by
  have h := blk_new (w.alloc o1) o2
  simpa using h
theorem exit_calls (x y r : Int) (w : World) (hx : -100000 ≤ x ∧ x ≤ 100000) (hy : -100000 ≤ y ∧ y ≤ 100000) (hr : 0 ≤ r ∧ r ≤ 3) :
    Calls Try.prog 98 #[.agg #[.int .i64 x, .int .i64 y], .int .i64 r] w fun e w' => e = .returned (.agg #[.int .i64 (mv4 r x y).1, .int .i64 (mv4 r x y).2]) ∧ Below w.heap.size w w' := by
  rcases (show r = 0 ∨ r = 1 ∨ r = 2 ∨ r = 3 by omega) with rfl | rfl | rfl | rfl
  · exact exit0 x y w hx hy
  · exact exit1 x y w hx hy
  · exact exit2 x y w hx hy
  · exact exit3 x y w hx hy
set_option maxHeartbeats 4000000 in
set_option maxRecDepth 100000 in
theorem line_exit (x y r : Int) (w : World) (hx : -100000 ≤ x ∧ x ≤ 100000) (hy : -100000 ≤ y ∧ y ≤ 100000) (hr : 0 ≤ r ∧ r ≤ 1) :
    Calls Try.prog 99 #[.agg #[.int .i64 x, .int .i64 y], .int .i64 r] w fun e w' => e = .returned (.agg #[.int .i64 (mv2 r x y).1, .int .i64 (mv2 r x y).2]) ∧ Below w.heap.size w w' := by
  have hw := wrap_id (x := 2 * r) (by omega) (by omega)
  have hu76 := Try.underlying76
  have hm : mv4 (2 * r) x y = mv2 r x y := by
    unfold mv4 mv2
    rcases (show r = 0 ∨ r = 1 by omega) with rfl | rfl <;> simp
  have HE := fun W => exit_calls x y (2 * r) W hx hy (by omega)
  rw [hm] at HE
  replace HE := Aside0.mk HE
  clear hx hy hr hm
  generalize mv2 r x y = q at *
  go_enter Try.func99, Try.ntmps99
  go_wp2_with (first | (go_at_call 98; refine (HE.out _).mono ?_; rintro e w1 ⟨rfl, hB⟩; have BK := ((hB.block (w.heap.size + 1) (by simp)).trans (blk_two w (.cells #[.int .i64 x, .int .i64 y] 76) (.cells #[.int .i64 0, .int .i64 0] 76))); have k0 := blk_cell BK 0; have k1 := blk_cell BK 1; have fz := blk_frozen BK; simp at k0 k1; have HB := Aside0.mk hB; clear hB BK))
  refine bodyPost_ret (v := .agg #[.int .i64 q.1, .int .i64 q.2]) (by simp [results, Try.results99, go_sem, k0, k1]) rfl ⟨rfl, ?_⟩
  exact below_set (below_set (below_then (((Below.refl _ _).alloc (Nat.le_refl _) _).alloc (by simp) _) (by simp; omega) HB.out) (Nat.le_succ _)) (Nat.le_succ _)
end Go.Proofs.Ytjedhjeijpbobaa.G8
