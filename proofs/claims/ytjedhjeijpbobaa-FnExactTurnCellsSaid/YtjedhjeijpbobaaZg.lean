/-
  compareCells: exactly how the world looks behind it; SortedFunc's parts. slices.Values, slices.AppendSeq and slices.Collect at cells, walked. slices.SortedFunc at cells: the cells in order.
-/
import Derived.Test.YtjedhjeijpbobaaSh
import Derived.Test.YtjedhjeijpbobaaGJ1
import Derived.Test.YtjedhjeijpbobaaZf
import Derived.Shelf.SlSortCmp.QuietGrown
import Derived.RangeFuncNested
import Derived.RangeFuncBox
import Derived.RangeFuncLeaves
import Derived.Shelf.Abstract
import Derived.WalkKit
import Derived.OwnWalkIn
import Derived.TacticsInMore
import Derived.LoopNIn
import Derived.LoopIn
import Derived.Maps.AppendAt
/-! ## Sb -/
namespace Go.Proofs.Ytjedhjeijpbobaa.G8
open Go.RowKit Go.Maps Go.Proofs.YtjedhjeijpbobaaW.PrintWords Go.Proofs.YtjedhjeijpbobaaW.PrintLast Go.Proofs.YtjedhjeijpbobaaW.PrintMore
open Go.Proofs.Ytjedhjeijpbobaa.GA
open Go.Proofs.Ytjedhjeijpbobaa.GJ (cmp_Or_int.f cmp_Or_int.l0 cmp_Or_int.calls impl_compareCells.T1 impl_compareCells.B1 impl_compareCells.tab1 impl_compareCells.bits1)
set_option linter.unusedVariables false
set_option linter.unusedSimpArgs false
/-- Draws on, and blocks behind. -/
def Gr (W w' : World) : Prop := ∃ q os, w' = Go.Sort.grow (W.drewN q) os
theorem Gr.refl (W : World) : Gr W W := ⟨0, #[], by rw [Go.Sort.grow_empty]; rfl⟩
theorem Gr.alloc {W w' : World} (h : Gr W w') (o : Obj) : Gr W (w'.alloc o) := by
  obtain ⟨q, os, rfl⟩ := h
  exact ⟨q, os ++ #[o], by rw [Go.Sort.alloc_eq_grow, Go.Sort.grow_grow]⟩
theorem Gr.drewN {W w' : World} (h : Gr W w') (n : Nat) : Gr W (w'.drewN n) := by
  obtain ⟨q, os, rfl⟩ := h
  exact ⟨q + n, os, by rw [← World.drewN_drewN]; rfl⟩
theorem Gr.drew {W w' : World} (h : Gr W w') : Gr W w'.drew := h.drewN 1
def cmpV (x y : Int × Int) : Int := if Go.Lib.compareInt x.1 y.1 = 0 then Go.Lib.compareInt x.2 y.2 else Go.Lib.compareInt x.1 y.1
theorem or_two (a b : Int) : cmp_Or_int.f 3 [a, b] = some (if a = 0 then b else a) := by
  have e1 : wrap64 ((0 : Int) + 1) = 1 := wrap_id (by omega) (by omega)
  have e2 : wrap64 ((1 : Int) + 1) = 2 := wrap_id (by omega) (by omega)
  unfold cmp_Or_int.f
  simp only [cmp_Or_int.l0, rd, e1, e2, List.length_cons, List.length_nil]
  by_cases ha : a = 0
  · by_cases hb : b = 0
    · subst ha hb; rfl
    · subst ha; simp [hb]
  · simp [ha]
theorem compare_at (a b : Int) (W : World) : Calls Try.prog 109 #[.int .i64 a, .int .i64 b] W fun e w' => e = .returned (.int .i64 (Go.Lib.compareInt a b)) ∧ w' = W := Any.cmp_Compare_int Try.lays122 a b W
set_option maxHeartbeats 8000000 in
set_option maxRecDepth 100000 in
theorem compareCells_gr (x y : Int × Int) (w : World) : Calls Try.prog 102 #[.agg #[.int .i64 x.1, .int .i64 x.2], .agg #[.int .i64 y.1, .int .i64 y.2]] w fun e w' => e = .returned (.int .i64 (cmpV x y)) ∧ Gr w w' := by
  have hu76 := Try.underlying76
  obtain ⟨a0_0, a0_1⟩ := x
  obtain ⟨a1_0, a1_1⟩ := y
  have HC1 := Aside0.mk (fun W => compare_at a0_0 a1_0 W)
  have HC2 := Aside0.mk (fun W => compare_at a0_1 a1_1 W)
  have hV : cmpV (a0_0, a0_1) (a1_0, a1_1) = if Go.Lib.compareInt a0_0 a1_0 = 0 then Go.Lib.compareInt a0_1 a1_1 else Go.Lib.compareInt a0_0 a1_0 := rfl
  rw [hV]
  clear hV
  generalize Go.Lib.compareInt a0_0 a1_0 = c1 at *
  generalize Go.Lib.compareInt a0_1 a1_1 = c2 at *
  have HO := Aside0.mk (or_two c1 c2)
  generalize (if c1 = 0 then c2 else c1) = c3 at *
  go_enter Try.func102, Try.ntmps102
  go_upto_region 1 with (fail)
  have BK161 : Aside0 (((w.alloc (.cells #[.int .i64 a0_0, .int .i64 a0_1] 76)).alloc (.cells #[.int .i64 a1_0, .int .i64 a1_1] 76)).drew.heap[w.heap.size]? = some (.cells #[.int .i64 a0_0, .int .i64 a0_1] 76 (0, 0))) := ⟨two_new w _ _⟩
  have BK162 : Aside0 (((w.alloc (.cells #[.int .i64 a0_0, .int .i64 a0_1] 76)).alloc (.cells #[.int .i64 a1_0, .int .i64 a1_1] 76)).drew.heap[w.heap.size + 1]? = some (.cells #[.int .i64 a1_0, .int .i64 a1_1] 76 (0, 0))) := ⟨two_new1 w _ _⟩
  have HG : Aside0 (Gr w ((w.alloc (.cells #[.int .i64 a0_0, .int .i64 a0_1] 76)).alloc (.cells #[.int .i64 a1_0, .int .i64 a1_1] 76)).drew) := ⟨(((Gr.refl w).alloc _).alloc _).drew⟩
  (try simp only [World.size_alloc])
  refine start_ (n := 13) (S := fun w' => w'.cell? ⟨w.heap.size, 0, none⟩ = some (.int .i64 a0_0) ∧ w'.cell? ⟨w.heap.size, 1, none⟩ = some (.int .i64 a0_1) ∧ w'.cell? ⟨w.heap.size + 1, 0, none⟩ = some (.int .i64 a1_0) ∧ w'.cell? ⟨w.heap.size + 1, 1, none⟩ = some (.int .i64 a1_1)) (ds := []) #[false, false, false, false, false, false, false, false, false, false, false, false, false] (by kernel_rfl) rfl rfl ⟨(blk_cell BK161.out 0).trans rfl, (blk_cell BK161.out 1).trans rfl, (blk_cell BK162.out 0).trans rfl, (blk_cell BK162.out 1).trans rfl⟩ (fun hHeld => ?_); refine with_tabW impl_compareCells.tab1 impl_compareCells.bits1 (fun HT_ HW_ => ?_)
  generalize ((w.alloc (.cells #[.int .i64 a0_0, .int .i64 a0_1] 76)).alloc (.cells #[.int .i64 a1_0, .int .i64 a1_1] 76)).drew = w8 at BK161 BK162 HG hHeld ⊢
  refine pure_ (i := 0) (N := some 5) (v := ?_) (a' := ?_) #[true, false, false, false, false, false, false, false, false, false, false, false, false] rfl rfl (any_of HT_.out (by kernel_rfl)) (fun _ _ _ h => h) (Or.inl ⟨by rfl, ?_⟩) ?_ ?_
  rotate_left
  · intro w'
    go_simp
    with_reducible rfl
  rotate_left
  · simp only [Act.put, List.setIfInBounds_toArray, List.set_cons_zero, List.set_cons_succ, i64_w, i32_w]
    rfl
  refine pure_ (i := 2) (N := some 7) (v := ?_) (a' := ?_) #[true, false, true, false, false, false, false, false, false, false, false, false, false] rfl rfl (any_of HT_.out (by kernel_rfl)) (fun _ _ _ h => h) (Or.inl ⟨by rfl, ?_⟩) ?_ ?_
  rotate_left
  · intro w'
    go_simp
    with_reducible rfl
  rotate_left
  · simp only [Act.put, List.setIfInBounds_toArray, List.set_cons_zero, List.set_cons_succ, i64_w, i32_w]
    rfl
  refine pure_ (i := 5) (N := some 10) (v := ?_) (a' := ?_) #[true, false, true, false, false, true, false, false, false, false, false, false, false] rfl rfl (any_of HT_.out (by kernel_rfl)) (fun _ _ _ h => h) (Or.inl ⟨by rfl, ?_⟩) ?_ ?_
  rotate_left
  · intro w'
    go_simp
    with_reducible rfl
  rotate_left
  · simp only [Act.put, List.setIfInBounds_toArray, List.set_cons_zero, List.set_cons_succ, i64_w, i32_w]
    rfl
  refine pure_ (i := 7) (N := some 12) (v := ?_) (a' := ?_) #[true, false, true, false, false, true, false, true, false, false, false, false, false] rfl rfl (any_of HT_.out (by kernel_rfl)) (fun _ _ _ h => h) (Or.inl ⟨by rfl, ?_⟩) ?_ ?_
  rotate_left
  · intro w'
    go_simp
    with_reducible rfl
  rotate_left
  · simp only [Act.put, List.setIfInBounds_toArray, List.set_cons_zero, List.set_cons_succ, i64_w, i32_w]
    rfl
  refine take_ (i := 1) (N := some 6) (v := ?_) (a' := ?_) #[true, true, true, false, false, true, false, true, false, false, false, false, false] rfl rfl (take_ofW HT_.out HW_.out (by kernel_rfl)) (fun _ _ _ h => h) (Or.inl ⟨by rfl, ?_⟩) hHeld ?_ ?_
  rotate_left
  · rintro w' ⟨s0, s1, s2, s3⟩
    go_simp
    with_reducible rfl
  rotate_left
  · simp only [Act.put, List.setIfInBounds_toArray, List.set_cons_zero, List.set_cons_succ, i64_w, i32_w]
    rfl
  refine take_ (i := 3) (N := some 8) (v := ?_) (a' := ?_) #[true, true, true, true, false, true, false, true, false, false, false, false, false] rfl rfl (take_ofW HT_.out HW_.out (by kernel_rfl)) (fun _ _ _ h => h) (Or.inl ⟨by rfl, ?_⟩) hHeld ?_ ?_
  rotate_left
  · rintro w' ⟨s0, s1, s2, s3⟩
    go_simp
    with_reducible rfl
  rotate_left
  · simp only [Act.put, List.setIfInBounds_toArray, List.set_cons_zero, List.set_cons_succ, i64_w, i32_w]
    rfl
  refine take_ (i := 6) (N := some 11) (v := ?_) (a' := ?_) #[true, true, true, true, false, true, true, true, false, false, false, false, false] rfl rfl (take_ofW HT_.out HW_.out (by kernel_rfl)) (fun _ _ _ h => h) (Or.inl ⟨by rfl, ?_⟩) hHeld ?_ ?_
  rotate_left
  · rintro w' ⟨s0, s1, s2, s3⟩
    go_simp
    with_reducible rfl
  rotate_left
  · simp only [Act.put, List.setIfInBounds_toArray, List.set_cons_zero, List.set_cons_succ, i64_w, i32_w]
    rfl
  refine take_ (i := 8) (N := some 13) (v := ?_) (a' := ?_) #[true, true, true, true, false, true, true, true, true, false, false, false, false] rfl rfl (take_ofW HT_.out HW_.out (by kernel_rfl)) (fun _ _ _ h => h) (Or.inl ⟨by rfl, ?_⟩) hHeld ?_ ?_
  rotate_left
  · rintro w' ⟨s0, s1, s2, s3⟩
    go_simp
    with_reducible rfl
  rotate_left
  · simp only [Act.put, List.setIfInBounds_toArray, List.set_cons_zero, List.set_cons_succ, i64_w, i32_w]
    rfl
  refine one_ (i := 4) (N := some 9) #[true, true, true, true, true, true, true, true, true, false, false, false, false] rfl rfl (one_of HT_.out (by kernel_rfl)) (by decide) (fun K hK => ?_)
  refine goes_ Try.func109 (by kernel_rfl) rfl #[.int .i64 a0_0, .int .i64 a1_0] (by rfl) rfl rfl (by (try simp only [List.map_toArray, List.map_cons, List.map_nil]); first | done | rfl | (simp only [List.length_drop, List.length_take]; rfl)) ?_
  with_reducible refine (HC1.out _).mono ?_
  rintro e w' ⟨rfl, hw9⟩
  replace hw9 := hw9.symm
  subst hw9
  refine ⟨_, rfl, ?_⟩
  refine hK.out _ _ ⟨(blk_cell BK161.out 0).trans rfl, (blk_cell BK161.out 1).trans rfl, (blk_cell BK162.out 0).trans rfl, (blk_cell BK162.out 1).trans rfl⟩ (fun hHeld => ?_)
  clear hK K
  refine norm_ (a' := ?_) ?_ ?_
  rotate_left
  · show Act.put _ (some 9) _ = _
    simp only [Act.put, List.setIfInBounds_toArray, List.set_cons_zero, List.set_cons_succ, i64_w, i32_w]
    rfl
  refine one_ (i := 9) (N := some 14) #[true, true, true, true, true, true, true, true, true, true, false, false, false] rfl rfl (one_of HT_.out (by kernel_rfl)) (by decide) (fun K hK => ?_)
  refine goes_ Try.func109 (by kernel_rfl) rfl #[.int .i64 a0_1, .int .i64 a1_1] (by rfl) rfl rfl (by (try simp only [List.map_toArray, List.map_cons, List.map_nil]); first | done | rfl | (simp only [List.length_drop, List.length_take]; rfl)) ?_
  with_reducible refine (HC2.out _).mono ?_
  rintro e w' ⟨rfl, hw9⟩
  replace hw9 := hw9.symm
  subst hw9
  refine ⟨_, rfl, ?_⟩
  refine hK.out _ _ ⟨(blk_cell BK161.out 0).trans rfl, (blk_cell BK161.out 1).trans rfl, (blk_cell BK162.out 0).trans rfl, (blk_cell BK162.out 1).trans rfl⟩ (fun hHeld => ?_)
  clear hK K
  refine norm_ (a' := ?_) ?_ ?_
  rotate_left
  · show Act.put _ (some 14) _ = _
    simp only [Act.put, List.setIfInBounds_toArray, List.set_cons_zero, List.set_cons_succ, i64_w, i32_w]
    rfl
  refine one_ (i := 10) (N := some 15) #[true, true, true, true, true, true, true, true, true, true, true, false, false] rfl rfl (one_of HT_.out (by kernel_rfl)) (by decide) (fun K hK => ?_)
  refine value_ (v := .slice (some ⟨w8.heap.size, 0, none⟩) 2 2) (w1 := w8.alloc (.cells #[.int .i64 c1, .int .i64 c2] 3)) (by rfl) rfl (by go_simp) ?_
  have hblk := blk_new w8 (.cells #[.int .i64 c1, .int .i64 c2] 3)
  have n1_ := Aside0.mk (((MapKept.heap_alloc w8 (.cells #[.int .i64 c1, .int .i64 c2] 3)).2 _ (blk_lt BK161.out)).trans BK161.out)
  have n2_ := Aside0.mk (((MapKept.heap_alloc w8 (.cells #[.int .i64 c1, .int .i64 c2] 3)).2 _ (blk_lt BK162.out)).trans BK162.out)
  have n3_ := Aside0.mk (HG.out.alloc (.cells #[.int .i64 c1, .int .i64 c2] 3))
  have hRd : Kd.R (Kd.int .i64) 3 (w8.alloc (.cells #[.int .i64 c1, .int .i64 c2] 3)) 0 (fun _ => True) (.slice (some ⟨w8.heap.size, 0, none⟩) 2 2) [c1, c2] :=
    Kd.R_of_own ⟨rfl, .inr ⟨w8.heap.size, 2, _, rfl, Nat.zero_le _, hblk, Nat.le_refl _, by unfold maxLen; simp, rfl, rfl⟩⟩ (fun _ _ => trivial)
  have HR := Aside0.mk (Kd.R_reads' hRd)
  clear BK161 BK162 HG hblk hRd
  have BK161 := n1_
  have BK162 := n2_
  have HG := n3_
  clear n1_ n2_ n3_
  generalize w8.alloc (.cells #[.int .i64 c1, .int .i64 c2] 3) = w9 at *
  generalize w8.heap.size = s8 at *
  refine hK.out _ _ ⟨(blk_cell BK161.out 0).trans rfl, (blk_cell BK161.out 1).trans rfl, (blk_cell BK162.out 0).trans rfl, (blk_cell BK162.out 1).trans rfl⟩ (fun hHeld => ?_)
  clear hK K
  refine norm_ (a' := ?_) ?_ ?_
  rotate_left
  · show Act.put _ (some 15) _ = _
    simp only [Act.put, List.setIfInBounds_toArray, List.set_cons_zero, List.set_cons_succ, i64_w, i32_w]
    rfl
  refine one_ (i := 11) (N := some 16) #[true, true, true, true, true, true, true, true, true, true, true, true, false] rfl rfl (one_of HT_.out (by kernel_rfl)) (by decide) (fun K hK => ?_)
  refine goes_ Try.func108 (by kernel_rfl) rfl #[.slice (some ⟨s8, 0, none⟩) 2 2] (by rfl) rfl rfl (by (try simp only [List.map_toArray, List.map_cons, List.map_nil]); first | done | rfl | (simp only [List.length_drop, List.length_take]; rfl)) ?_
  refine (cmp_Or_int.calls 3 (some ⟨s8, 0, none⟩) 2 [c1, c2] c3 w9 HR.out.2.2 (Nat.le_refl 2) HO.out).mono ?_
  rintro e w' ⟨rfl, ⟨nd, rfl⟩⟩
  refine ⟨_, rfl, ?_⟩
  refine hK.out _ _ ⟨(blk_cell BK161.out 0).trans rfl, (blk_cell BK161.out 1).trans rfl, (blk_cell BK162.out 0).trans rfl, (blk_cell BK162.out 1).trans rfl⟩ (fun hHeld => ?_)
  clear hK K
  refine norm_ (a' := ?_) ?_ ?_
  rotate_left
  · show Act.put _ (some 16) _ = _
    simp only [Act.put, List.setIfInBounds_toArray, List.set_cons_zero, List.set_cons_succ, i64_w, i32_w]
    rfl
  refine pure_ (i := 12) (N := some 4) (v := ?_) (a' := ?_) #[true, true, true, true, true, true, true, true, true, true, true, true, true] rfl rfl (any_of HT_.out (by kernel_rfl)) (fun _ _ _ h => h) (Or.inl ⟨by rfl, ?_⟩) ?_ ?_
  rotate_left
  · intro w'
    go_simp
    with_reducible rfl
  rotate_left
  · simp only [Act.put, List.setIfInBounds_toArray, List.set_cons_zero, List.set_cons_succ, i64_w, i32_w]
    rfl
  refine done_ (done_of HT_.out (by kernel_rfl)) ?_
  go_wp2
  go_ret
  exact ⟨by first | rfl | trivial, HG.out.drewN nd⟩
end Go.Proofs.Ytjedhjeijpbobaa.G8

/-! ## Sc -/
namespace Go.Proofs.Ytjedhjeijpbobaa.G8
open Go.RowKit Go.Shelf Go.Maps Go.Proofs.YtjedhjeijpbobaaW.PrintWords Go.Proofs.YtjedhjeijpbobaaW.PrintLast Go.Proofs.YtjedhjeijpbobaaW.PrintMore
set_option linter.unusedVariables false
set_option linter.unusedSimpArgs false
attribute [local go_sem] Oper.semAt_some
/-- A slice of cells, in blocks below n₀. -/
def CellsIn (n₀ : Nat) (W : World) (A : Option Addr) (zs : List (Int × Int)) : Prop :=
  ∀ (k : Nat) (z : Int × Int), zs[k]? = some z → ∃ b, A = some ⟨b, 0, none⟩ ∧ b < n₀ ∧ W.cell? ⟨b, k * 2, none⟩ = some (.int .i64 z.1) ∧ W.cell? ⟨b, k * 2 + 1, none⟩ = some (.int .i64 z.2)
theorem CellsIn.below {n₀ : Nat} {W W1 : World} {A : Option Addr} {zs : List (Int × Int)} (h : CellsIn n₀ W A zs) (hB : Below n₀ W W1) : CellsIn n₀ W1 A zs := fun k z hk => by
  obtain ⟨b, h1, h2, h3, h4⟩ := h k z hk
  exact ⟨b, h1, h2, (hB.cell (p := ⟨b, k * 2, none⟩) h2).trans h3, (hB.cell (p := ⟨b, k * 2 + 1, none⟩) h2).trans h4⟩
def encC (x : Int × Int) : Array Value := #[.agg #[.int .i64 x.1, .int .i64 x.2]]
set_option maxRecDepth 100000 in
set_option maxHeartbeats 4000000 in
theorem values1_in (F : Fence) (n : Nat) (h7 : F.fn 107) (hro : F.round = none) (hn : 1 ≤ n) (l Bs n₀ cap : Nat) (A : Option Addr) (zs : List (Int × Int)) (hreach : zs.length ≤ 1000000) (J Jx : List (Int × Int) → World → Prop)
    (hY : ∀ pre x W, J pre W → pre.length < zs.length → YieldAt F (n - 1) Try.prog l (encC x) W fun e W' =>
      (e = .returned (.bool true) ∧ J (pre ++ [x]) W' ∧ Below n₀ W W') ∨ (e = .returned (.bool false) ∧ Jx (pre ++ [x]) W'))
    (W : World) (hJ : AbidesFrom W.heap.size J) (hn₀ : n₀ ≤ W.heap.size) (hBs : W.cell? ⟨Bs, 0, none⟩ = some (.slice A zs.length cap)) (hc : CellsIn n₀ W A zs) (h0 : J [] W) :
    CallsIn F n Try.prog 107 #[.func (.yield l) #[] #[], .pointer (some ⟨Bs, 0, none⟩)] W fun e W' => (∃ v, e = .returned v) ∧
      ((∃ ys, ys = zs ∧ J ys W') ∨ (∃ pre, pre <+: zs ∧ Jx pre W')) := by
  have hu76 := Try.underlying76
  refine callsIn_of_wp Try.func107 rfl h7 ?_ hro
  simp only [Try.ntmps107, List.size_toArray, List.length_cons, List.length_nil, Nat.reduceAdd, Nat.reduceSub, Array.replicate_succ, Array.replicate_zero, List.push_toArray, List.append_toArray, List.nil_append, List.cons_append]
  gi_wp2
  gi_loopw [7] (fun i wr => ∃ k : Nat, k ≤ zs.length ∧ i = .int .i64 k ∧ J (zs.take k) wr ∧ Below n₀ W wr)
    (fun i _ => zs.length - (intOf i).toNat)
  case atStart => exact ⟨0, Nat.zero_le _, rfl, by simpa using h0, Below.refl _ _⟩
  case round =>
    obtain ⟨k, hk, rfl, hJs, hnx⟩ := hrel
    by_cases hlt : k < zs.length
    · obtain ⟨b, rfl, hb, hc0, hc1⟩ := (hc.below hnx) k zs[k] (List.getElem?_eq_getElem hlt)
      have hJ2 : J (zs.take k) (wr.alloc (.cells #[.int .i64 zs[k].1, .int .i64 zs[k].2] 76)) := hJ _ wr _ none hJs (World.grownBy_alloc wr _ none) (fun r e => by cases e)
      have hnx2 : Below n₀ W (wr.alloc (.cells #[.int .i64 zs[k].1, .int .i64 zs[k].2] 76)) := hnx.alloc (Nat.le_trans hn₀ hnx.size) _
      obtain ⟨fn, tmps, assign, body, hy, hR⟩ := hY _ zs[k] _ hJ2 (by rw [List.length_take]; omega)
      unfold encC at hy
      gi_wp2
      refine hR.mono ?_
      rintro e W3 (⟨rfl, hJ3, hk3⟩ | ⟨rfl, hJx3⟩)
      · gi_wp2
        go_roundw
        case rel => exact ⟨k + 1, by omega, by simp, by rw [List.take_succ_eq_append_getElem hlt]; exact hJ3, hnx2.trans hk3⟩
        case measure => simp [intOf]; omega
      · gi_wp2
        refine bodyPost_ret (results_none rfl _ _ _) rfl ?_
        exact ⟨⟨_, rfl⟩, .inr ⟨zs.take (k + 1), List.take_prefix _ _, by rw [List.take_succ_eq_append_getElem hlt]; exact hJx3⟩⟩
    · obtain rfl : k = zs.length := by omega
      gi_wp2
      go_end0
      exact ⟨⟨_, rfl⟩, .inl ⟨_, rfl, by simpa using hJs⟩⟩
theorem values_stops (F : Fence) (n : Nat) (h7 : F.fn 107) (hro : F.round = none) (hn : 1 ≤ n) (Bs n₀ cap : Nat) (A : Option Addr) (zs : List (Int × Int)) (hreach : zs.length ≤ 1000000) (w : World) (hBs : Bs < w.heap.size) (hn₀ : n₀ ≤ w.heap.size)
    (hc : w.cell? ⟨Bs, 0, none⟩ = some (.slice A zs.length cap)) (hI : CellsIn n₀ w A zs) :
    SeqStopsK F n Try.prog 107 #[.pointer (some ⟨Bs, 0, none⟩)] encC (Below n₀) (fun ys => ys = zs) (fun pre => pre <+: zs) zs.length w := fun l J Jx W hW hJ _ hY h0 =>
  values1_in F n h7 hro hn l Bs n₀ cap A zs hreach J Jx hY W hJ (Nat.le_trans hn₀ hW.size) ((hW.cell (p := ⟨Bs, 0, none⟩) hBs).trans hc) (hI.below (hW.mono hn₀)) h0
/-- The loop's variable, boxed. -/
def AxC (m : Nat) (mk : Int × Int → Nat → Act) (x : Int × Int) (a' : Act) (W : World) : Prop := ∃ Bx, m < Bx ∧ W.heap[Bx]? = some (.cells #[.int .i64 x.1, .int .i64 x.2] 76 (0, 0)) ∧ a' = mk x Bx
theorem AxC.own (B m : Nat) (mk : Int × Int → Nat → Act) (x : Int × Int) (a' : Act) : OwnFrom B (fun (_ : Unit) W => AxC m mk x a' W) := by
  rintro _ W W' row ⟨Bx, h1, h2, h3⟩ hg hr
  refine ⟨Bx, h1, (hg.block Bx (blk_lt h2) (fun e => ?_)).trans h2, h3⟩
  obtain ⟨_, o, ho, hc⟩ := hr Bx e.symm
  rw [h2] at ho
  cases ho
  cases hc
set_option maxRecDepth 100000 in
set_option maxHeartbeats 4000000 in
theorem appendSeq_in (F : Fence) (n : Nat) (h110 : F.fn 110) (h107 : F.fn 107) (hro : F.round = none) (hn : 3 ≤ n) (Bs cap : Nat) (A : Option Addr) (zs : List (Int × Int)) (hlen : zs.length ≤ 1000000) (w : World) (hBs : Bs < w.heap.size)
    (hc : w.cell? ⟨Bs, 0, none⟩ = some (.slice A zs.length cap)) (hI : CellsIn w.heap.size w A zs) :
    CallsIn F n Try.prog 110 #[.slice none 0 0, .func (.func 107) #[] #[.pointer (some ⟨Bs, 0, none⟩)]] w fun e W' => ∃ v, e = .returned v ∧ W'.ownsRow w.heap.size 76 2 v zs.length (flat zs) ∧ Below w.heap.size w W' := by
  have hu76 := Try.underlying76
  have h1 : 1 ≤ n := by omega
  obtain ⟨i0, hi0, hz⟩ := Option.map_eq_some_iff.1 info76s
  simp only [Prod.mk.injEq] at hz
  obtain ⟨hz0, hz1, hz2⟩ := hz
  refine callsIn_of_wp_marks Try.func110 rfl h110 ?_ hro
  simp only [Try.ntmps110, List.size_toArray, List.length_cons, List.length_nil, Nat.reduceAdd, Nat.reduceSub, Array.replicate_succ, Array.replicate_zero, List.push_toArray, List.append_toArray, List.nil_append, List.cons_append]
  gi_wp2
  have bO := Boxed.new w 68 (.slice none 0 0)
  have hB0 : Below w.heap.size w (w.alloc (.cells #[.slice none 0 0] 68)) := (Below.refl _ w).alloc (Nat.le_refl _) _
  obtain ⟨W0, hW0⟩ : ∃ W0, w.alloc (.cells #[.slice none 0 0] 68) = W0 := ⟨_, rfl⟩
  have hsz : W0.heap.size = w.heap.size + 1 := by rw [← hW0]; simp
  have hcB : W0.cell? ⟨Bs, 0, none⟩ = some (.slice A zs.length cap) := by rw [← hW0]; exact (hB0.cell (p := ⟨Bs, 0, none⟩) hBs).trans hc
  have hI0 : CellsIn w.heap.size W0 A zs := by rw [← hW0]; exact hI.below hB0
  rw [hW0] at bO hB0 ⊢
  refine wpIn_rangeFunc_ownH hro h1 (gf := 107) (lb := #[.pointer (some ⟨Bs, 0, none⟩)]) rfl h107 (enters_of Try.func107 (by kernel_rfl) rfl)
    (values_stops F (n - 1) h107 hro (by omega) Bs w.heap.size cap A zs hlen W0 (by omega) (by omega) hcB hI0) belowK_t (belowK_b (by omega)) (Below.refl _ _) (fun _ => rfl)
    (fun pre W => (∃ v, Boxed W w.heap.size 68 v ∧ W.ownsRow w.heap.size 76 2 v pre.length (flat pre) ∧ True) ∧ Below w.heap.size w W)
    (fun _ _ _ => False)
    (OwnFrom.and (Own.from (holdsRow_own w.heap.size w.heap.size 68 76 2 (fun pre : List (Int × Int) => pre.length) (fun pre => flat pre) (fun _ _ => True)) _) (ownFrom_below (Nat.le_refl _) (by omega)))
    (fun _ _ _ _ _ hs _ _ => hs)
    ⟨⟨_, bO, World.ownsRow_nil _ _ _ _, trivial⟩, hB0⟩
    (AxC w.heap.size (fun x Bx => { tmps := #[.slice none 0 0, .func (.func 107) #[] #[.pointer (some ⟨Bs, 0, none⟩)], .pointer (some ⟨w.heap.size, 0, none⟩), undef, .slice none 0 0, .pointer (some ⟨Bx, 0, none⟩), .func (.func 107) #[] #[.pointer (some ⟨Bs, 0, none⟩)], .agg #[.int .i64 x.1, .int .i64 x.2], undef, undef, undef, undef, undef], defers := [] }))
    (fun x a' => AxC.own _ _ _ x a') ?assign ?body ?done ?stop
  case assign =>
    rintro l pre x W K ⟨⟨v, hv, hrow, _⟩, hB⟩ hK
    unfold encC
    gi_wp2
    exact hK _ _ ((KeepsOthers.alloc _ _).from _) ((Below.refl _ W).alloc hB.size _) ⟨⟨v, hv.alloc _, hrow.alloc _, trivial⟩, hB.alloc hB.size _⟩ ⟨W.heap.size, hv.lt, World.alloc_heap_new W _, rfl⟩
  case body =>
    rintro l pre x a' W hl ⟨r, hr⟩ ⟨⟨v, hv, hrow, _⟩, hB⟩ ⟨Bx, hBx, bX, rfl⟩ hlt
    have hc := hv.cell
    have hf := hv.frozen
    have x0 := blk_cell bX 0
    have x1 := blk_cell bX 1
    simp only [List.getElem?_toArray, List.getElem?_cons_succ, List.getElem?_cons_zero] at x0 x1
    have hsB := hB.size
    have hml : pre.length + 1 ≤ maxLen := by unfold maxLen; omega
    gi_wp2_with (gi_at_builtin; refine wpListIn_append_own _ rfl _ _ 68 rfl w.heap.size 76 i0 (.agg #[.int .i64 0, .int .i64 0]) 2 16 Try.underlying68 hi0 hz0 hz1 hz2 rfl (by decide) _ _ _ rfl (hrow.alloc _) ⟨W.heap.size, 0, none⟩ 1 1 [.int .i64 x.1, .int .i64 x.2] rfl rfl (World.news_of_block (World.alloc_heap_new W _)) (by intro u hu; simp at hu; rcases hu with rfl | rfl <;> rfl) hml (by omega) (by simp; omega) ?_; intro v' w1 hown' hgrow _; obtain ⟨g', cap', rfl⟩ := ownsRow_succ hown'; obtain ⟨hv1, hv2, hr2, hk2, hb2⟩ := hv.appended (by decide) hrow hB.size (Nat.le_refl _) hown' hgrow; have hc1 := hv1.cell; have hf1 := hv1.frozen)
    exact ⟨hk2.from _, hb2, ⟨_, hv2, by rw [flat_app, List.length_append, List.length_singleton]; exact hr2, trivial⟩, hB.trans hb2⟩
  case done =>
    rintro D ys W hD rfl ⟨⟨v, hv, hrow, _⟩, hB⟩ hK
    have hc := hv.cell
    gi_wp2
    refine ⟨by simp, .inl ⟨_, _, rfl, run_takeDeferred hK, ?_⟩⟩
    exact ⟨_, results_tmp rfl _ _ _, v, rfl, ownsRow_putObj hrow _ hK rfl, hB.trans (belowK_b (w := w) (Nat.le_refl _) W D _ _ (by omega) hK rfl rfl)⟩
  case stop =>
    rintro D c pre W _ _ h _
    exact h.elim
end Go.Proofs.Ytjedhjeijpbobaa.G8

/-! ## Sd -/
namespace Go.Proofs.Ytjedhjeijpbobaa.G8
open Go.RowKit Go.Shelf Go.Sort Go.Lib Go.Proofs.YtjedhjeijpbobaaW.PrintWords Go.Proofs.YtjedhjeijpbobaaW.PrintLast Go.Proofs.YtjedhjeijpbobaaW.PrintMore
set_option linter.unusedVariables false
set_option linter.unusedSimpArgs false
theorem flat_get : ∀ (ds : List (Int × Int)) (i : Nat) (c : Int × Int), ds[i]? = some c → (flat ds)[i * 2]? = some (.int .i64 c.1) ∧ (flat ds)[i * 2 + 1]? = some (.int .i64 c.2)
  | d :: ds, 0, c, h => by simp at h; subst h; exact ⟨rfl, rfl⟩
  | d :: ds, i + 1, c, h => by
    have := flat_get ds i c (by simpa using h)
    have e1 : (i + 1) * 2 = i * 2 + 1 + 1 := by omega
    have e2 : (i + 1) * 2 + 1 = (i * 2 + 1) + 1 + 1 := by omega
    rw [e2, e1]
    exact this
theorem flat_len (ds : List (Int × Int)) : (flat ds).length = ds.length * 2 := by
  induction ds with
  | nil => rfl
  | cons d ds ih =>
    show ((flat ds).length + 1 + 1) = _
    rw [ih, List.length_cons]
    omega
def encL (x : Int × Int) : List Value := [.int .i64 x.1, .int .i64 x.2]
theorem flatK_flat (ds : List (Int × Int)) : flatK encL 2 ds.toArray = (flat ds).toArray := by
  apply Array.ext_getElem?
  intro j
  by_cases hj : j < ds.length * 2
  · have hs : j < (flatK encL 2 ds.toArray).size := by rw [size_flatK]; simpa using hj
    rw [Array.getElem?_eq_getElem hs]
    have h1 := get_flatK encL 2 ds.toArray j (by simpa using hj)
    rw [getElem!_pos _ j hs] at h1
    rw [h1]
    have hi : j / 2 < ds.length := by omega
    have h2 : (ds.toArray)[j / 2]! = ds[j / 2] := by
      rw [getElem!_pos _ _ (by simpa using hi)]
      simp
    rw [h2]
    obtain ⟨f0, f1⟩ := flat_get ds (j / 2) ds[j / 2] (List.getElem?_eq_getElem hi)
    rw [List.getElem?_toArray]
    rcases Nat.mod_two_eq_zero_or_one j with hm | hm
    · rw [hm]
      have e : j / 2 * 2 = j := by omega
      rw [e] at f0
      rw [f0]
      rfl
    · rw [hm]
      have e : j / 2 * 2 + 1 = j := by omega
      rw [e] at f1
      rw [f1]
      rfl
  · rw [Array.getElem?_eq_none (by rw [size_flatK]; simpa using hj), List.getElem?_toArray, List.getElem?_eq_none (by rw [flat_len]; omega)]
theorem holdsK_of {w : World} {g : Nat} {cur : Array Value} {zs : List (Int × Int)} (hb : w.heap[g]? = some (.cells cur 76 (0, 0))) (ht : cur.toList.take (zs.length * 2) = flat zs) : HoldsK encL 2 w g 0 zs.toArray := by
  unfold HoldsK
  rw [flatK_flat]
  intro j hj
  have hj' : j < zs.length * 2 := by simpa [flat_len] using hj
  refine ⟨?_, blk_frozen hb _⟩
  rw [Nat.zero_add, blk_cell hb j]
  have h1 : (cur.toList.take (zs.length * 2))[j]? = (flat zs)[j]? := by rw [ht]
  rw [List.getElem?_take_of_lt hj'] at h1
  rw [← Array.getElem?_toList, h1, List.getElem?_eq_getElem (by rw [flat_len]; exact hj')]
  rw [getElem!_pos _ j (by simpa [flat_len] using hj')]
  simp
theorem heap_sortK {w : World} {g n : Nat} {os : Array Obj} {cur : Array Value} {F : Array Value} (hb : w.heap[g]? = some (.cells cur 76 (0, 0))) :
    (grow (putRow id (Sort.ahead w n) g 0 F) os).heap[g]? = some (.cells (putCells id 0 F cur) 76 (0, 0)) := by
  have hg : g < w.heap.size := (Array.getElem?_eq_some_iff.1 hb).1
  rw [heap_grow_old _ _ (by simpa using hg)]
  simp [putRow, mapBlock, Sort.ahead, Array.getElem?_modify, hb, onCells]
theorem grownBy_sortK {w : World} {g n : Nat} {os : Array Obj} (F : Array Value) : w.grownBy (grow (putRow id (Sort.ahead w n) g 0 F) os) (some g) := by
  refine ⟨rfl, rfl, rfl, by simp, fun k hk hne => ?_⟩
  rw [heap_grow_old _ _ (by simpa using hk)]
  have : g ≠ k := fun e => hne (by rw [e])
  simp [putRow, mapBlock, Sort.ahead, Array.getElem?_modify, this]
theorem take_putK (cur : Array Value) (xs : List Value) (h : xs.length ≤ cur.size) : (putCells id 0 xs.toArray cur).toList.take xs.length = xs := by
  apply List.ext_getElem?
  intro j
  by_cases hj : j < xs.length
  · rw [List.getElem?_take_of_lt hj, Array.getElem?_toList]
    simp [putCells, hj, show j < cur.size by omega]
  · rw [List.getElem?_take_eq_none (by omega), List.getElem?_eq_none (by omega)]
instance (c d : Int × Int) : Decidable (lexLt c d) := by unfold lexLt; infer_instance
theorem ltOf_lex (x y : Int × Int) : ltOf cmpV x y = decide (lexLt x y) := by
  unfold ltOf cmpV lexLt compareInt
  by_cases h1 : x.1 < y.1
  · simp [h1]
  · by_cases h2 : y.1 < x.1
    · have h3 : ¬ x.1 = y.1 := by omega
      simp [h1, h2, h3]
    · have h3 : x.1 = y.1 := by omega
      by_cases h4 : x.2 < y.2
      · simp [h3, h4]
      · by_cases h5 : y.2 < x.2 <;> simp [h3, h4, h5]
theorem lex_trans {a b c : Int × Int} (h : lexLt a b) (k : lexLt b c) : lexLt a c := by unfold lexLt at *; omega
theorem lex_ntrans {a b c : Int × Int} (h : ¬ lexLt a b) (k : ¬ lexLt b c) : ¬ lexLt a c := by unfold lexLt at *; omega
theorem lex_total {a b : Int × Int} (h : ¬ lexLt a b) (k : ¬ lexLt b a) : a = b := by
  unfold lexLt at *
  have h1 : a.1 = b.1 := by omega
  have h2 : a.2 = b.2 := by omega
  exact Prod.ext h1 h2
theorem swoC : SWO (ltOf cmpV) where
  irrefl x := by rw [ltOf_lex]; exact decide_eq_false (lex_irrefl x)
  trans x y z h1 h2 := by rw [ltOf_lex] at *; exact decide_eq_true (lex_trans (of_decide_eq_true h1) (of_decide_eq_true h2))
  ntrans x y z h1 h2 := by rw [ltOf_lex] at *; exact decide_eq_false (lex_ntrans (of_decide_eq_false h1) (of_decide_eq_false h2))
theorem totC (x y : Int × Int) (h1 : ltOf cmpV x y = false) (h2 : ltOf cmpV y x = false) : x = y := by
  rw [ltOf_lex] at *
  exact lex_total (of_decide_eq_false h1) (of_decide_eq_false h2)
/-- Cells in order. -/
def sortC (zs : List (Int × Int)) : List (Int × Int) := zs.mergeSort fun x y => !ltOf cmpV y x
theorem sortC_perm (zs : List (Int × Int)) : (sortC zs).Perm zs := List.mergeSort_perm _ _
theorem sortC_len (zs : List (Int × Int)) : (sortC zs).length = zs.length := (sortC_perm zs).length_eq
theorem cmpLays (blk off size : Nat) (w : World) : CmpLays Try.prog 102 #[] encL 2 cmpV blk off size w := fun _ _ _ _ x y => compareCells_gr x y _
theorem sort_some (blk cap : Nat) (zs : List (Int × Int)) (w : World) (hlen : zs.length ≤ 1000000) (hH : HoldsK encL 2 w blk 0 zs.toArray) (hblk : blk < w.heap.size) :
    Calls Try.prog 106 #[.slice (some ⟨blk, 0, none⟩) zs.length cap, .func (.func 102) #[] #[]] w fun e w' => e = .returned (.tuple #[]) ∧ ∃ n os, w' = grow (putRow id (Sort.ahead w n) blk 0 (flat (sortC zs)).toArray) os := by
  have eg : ∀ args w, (callFunc 102 args).run Try.prog w = .ok (.enter 102 args) w := enters_of Try.func102 (by kernel_rfl) rfl
  have h := AnyQ.slices_SortFunc_total Try.sortCells 2 Try.isAgg76 Try.sizeOf76 encL (fun _ => rfl) (fun x v hv => by simp [encL] at hv; rcases hv with rfl | rfl <;> rfl) cmpV swoC 102 #[] blk 0 cap zs.toArray w eg (cmpLays blk 0 zs.toArray.size w) hH hblk (by simp; omega) totC
  refine (show Calls Try.prog 106 #[.slice (some ⟨blk, 0, none⟩) zs.length cap, .func (.func 102) #[] #[]] w _ from h).mono ?_
  rintro e w' ⟨he, n, os, hw⟩
  refine ⟨he, n, os, ?_⟩
  rw [hw]
  unfold sortWorldK putRowK
  rw [flatK_flat]
  rfl
theorem sort_none (p : Option Addr) (cap : Nat) (w : World) : Calls Try.prog 106 #[.slice p 0 cap, .func (.func 102) #[] #[]] w fun e w' => e = .returned (.tuple #[]) ∧ w' = w :=
  AnyF.slices_SortFunc_none (P := Try.prog) (ρ := Try.sortCells_ren) { Try.sortCells with } p cap (.func (.func 102) #[] #[]) w
set_option maxHeartbeats 1000000 in
theorem values_calls (A : Option Addr) (n c : Nat) (w : World) : Calls Try.prog 101 #[.slice A n c] w fun e w' => e = .returned (.func (.func 107) #[] #[.pointer (some ⟨w.heap.size, 0, none⟩)]) ∧ w' = w.alloc (.cells #[.slice A n c] 68) := by
  go_enter Try.func101, Try.ntmps101
  go_wp2
  go_ret
  exact ⟨rfl, rfl⟩
theorem appendSeq_calls (Bs cap : Nat) (A : Option Addr) (zs : List (Int × Int)) (hlen : zs.length ≤ 1000000) (w : World) (hBs : Bs < w.heap.size) (hc : w.cell? ⟨Bs, 0, none⟩ = some (.slice A zs.length cap)) (hI : CellsIn w.heap.size w A zs) :
    Calls Try.prog 110 #[.slice none 0 0, .func (.func 107) #[] #[.pointer (some ⟨Bs, 0, none⟩)]] w fun e W' => ∃ v, e = .returned v ∧ W'.ownsRow w.heap.size 76 2 v zs.length (flat zs) ∧ Below w.heap.size w W' :=
  (callsIn_wide (n := 3)).1 (appendSeq_in Fence.wide 3 trivial trivial rfl (Nat.le_refl _) Bs cap A zs hlen w hBs hc hI)
set_option maxHeartbeats 1000000 in
theorem collect_calls (Bs cap : Nat) (A : Option Addr) (zs : List (Int × Int)) (hlen : zs.length ≤ 1000000) (w : World) (hBs : Bs < w.heap.size) (hc : w.cell? ⟨Bs, 0, none⟩ = some (.slice A zs.length cap)) (hI : CellsIn w.heap.size w A zs) :
    Calls Try.prog 105 #[.func (.func 107) #[] #[.pointer (some ⟨Bs, 0, none⟩)]] w fun e W' => ∃ v, e = .returned v ∧ W'.ownsRow w.heap.size 76 2 v zs.length (flat zs) ∧ Below w.heap.size w W' := by
  have HA := Aside0.mk (appendSeq_calls Bs cap A zs hlen w hBs hc hI)
  go_enter Try.func105, Try.ntmps105
  go_wp2_with (go_at_call 110; refine HA.out.mono ?_; rintro e w1 ⟨v, rfl, ho, hB⟩)
  go_ret
  exact ⟨v, rfl, ho, hB⟩
/-- What SortedFunc hands back: a slice of the cells in order. -/
def SortOut (w : World) (zs : List (Int × Int)) (e : Ending) (w' : World) : Prop := ∃ v, e = .returned v ∧ w'.ownsRow w.heap.size 76 2 v zs.length (flat (sortC zs)) ∧ Below w.heap.size w w'
set_option maxHeartbeats 2000000 in
theorem sortedFunc_calls (Bs cap : Nat) (A : Option Addr) (zs : List (Int × Int)) (hlen : zs.length ≤ 1000000) (w : World) (hBs : Bs < w.heap.size) (hc : w.cell? ⟨Bs, 0, none⟩ = some (.slice A zs.length cap)) (hI : CellsIn w.heap.size w A zs) :
    Calls Try.prog 100 #[.func (.func 107) #[] #[.pointer (some ⟨Bs, 0, none⟩)], .func (.func 102) #[] #[]] w (SortOut w zs) := by
  have HA := Aside0.mk (collect_calls Bs cap A zs hlen w hBs hc hI)
  go_enter Try.func100, Try.ntmps100
  go_upto_region 2 with (go_at_call 105; refine HA.out.mono ?_; rintro e w1 ⟨v, rfl, ho, hB⟩)
  rcases ho.2 with ⟨hnil, hz⟩ | ⟨g, cap1, cur, rfl, hbase, hb, h1, h2, h3, h4⟩
  · subst hnil
    have hz0 : zs = [] := List.length_eq_zero_iff.1 hz
    subst hz0
    go_wp2_with (go_at_call 106; refine (sort_none _ _ _).mono ?_; rintro e w2 ⟨rfl, rfl⟩)
    go_ret
    have e0 : sortC [] = [] := by simp [sortC]
    exact ⟨_, rfl, by rw [e0]; exact ho, hB⟩
  · have HS := Aside0.mk (sort_some g cap1 zs w1 hlen (holdsK_of hb h4) (blk_lt hb))
    have HO : Aside0 (∀ (n : Nat) (os : Array Obj), (grow (putRow id (Sort.ahead w1 n) g 0 (flat (sortC zs)).toArray) os).ownsRow w.heap.size 76 2 (.slice (some ⟨g, 0, none⟩) zs.length cap1) zs.length (flat (sortC zs)) ∧ Below w.heap.size w (grow (putRow id (Sort.ahead w1 n) g 0 (flat (sortC zs)).toArray) os)) := ⟨fun n os => by
      have hfl : (flat (sortC zs)).length = zs.length * 2 := by rw [flat_len, sortC_len]
      have hcs : zs.length * 2 ≤ cur.size := by rw [h3]; exact Nat.mul_le_mul_right _ h1
      refine ⟨⟨hfl, .inr ⟨g, cap1, _, rfl, hbase, heap_sortK hb, h1, h2, ?_, ?_⟩⟩, hB.grown (grownBy_sortK _) hB.size (fun j e => by cases e; exact hbase)⟩
      · rw [← h3]; simp [putCells]
      · rw [← hfl]; exact take_putK cur _ (by omega)⟩
    clear hb h1 h2 h3 h4 ho
    go_wp2_with (go_at_call 106; refine HS.out.mono ?_; rintro e w2 ⟨rfl, n, os, rfl⟩)
    go_ret
    exact ⟨_, rfl, (HO.out n os).1, (HO.out n os).2⟩
end Go.Proofs.Ytjedhjeijpbobaa.G8
