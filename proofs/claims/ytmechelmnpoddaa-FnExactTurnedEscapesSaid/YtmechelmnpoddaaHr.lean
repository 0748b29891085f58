/-
  The walk of slices.Repeat at a list of one number, by a contract.
-/
import Derived.Test.YtmechelmnpoddaaHd
import Derived.Test.YtmechelmnpoddaaSh
import Derived.Laws.CopyOwn
import Derived.Deep.RegionLaw
namespace Go.Proofs.Ytmechelmnpoddaa.H7
open Go.RowKit Go.Proofs.YtmechelmnpoddaaW.PrintWords Go.Proofs.YtmechelmnpoddaaW.PrintLast Go.Proofs.YtmechelmnpoddaaW.PrintMore
open Go.Proofs.Ytmechelmnpoddaa.A7
open Es (nth)
set_option linter.unusedVariables false
set_option linter.unusedSimpArgs false

/-- The row in the midst: n places filled. -/
def filled (k N n : Nat) : List Value := List.replicate n (.int .i64 (k : Int)) ++ List.replicate (N - n) (.int .i64 0)
theorem filled_length {k N n : Nat} (h : n ≤ N) : (filled k N n).length = N := by simp [filled]; omega
theorem filled_all (k N : Nat) : filled k N N = nums .i64 (ints (List.replicate N k)) := by simp [filled, ints, nums]
theorem filled_get {k N n j : Nat} (hj : j < n) : (filled k N n)[j]? = some (.int .i64 (k : Int)) := by
  unfold filled
  rw [List.getElem?_append_left (by simpa using hj)]
  simp [hj]
theorem filled_splice {k N n m : Nat} (h : n + m ≤ N) : splice (filled k N n) n (List.replicate m (.int .i64 (k : Int))) = filled k N (n + m) := by
  unfold splice filled
  rw [List.take_append_of_le_length (by simp), List.take_of_length_le (by simp), List.drop_append]
  simp only [List.length_replicate, List.drop_replicate]
  rw [show n - (n + m) = 0 by omega, show n + m - n = m by omega, show N - n - m = N - (n + m) by omega]
  simp [List.replicate_append_replicate, ← List.append_assoc]
theorem filled_made (k N : Nat) : (madeCells #[.int .i64 0] N).toList = filled k N 0 := by
  simp only [filled, madeCells]
  apply List.ext_getElem
  · simp
  · intro i h1 h2
    simp [Nat.mod_one]
theorem filled_own {W : World} {base g k N : Nat} (hb : base ≤ g) (hN : N ≤ 100000) (h : W.heap[g]? = some (.cells (filled k N N).toArray 3 (0, 0))) :
    W.ownsRow base 3 1 (.slice (some ⟨g, 0, none⟩) N N) N (nums .i64 (ints (List.replicate N k))) := by
  refine ⟨by simp [ints, nums], .inr ⟨g, N, _, rfl, hb, h, Nat.le_refl _, by unfold maxLen; omega, by simp [filled], ?_⟩⟩
  rw [← filled_all]
  exact List.take_of_length_le (by simp [filled])

def R9.T : Bool × List (List Nat × List Nat) := (true, [([], []), ([], []), ([], []), ([1, 2], [1, 2]), ([], []), ([], []), ([4, 5], [4, 5]), ([3, 6], [3, 6]), ([0, 7], [0, 7]), ([8, 7, 0, 1, 2, 3, 4, 5, 6, 7, 8], [0, 2, 5, 8])])
def R9.B : List Nat := [0, 0, 0, 6, 0, 0, 48, 126, 255, 511]
theorem R9.tab : rtab .any (opsOf Try.f85 9) = R9.T := by kernel_rfl
theorem R9.bits : waitsOk R9.T.2 R9.B = true := by kernel_rfl
set_option maxHeartbeats 1000000 in
set_option maxRecDepth 100000 in
theorem repeat_calls (gx k N : Nat) (w : World) (h1 : 1 ≤ N) (h2 : N ≤ 130) (hx : w.cell? ⟨gx, 0, none⟩ = some (.int .i64 (k : Int))) (hgx : gx < w.heap.size) :
    Calls Try.prog 85 #[.slice (some ⟨gx, 0, none⟩) 1 1, .int .i64 (N : Int)] w fun e' w' => ∃ v, e' = .returned v ∧ w'.ownsRow w.heap.size 3 1 v N (nums .i64 (ints (List.replicate N k))) ∧ Below w.heap.size w w' := by
  have HM : ∀ W, Calls Try.prog 90 #[.int .u64 1, .int .u64 (N : Int)] W fun e w' => e = .returned (.tuple #[.int .u64 0, .int .u64 (N : Int)]) ∧ w' = W := fun W => by
    have := Try.bits_Mul 1 N (by decide) (by omega) W
    rw [show 1 * N / 18446744073709551616 = 0 by omega, show 1 * N % 18446744073709551616 = N by omega] at this
    exact this
  have HM := Aside0.mk HM
  have hmk := print_make (P := Try.prog) 34 3 .i64 8 Try.underlying34 info3 (by decide) N (by omega)
  have hw1 : IntKind.u64.wrap (N : Int) = (N : Int) := by unfold IntKind.wrap; simp [IntKind.bits, IntKind.signed]; omega
  have hw2 : IntKind.i64.wrap (N : Int) = (N : Int) := IntWalk.i64_in _ (by omega)
  have hM0 : ∀ W : World, (W.alloc (.cells (madeCells #[.int .i64 0] N) 3)).heap[W.heap.size]? = some (.cells (filled k N 0).toArray 3 (0, 0)) := fun W => by
    have h := blk_new W (.cells (madeCells #[.int .i64 0] N) 3)
    rw [← filled_made]
    simpa using h
  have hM0 := Aside0.mk hM0
  have hX := Aside0.mk hx
  have hlen := Aside0.mk (filled_length (k := k) (Nat.zero_le N))
  clear hx
  generalize hF0 : filled k N 0 = F0 at hM0 hlen
  have hF0 := Aside0.mk hF0
  have hP : ∀ j v, [Value.int .i64 (k : Int)][j]? = some v → (w.alloc (.cells (madeCells #[.int .i64 0] N) 3)).cell? ((⟨gx, 0, none⟩ : Addr).add j) = some v := fun j v hj => by
    match j, hj with
    | 0, hj =>
      simp at hj
      subst hj
      exact (World.cell?_alloc_lt _ _ _ hgx).trans hX.out
  have hP := Aside0.mk hP
  go_enter Try.func85, Try.ntmps85
  go_upto_region 7 with (go_at_call 90; refine (HM.out _).mono ?_; rintro e w' ⟨rfl, hw'⟩; subst w')
  go_wp2_with (refine wpList_copy_splice (o := ⟨some 33, _, _, _, _, _⟩) rfl (.tmp 31) (.tmp 32) 34 34 rfl 3 Try.underlying34 (by rfl) _ _ _ _ _ _ rfl rfl w.heap.size 0 F0 3 (hM0.out w) [.int .i64 (k : Int)] (by show 1 = min 1 N; omega) (fun _ => ⟨rfl, _, rfl, hP.out⟩) (by rw [hlen.out]; show 0 + 1 ≤ N; omega) (by intro v hv; simp at hv; subst hv; rfl) w.heap.size w (below_alloc (Below.refl _ _) _) (Nat.le_refl _) ?_; intro w1 hG1 hB1)
  have G1 : w1.heap[w.heap.size]? = some (.cells (filled k N 1).toArray 3 (0, 0)) := by
    have := hG1.out
    rw [← hF0.out] at this
    rw [show [Value.int .i64 (k : Int)] = List.replicate 1 (Value.int .i64 (k : Int)) from rfl, filled_splice (by omega)] at this
    simpa using this
  have G1 := Aside0.mk G1
  have B1 := Aside0.mk hB1
  clear hG1 hB1 hP hM0 hX hlen hF0 HM hmk
  go_loopg [8] N (fun kq v8 wr => ∃ n : Nat, v8 = .int .i64 (n : Int) ∧ Aside0 (1 ≤ n ∧ n ≤ N ∧ N - n ≤ kq) ∧ Aside0 (wr.heap[w.heap.size]? = some (.cells (filled k N n).toArray 3 (0, 0))) ∧ Aside0 (Below w.heap.size w wr))
  case atStart => exact ⟨1, rfl, ⟨by omega⟩, G1, B1⟩
  case round =>
    clear G1 B1
    obtain ⟨n, rfl, hn, hG, hB⟩ := hrel
    have hn0 := hn.out
    clear hn
    obtain ⟨hn1, hn2, hn3⟩ := hn0
    by_cases hlt : n < N
    · have hc : (n : Int) < (N : Int) := by omega
      obtain ⟨m, hm⟩ : ∃ m, m = min n (N - n) := ⟨_, rfl⟩
      have hS : ∀ j v, (List.replicate m (Value.int .i64 (k : Int)))[j]? = some v → wr.cell? ((⟨w.heap.size, 0, none⟩ : Addr).add j) = some v := fun j v hj => by
        rw [List.getElem?_replicate] at hj
        split at hj
        · rename_i hjm
          have h := (blk_cell hG.out j).trans (show _ from (by simpa using filled_get (k := k) (N := N) (n := n) (j := j) (by omega)))
          rw [← Option.some.inj hj]
          unfold Addr.add
          split
          · rename_i h0; subst h0; exact h
          · simpa using h
        · cases hj
      have hS := Aside0.mk hS
      have hNn : ¬ N = n := by omega
      have hfl := Aside0.mk (filled_length (k := k) hn2)
      have hsp := Aside0.mk (filled_splice (k := k) (N := N) (n := n) (m := m) (by omega))
      have hwn : IntKind.i64.wrap ((n : Int) + (m : Int)) = (n : Int) + (m : Int) := IntWalk.i64_in _ (by omega)
      have hmm := Aside0.mk hm
      clear hm
      go_upto_region 9 with (fail)
      refine start_ (n := 10) (S := fun w' => True) (ds := []) #[false, false, false, false, false, false, false, false, false, false] (by kernel_rfl) rfl rfl trivial (fun hHeld => ?_)
      refine with_tabW R9.tab R9.bits (fun HT_ HW_ => ?_)
      generalize hwd : wr.drew = W9
      have hG9 : W9.heap[w.heap.size]? = some (.cells (filled k N n).toArray 3 (0, 0)) := by rw [← hwd]; exact hG.out
      have hB9 : Below w.heap.size w W9 := by rw [← hwd]; exact pw_below_drewN hB.out 1
      have hS9 : ∀ j v, (List.replicate m (Value.int .i64 (k : Int)))[j]? = some v → W9.cell? ((⟨w.heap.size, 0, none⟩ : Addr).add j) = some v := by rw [← hwd]; exact hS.out
      have hG9 := Aside0.mk hG9
      have hB9 := Aside0.mk hB9
      have hS9 := Aside0.mk hS9
      clear hwd hG hB hS
      refine pure_ (i := 0) (N := some 38) (v := ?_) (a' := ?_) #[true, false, false, false, false, false, false, false, false, false] rfl rfl (any_of HT_.out (by kernel_rfl)) (fun _ _ _ h => h) (Or.inl ⟨by rfl, ?_⟩) ?_ ?_
      rotate_left
      · intro w'
        go_simp
        with_reducible rfl
      rotate_left
      · simp only [Act.put, List.setIfInBounds_toArray, List.set_cons_zero, List.set_cons_succ, i64_w, i32_w]
        rfl
      refine pure_ (i := 1) (N := some 39) (v := ?_) (a' := ?_) #[true, true, false, false, false, false, false, false, false, false] rfl rfl (any_of HT_.out (by kernel_rfl)) (fun _ _ _ h => h) (Or.inl ⟨by rfl, ?_⟩) ?_ ?_
      rotate_left
      · intro w'
        go_simp
        with_reducible rfl
      rotate_left
      · simp only [Act.put, List.setIfInBounds_toArray, List.set_cons_zero, List.set_cons_succ, i64_w, i32_w]
        rfl
      refine pure_ (i := 2) (N := some 40) (v := ?_) (a' := ?_) #[true, true, true, false, false, false, false, false, false, false] rfl rfl (any_of HT_.out (by kernel_rfl)) (fun _ _ _ h => h) (Or.inl ⟨by rfl, ?_⟩) ?_ ?_
      rotate_left
      · intro w'
        go_simp
        with_reducible rfl
      rotate_left
      · simp only [Act.put, List.setIfInBounds_toArray, List.set_cons_zero, List.set_cons_succ, i64_w, i32_w]
        rfl
      refine pure_ (i := 3) (N := some 41) (v := ?_) (a' := ?_) #[true, true, true, true, false, false, false, false, false, false] rfl rfl (any_of HT_.out (by kernel_rfl)) (fun _ _ _ h => h) (Or.inl ⟨by rfl, ?_⟩) ?_ ?_
      rotate_left
      · intro w'
        go_simp
        with_reducible rfl
      rotate_left
      · simp only [Act.put, List.setIfInBounds_toArray, List.set_cons_zero, List.set_cons_succ, i64_w, i32_w]
        rfl
      refine pure_ (i := 4) (N := some 42) (v := ?_) (a' := ?_) #[true, true, true, true, true, false, false, false, false, false] rfl rfl (any_of HT_.out (by kernel_rfl)) (fun _ _ _ h => h) (Or.inl ⟨by rfl, ?_⟩) ?_ ?_
      rotate_left
      · intro w'
        go_simp
        with_reducible rfl
      rotate_left
      · simp only [Act.put, List.setIfInBounds_toArray, List.set_cons_zero, List.set_cons_succ, i64_w, i32_w]
        rfl
      refine pure_ (i := 5) (N := some 43) (v := ?_) (a' := ?_) #[true, true, true, true, true, true, false, false, false, false] rfl rfl (any_of HT_.out (by kernel_rfl)) (fun _ _ _ h => h) (Or.inl ⟨by rfl, ?_⟩) ?_ ?_
      rotate_left
      · intro w'
        go_simp
        with_reducible rfl
      rotate_left
      · simp only [Act.put, List.setIfInBounds_toArray, List.set_cons_zero, List.set_cons_succ, i64_w, i32_w]
        rfl
      refine pure_ (i := 6) (N := some 44) (v := ?_) (a' := ?_) #[true, true, true, true, true, true, true, false, false, false] rfl rfl (any_of HT_.out (by kernel_rfl)) (fun _ _ _ h => h) (Or.inl ⟨by rfl, ?_⟩) ?_ ?_
      rotate_left
      · intro w'
        go_simp
        with_reducible rfl
      rotate_left
      · simp only [Act.put, List.setIfInBounds_toArray, List.set_cons_zero, List.set_cons_succ, i64_w, i32_w]
        rfl
      refine one_ (i := 7) (N := some 45) #[true, true, true, true, true, true, true, true, false, false] rfl rfl (one_of HT_.out (by kernel_rfl)) (by decide) (fun K hK => ?_)
      refine step_copy_splice rfl (.tmp 41) (.tmp 44) 34 34 rfl 3 Try.underlying34 (by rfl) _ _ _ _ _ _ rfl rfl w.heap.size n (filled k N n) 3 hG9.out (List.replicate m (.int .i64 (k : Int))) (by rw [List.length_replicate]; show m = min n (N - n); exact hmm.out) (fun _ => ⟨rfl, _, rfl, hS9.out⟩) (by have := hmm.out; rw [hfl.out, List.length_replicate]; omega) (by intro v hv; rw [List.eq_of_mem_replicate hv]; rfl) w.heap.size w hB9.out (Nat.le_refl _) ?_
      intro w2 hG2 hB2
      rw [List.length_replicate]
      have hG3 := hG2.out
      rw [hsp.out] at hG3
      have hG3 := Aside0.mk hG3
      have hB3 := Aside0.mk hB2
      clear hG2 hB2 hS9 hG9 hB9
      refine hK.out (Act.put _ (some 45) _) _ trivial (fun hHeld => ?_)
      clear hK K
      (try simp only [Act.put, List.setIfInBounds_toArray, List.set_cons_zero, List.set_cons_succ])
      refine pure_ (i := 8) (N := some 46) (v := ?_) (a' := ?_) #[true, true, true, true, true, true, true, true, true, false] rfl rfl (any_of HT_.out (by kernel_rfl)) (fun _ _ _ h => h) (Or.inl ⟨by rfl, ?_⟩) ?_ ?_
      rotate_left
      · intro w'
        go_simp
        first | with_reducible rfl | (trace_state; fail)
      rotate_left
      · simp only [Act.put, List.setIfInBounds_toArray, List.set_cons_zero, List.set_cons_succ, i64_w, i32_w]
        rfl
      refine pure_ (i := 9) (N := some 8) (v := ?_) (a' := ?_) #[true, true, true, true, true, true, true, true, true, true] rfl rfl (any_of HT_.out (by kernel_rfl)) (fun _ _ _ h => h) (Or.inl ⟨by rfl, ?_⟩) ?_ ?_
      rotate_left
      · intro w'
        go_simp
        with_reducible rfl
      rotate_left
      · simp only [Act.put, List.setIfInBounds_toArray, List.set_cons_zero, List.set_cons_succ, i64_w, i32_w]
        rfl
      refine done_ (done_of HT_.out (by kernel_rfl)) ?_
      try go_wp2_with (fail)
      go_roundg (gk - 1)
      case measure => omega
      case rel => exact ⟨n + m, by go_num, ⟨by have := hmm.out; omega⟩, hG3, hB3⟩
    · have hc : ¬ ((n : Int) < (N : Int)) := by omega
      obtain rfl : n = N := by omega
      go_wp2_with (fail)
      go_ret
      exact ⟨_, rfl, filled_own (Nat.le_refl _) (by omega) hG.out, hB.out⟩
end Go.Proofs.Ytmechelmnpoddaa.H7
