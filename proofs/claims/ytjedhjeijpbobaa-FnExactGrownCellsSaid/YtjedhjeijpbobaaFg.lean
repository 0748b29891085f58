/-
  The least and the greatest number of cells: the program's bounds, with each of its closures.
-/
import Derived.Test.YtjedhjeijpbobaaZd
namespace Go.Proofs.Ytjedhjeijpbobaa.G8
open Go.RowKit Go.Maps Go.Proofs.YtjedhjeijpbobaaW.PrintWords Go.Proofs.YtjedhjeijpbobaaW.PrintLast Go.Proofs.YtjedhjeijpbobaaW.PrintMore
open Go.Proofs.Ytjedhjeijpbobaa.GA
set_option linter.unusedVariables false
set_option linter.unusedSimpArgs false
def loF (sel : Int × Int → Int) (a : Int) (cs : List (Int × Int)) : Int := cs.foldl (fun a c => if sel c < a then sel c else a) a
def hiF (sel : Int × Int → Int) (a : Int) (cs : List (Int × Int)) : Int := cs.foldl (fun a c => if a < sel c then sel c else a) a
/-- Cells that lie in a row of structs, from block b on. -/
def CellsAt (w : World) (b : Nat) (cs : List (Int × Int)) : Prop := b < w.heap.size ∧ ∀ (i : Nat) (c : Int × Int), cs[i]? = some c → w.cell? ⟨b, i * 2, none⟩ = some (.int .i64 c.1) ∧ w.cell? ⟨b, i * 2 + 1, none⟩ = some (.int .i64 c.2)
theorem CellsAt.below {w w1 : World} {b : Nat} {cs : List (Int × Int)} (h : CellsAt w b cs) (hB : Below w.heap.size w w1) : CellsAt w1 b cs :=
  ⟨Nat.lt_of_lt_of_le h.1 hB.size, fun i c hc => ⟨(hB.cell h.1).trans (h.2 i c hc).1, (hB.cell h.1).trans (h.2 i c hc).2⟩⟩
theorem cellOld {w : World} {b i : Nat} {o : Obj} {v : Value} (hb : b < w.heap.size) (h : w.cell? ⟨b, i, none⟩ = some v) : (w.alloc o).cell? ⟨b, i, none⟩ = some v := (World.cell?_alloc_lt _ _ _ hb).trans h
def Tb1 : Bool × List (List Nat × List Nat) := (true, [([], []), ([], []), ([1], [1]), ([2], [2]), ([0, 3], [0, 3]), ([], []), ([], []), ([6], [6]), ([7], [7]), ([5, 8, 4], [5, 8]), ([4, 9, 0, 1, 2, 3, 4], [4]), ([9, 10, 0, 1, 2, 3, 4, 5, 6, 7, 8, 9, 10], [9])])
def Bb1 : List Nat := [0, 0, 2, 6, 15, 0, 0, 64, 192, 511, 1023, 2047]
theorem tabb1 : rtab .any (opsOf Try.f86 1) = Tb1 := by kernel_rfl
theorem bitsb1 : waitsOk Tb1.2 Bb1 = true := by kernel_rfl
def Tb5 : Bool × List (List Nat × List Nat) := (true, [([], []), ([], []), ([], []), ([1, 2], [1, 2]), ([0, 3], [0, 3]), ([], []), ([], []), ([], []), ([6, 7, 3], [6, 7]), ([5, 8], [5, 8]), ([4, 8, 0, 1, 2, 3, 4], [0, 4]), ([9, 10, 0, 1, 2, 3, 4, 5, 6, 7, 8, 9, 10], [5, 9])])
def Bb5 : List Nat := [0, 0, 0, 6, 15, 0, 0, 0, 206, 494, 479, 2047]
theorem tabb5 : rtab .any (opsOf Try.f86 5) = Tb5 := by kernel_rfl
theorem bitsb5 : waitsOk Tb5.2 Bb5 = true := by kernel_rfl
set_option maxHeartbeats 4000000 in
set_option maxRecDepth 100000 in
theorem closure_91 (x y : Int) (w : World) : Calls Try.prog 91 #[.agg #[.int .i64 x, .int .i64 y]] w fun e w' => e = .returned (.int .i64 x) ∧ w' = w.alloc (.cells #[.int .i64 x, .int .i64 y] 76) := by
  have hu76 := Try.underlying76
  go_enter Try.func91, Try.ntmps91
  go_wp2
  refine bodyPost_ret (v := .int .i64 x) (by simp [results, Try.results91, go_sem]) rfl ⟨rfl, rfl⟩
set_option maxHeartbeats 4000000 in
set_option maxRecDepth 100000 in
theorem bounds_91 (b cap : Nat) (cs : List (Int × Int)) (c0 : Int × Int) (h0 : cs[0]? = some c0) (hl : cs.length ≤ 1000) (w : World) (hC : CellsAt w b cs) :
    Calls Try.prog 86 #[.slice (some ⟨b, 0, none⟩) cs.length cap, .func (.func 91) #[] #[]] w fun e w' => e = .returned (.tuple #[.int .i64 (loF Prod.fst (Prod.fst c0) cs), .int .i64 (hiF Prod.fst (Prod.fst c0) cs)]) ∧ Below w.heap.size w w' := by
  have hu76 := Try.underlying76
  have HC := Aside0.mk closure_91
  have hl0 : 0 < cs.length := (List.getElem?_eq_some_iff.1 h0).1
  have hli : (0 : Int) < (cs.length : Int) := by omega
  obtain ⟨q0, q1⟩ := hC.2 0 c0 h0
  simp at q0 q1
  have HX := Aside0.mk hC
  have hbl := hC.1
  clear hC
  go_enter Try.func86, Try.ntmps86
  go_upto_region 1 with (fail)
  have q0 : w.drew.cell? _ = _ := q0
  have q1 : w.drew.cell? _ = _ := q1
  have hX : b < w.drew.heap.size := hbl
  have HB := Aside0.mk (below_drew (Below.refl w.heap.size w))
  refine start_ (n := 12) (S := fun w' => w'.cell? ⟨b, 0, none⟩ = some (.int .i64 c0.1) ∧ w'.cell? ⟨b, 1, none⟩ = some (.int .i64 c0.2)) (ds := []) #[false, false, false, false, false, false, false, false, false, false, false, false] (by kernel_rfl) rfl rfl ⟨q0, q1⟩ (fun hHeld => ?_)
  refine with_tabW tabb1 bitsb1 (fun HT_ HW_ => ?_)
  generalize w.drew = Y0 at *
  refine pure_ (i := 0) (N := some 10) (v := ?_) (a' := ?_) #[true, false, false, false, false, false, false, false, false, false, false, false] rfl rfl (any_of HT_.out (by kernel_rfl)) (fun _ _ _ h => h) (Or.inl ⟨by rfl, ?_⟩) ?_ ?_
  rotate_left
  · intro w'
    go_simp
    with_reducible rfl
  rotate_left
  · simp only [Act.put, List.setIfInBounds_toArray, List.set_cons_zero, List.set_cons_succ, i64_w, i32_w]
    rfl
  refine pure_ (i := 1) (N := some 11) (v := ?_) (a' := ?_) #[true, true, false, false, false, false, false, false, false, false, false, false] rfl rfl (any_of HT_.out (by kernel_rfl)) (fun _ _ _ h => h) (Or.inl ⟨by rfl, ?_⟩) ?_ ?_
  rotate_left
  · intro w'
    go_simp
    with_reducible rfl
  rotate_left
  · simp only [Act.put, List.setIfInBounds_toArray, List.set_cons_zero, List.set_cons_succ, i64_w, i32_w]
    rfl
  refine pure_ (i := 5) (N := some 15) (v := ?_) (a' := ?_) #[true, true, false, false, false, true, false, false, false, false, false, false] rfl rfl (any_of HT_.out (by kernel_rfl)) (fun _ _ _ h => h) (Or.inl ⟨by rfl, ?_⟩) ?_ ?_
  rotate_left
  · intro w'
    go_simp
    with_reducible rfl
  rotate_left
  · simp only [Act.put, List.setIfInBounds_toArray, List.set_cons_zero, List.set_cons_succ, i64_w, i32_w]
    rfl
  refine pure_ (i := 6) (N := some 16) (v := ?_) (a' := ?_) #[true, true, false, false, false, true, true, false, false, false, false, false] rfl rfl (any_of HT_.out (by kernel_rfl)) (fun _ _ _ h => h) (Or.inl ⟨by rfl, ?_⟩) ?_ ?_
  rotate_left
  · intro w'
    go_simp
    with_reducible rfl
  rotate_left
  · simp only [Act.put, List.setIfInBounds_toArray, List.set_cons_zero, List.set_cons_succ, i64_w, i32_w]
    rfl
  refine pure_ (i := 2) (N := some 12) (v := ?_) (a' := ?_) #[true, true, true, false, false, true, true, false, false, false, false, false] rfl rfl (any_of HT_.out (by kernel_rfl)) (fun _ _ _ h => h) (Or.inl ⟨by rfl, ?_⟩) ?_ ?_
  rotate_left
  · intro w'
    go_simp
    with_reducible rfl
  rotate_left
  · simp only [Act.put, List.setIfInBounds_toArray, List.set_cons_zero, List.set_cons_succ, i64_w, i32_w]
    rfl
  refine pure_ (i := 7) (N := some 17) (v := ?_) (a' := ?_) #[true, true, true, false, false, true, true, true, false, false, false, false] rfl rfl (any_of HT_.out (by kernel_rfl)) (fun _ _ _ h => h) (Or.inl ⟨by rfl, ?_⟩) ?_ ?_
  rotate_left
  · intro w'
    go_simp
    with_reducible rfl
  rotate_left
  · simp only [Act.put, List.setIfInBounds_toArray, List.set_cons_zero, List.set_cons_succ, i64_w, i32_w]
    rfl
  refine take_ (i := 3) (N := some 13) (v := ?_) (a' := ?_) #[true, true, true, true, false, true, true, true, false, false, false, false] rfl rfl (take_ofW HT_.out HW_.out (by kernel_rfl)) (fun _ _ _ h => h) (Or.inl ⟨by rfl, ?_⟩) hHeld ?_ ?_
  rotate_left
  · intro w' hSw; obtain ⟨hS0, hS1⟩ := hSw
    go_simp
    with_reducible rfl
  rotate_left
  · simp only [Act.put, List.setIfInBounds_toArray, List.set_cons_zero, List.set_cons_succ, i64_w, i32_w]
    rfl
  refine take_ (i := 8) (N := some 18) (v := ?_) (a' := ?_) #[true, true, true, true, false, true, true, true, true, false, false, false] rfl rfl (take_ofW HT_.out HW_.out (by kernel_rfl)) (fun _ _ _ h => h) (Or.inl ⟨by rfl, ?_⟩) hHeld ?_ ?_
  rotate_left
  · intro w' hSw; obtain ⟨hS0, hS1⟩ := hSw
    go_simp
    with_reducible rfl
  rotate_left
  · simp only [Act.put, List.setIfInBounds_toArray, List.set_cons_zero, List.set_cons_succ, i64_w, i32_w]
    rfl
  refine one_ (i := 4) (N := some 14) #[true, true, true, true, true, true, true, true, true, false, false, false] rfl rfl (one_of HT_.out (by kernel_rfl)) (by decide) (fun K hK => ?_)
  refine call_ 91 #[.agg #[.int .i64 c0.1, .int .i64 c0.2]] (by rfl) rfl (by go_simp) ?_
  refine (HC.out _ _ _).mono ?_
  rintro e w9 ⟨rfl, rfl⟩
  refine ⟨_, rfl, ?_⟩
  have HBn := Aside0.mk (HB.out.alloc HB.out.size (.cells #[.int .i64 c0.1, .int .i64 c0.2] 76))
  have hXn := Nat.lt_succ_of_lt hX
  have n0 := cellOld (o := .cells #[.int .i64 c0.1, .int .i64 c0.2] 76) hX q0
  have n1 := cellOld (o := .cells #[.int .i64 c0.1, .int .i64 c0.2] 76) hX q1
  replace hXn : b < (Y0.alloc (.cells #[.int .i64 c0.1, .int .i64 c0.2] 76)).heap.size := by simpa using hXn
  clear HB hX q0 q1 hHeld
  generalize Y0.alloc (.cells #[.int .i64 c0.1, .int .i64 c0.2] 76) = Y1 at *
  have HB := HBn
  have hX := hXn
  have q0 := n0
  have q1 := n1
  clear HBn hXn n0 n1
  refine hK.out _ _ ⟨q0, q1⟩ (fun hHeld => ?_)
  clear hK K
  (try simp only [Act.put, List.setIfInBounds_toArray, List.set_cons_zero, List.set_cons_succ])
  refine one_ (i := 9) (N := some 19) #[true, true, true, true, true, true, true, true, true, true, false, false] rfl rfl (one_of HT_.out (by kernel_rfl)) (by decide) (fun K hK => ?_)
  refine call_ 91 #[.agg #[.int .i64 c0.1, .int .i64 c0.2]] (by rfl) rfl (by go_simp) ?_
  refine (HC.out _ _ _).mono ?_
  rintro e w9 ⟨rfl, rfl⟩
  refine ⟨_, rfl, ?_⟩
  have HBn := Aside0.mk (HB.out.alloc HB.out.size (.cells #[.int .i64 c0.1, .int .i64 c0.2] 76))
  have hXn := Nat.lt_succ_of_lt hX
  have n0 := cellOld (o := .cells #[.int .i64 c0.1, .int .i64 c0.2] 76) hX q0
  have n1 := cellOld (o := .cells #[.int .i64 c0.1, .int .i64 c0.2] 76) hX q1
  replace hXn : b < (Y1.alloc (.cells #[.int .i64 c0.1, .int .i64 c0.2] 76)).heap.size := by simpa using hXn
  clear HB hX q0 q1 hHeld
  generalize Y1.alloc (.cells #[.int .i64 c0.1, .int .i64 c0.2] 76) = Y2 at *
  have HB := HBn
  have hX := hXn
  have q0 := n0
  have q1 := n1
  clear HBn hXn n0 n1
  refine hK.out _ _ ⟨q0, q1⟩ (fun hHeld => ?_)
  clear hK K
  (try simp only [Act.put, List.setIfInBounds_toArray, List.set_cons_zero, List.set_cons_succ])
  refine pure_ (i := 10) (N := some 6) (v := ?_) (a' := ?_) #[true, true, true, true, true, true, true, true, true, true, true, false] rfl rfl (any_of HT_.out (by kernel_rfl)) (fun _ _ _ h => h) (Or.inl ⟨by rfl, ?_⟩) ?_ ?_
  rotate_left
  · intro w'
    go_simp
    with_reducible rfl
  rotate_left
  · simp only [Act.put, List.setIfInBounds_toArray, List.set_cons_zero, List.set_cons_succ, i64_w, i32_w]
    rfl
  refine pure_ (i := 11) (N := some 7) (v := ?_) (a' := ?_) #[true, true, true, true, true, true, true, true, true, true, true, true] rfl rfl (any_of HT_.out (by kernel_rfl)) (fun _ _ _ h => h) (Or.inl ⟨by rfl, ?_⟩) ?_ ?_
  rotate_left
  · intro w'
    go_simp
    with_reducible rfl
  rotate_left
  · simp only [Act.put, List.setIfInBounds_toArray, List.set_cons_zero, List.set_cons_succ, i64_w, i32_w]
    rfl
  refine done_ (done_of HT_.out (by kernel_rfl)) ?_
  clear HT_ HW_ hHeld q0 q1 hX
  go_wp2_with (fail)
  go_loopg [6, 7, 22] cs.length (fun m v6 v7 v22 wr => ∃ (i : Nat) (lo hi : Int), v6 = .int .i64 lo ∧ v7 = .int .i64 hi ∧ v22 = .int .i64 (i : Int) ∧ Aside0 (i + m = cs.length) ∧ Aside0 (loF Prod.fst lo (cs.drop i) = loF Prod.fst (Prod.fst c0) cs ∧ hiF Prod.fst hi (cs.drop i) = hiF Prod.fst (Prod.fst c0) cs) ∧ Aside0 (Below w.heap.size w wr))
  case atStart => exact ⟨0, _, _, rfl, rfl, rfl, ⟨by omega⟩, ⟨rfl, rfl⟩, HB⟩
  case round =>
    clear HB
    obtain ⟨i, lo, hi, rfl, rfl, rfl, HI, HF, HB⟩ := hrel
    cases gk with
    | zero =>
      have hii : ¬ ((i : Int) < (cs.length : Int)) := by have := HI.out; omega
      have ht : Aside0 (lo = loF Prod.fst (Prod.fst c0) cs ∧ hi = hiF Prod.fst (Prod.fst c0) cs) := by
        have := HF.out
        rw [List.drop_eq_nil_of_le (by have := HI.out; omega)] at this
        exact ⟨this⟩
      clear HF HI
      go_wp2_with (fail)
      go_ret2
      exact ⟨by rw [ht.out.1, ht.out.2]; rfl, HB.out⟩
    | succ m =>
      have hin : i < cs.length := by have := HI.out; omega
      have hii : (i : Int) < (cs.length : Int) := by omega
      obtain ⟨c, hc⟩ : ∃ c, c = cs[i] := ⟨_, rfl⟩
      obtain ⟨p0, p1⟩ := (HX.out.below HB.out).2 i c (by rw [hc]; exact List.getElem?_eq_getElem hin)
      obtain ⟨lo1, e1⟩ : ∃ lo1, (if Prod.fst c < lo then Prod.fst c else lo) = lo1 := ⟨_, rfl⟩
      obtain ⟨hi1, e2⟩ : ∃ hi1, (if hi < Prod.fst c then Prod.fst c else hi) = hi1 := ⟨_, rfl⟩
      have HN : Aside0 (loF Prod.fst lo1 (cs.drop (i + 1)) = loF Prod.fst (Prod.fst c0) cs ∧ hiF Prod.fst hi1 (cs.drop (i + 1)) = hiF Prod.fst (Prod.fst c0) cs) := by
        have := HF.out
        rw [List.drop_eq_getElem_cons hin, ← hc] at this
        rw [← e1, ← e2]
        exact ⟨this⟩
      have hw := wrap_id (x := (i : Int) + 1) (by omega) (by omega)
      replace hc := Aside0.mk hc
      clear HF
      go_upto_region 5 with (fail)
      have HS : w.heap.size ≤ wr.heap.size := HB.out.size
      have HA : Aside0 ((wr.alloc (.cells #[.int .i64 c.1, .int .i64 c.2] 76)).heap[wr.heap.size]? = some (.cells #[.int .i64 c.1, .int .i64 c.2] 76 (0, 0))) := ⟨blk_new _ _⟩
      have HB1 : Aside0 (Below w.heap.size w (wr.alloc (.cells #[.int .i64 c.1, .int .i64 c.2] 76))) := ⟨HB.out.alloc HS _⟩
      clear HB p0 p1
      generalize wr.alloc (.cells #[.int .i64 c.1, .int .i64 c.2] 76) = W4 at *
      generalize wr.heap.size = X at *
      have a0 := blk_cell HA.out 0
      have a1 := blk_cell HA.out 1
      simp at a0 a1
      have hX := blk_lt HA.out
      have a0 : W4.drew.cell? _ = _ := a0
      have a1 : W4.drew.cell? _ = _ := a1
      have hX : X < W4.drew.heap.size := hX
      have HB := Aside0.mk (below_drew HB1.out)
      clear HA HB1
      refine start_ (n := 12) (S := fun w' => w'.cell? ⟨X, 0, none⟩ = some (.int .i64 c.1) ∧ w'.cell? ⟨X, 1, none⟩ = some (.int .i64 c.2)) (ds := []) #[false, false, false, false, false, false, false, false, false, false, false, false] (by kernel_rfl) rfl rfl ⟨a0, a1⟩ (fun hHeld => ?_)
      refine with_tabW tabb5 bitsb5 (fun HT_ HW_ => ?_)
      generalize W4.drew = Z0 at *
      refine pure_ (i := 0) (N := some 26) (v := ?_) (a' := ?_) #[true, false, false, false, false, false, false, false, false, false, false, false] rfl rfl (any_of HT_.out (by kernel_rfl)) (fun _ _ _ h => h) (Or.inl ⟨by rfl, ?_⟩) ?_ ?_
      rotate_left
      · intro w'
        go_simp
        with_reducible rfl
      rotate_left
      · simp only [Act.put, List.setIfInBounds_toArray, List.set_cons_zero, List.set_cons_succ, i64_w, i32_w]
        rfl
      refine pure_ (i := 1) (N := some 27) (v := ?_) (a' := ?_) #[true, true, false, false, false, false, false, false, false, false, false, false] rfl rfl (any_of HT_.out (by kernel_rfl)) (fun _ _ _ h => h) (Or.inl ⟨by rfl, ?_⟩) ?_ ?_
      rotate_left
      · intro w'
        go_simp
        with_reducible rfl
      rotate_left
      · simp only [Act.put, List.setIfInBounds_toArray, List.set_cons_zero, List.set_cons_succ, i64_w, i32_w]
        rfl
      refine pure_ (i := 5) (N := some 31) (v := ?_) (a' := ?_) #[true, true, false, false, false, true, false, false, false, false, false, false] rfl rfl (any_of HT_.out (by kernel_rfl)) (fun _ _ _ h => h) (Or.inl ⟨by rfl, ?_⟩) ?_ ?_
      rotate_left
      · intro w'
        go_simp
        with_reducible rfl
      rotate_left
      · simp only [Act.put, List.setIfInBounds_toArray, List.set_cons_zero, List.set_cons_succ, i64_w, i32_w]
        rfl
      refine pure_ (i := 6) (N := some 32) (v := ?_) (a' := ?_) #[true, true, false, false, false, true, true, false, false, false, false, false] rfl rfl (any_of HT_.out (by kernel_rfl)) (fun _ _ _ h => h) (Or.inl ⟨by rfl, ?_⟩) ?_ ?_
      rotate_left
      · intro w'
        go_simp
        with_reducible rfl
      rotate_left
      · simp only [Act.put, List.setIfInBounds_toArray, List.set_cons_zero, List.set_cons_succ, i64_w, i32_w]
        rfl
      refine take_ (i := 2) (N := some 28) (v := ?_) (a' := ?_) #[true, true, true, false, false, true, true, false, false, false, false, false] rfl rfl (take_ofW HT_.out HW_.out (by kernel_rfl)) (fun _ _ _ h => h) (Or.inl ⟨by rfl, ?_⟩) hHeld ?_ ?_
      rotate_left
      · intro w' hSw; obtain ⟨hS0, hS1⟩ := hSw
        go_simp
        with_reducible rfl
      rotate_left
      · simp only [Act.put, List.setIfInBounds_toArray, List.set_cons_zero, List.set_cons_succ, i64_w, i32_w]
        rfl
      refine take_ (i := 7) (N := some 33) (v := ?_) (a' := ?_) #[true, true, true, false, false, true, true, true, false, false, false, false] rfl rfl (take_ofW HT_.out HW_.out (by kernel_rfl)) (fun _ _ _ h => h) (Or.inl ⟨by rfl, ?_⟩) hHeld ?_ ?_
      rotate_left
      · intro w' hSw; obtain ⟨hS0, hS1⟩ := hSw
        go_simp
        with_reducible rfl
      rotate_left
      · simp only [Act.put, List.setIfInBounds_toArray, List.set_cons_zero, List.set_cons_succ, i64_w, i32_w]
        rfl
      refine one_ (i := 3) (N := some 29) #[true, true, true, true, false, true, true, true, false, false, false, false] rfl rfl (one_of HT_.out (by kernel_rfl)) (by decide) (fun K hK => ?_)
      refine call_ 91 #[.agg #[.int .i64 c.1, .int .i64 c.2]] (by rfl) rfl (by go_simp) ?_
      refine (HC.out _ _ _).mono ?_
      rintro e w9 ⟨rfl, rfl⟩
      refine ⟨_, rfl, ?_⟩
      have HBn := Aside0.mk (HB.out.alloc HB.out.size (.cells #[.int .i64 c.1, .int .i64 c.2] 76))
      have hXn := Nat.lt_succ_of_lt hX
      have n0 := cellOld (o := .cells #[.int .i64 c.1, .int .i64 c.2] 76) hX a0
      have n1 := cellOld (o := .cells #[.int .i64 c.1, .int .i64 c.2] 76) hX a1
      replace hXn : X < (Z0.alloc (.cells #[.int .i64 c.1, .int .i64 c.2] 76)).heap.size := by simpa using hXn
      clear HB hX a0 a1 hHeld
      generalize Z0.alloc (.cells #[.int .i64 c.1, .int .i64 c.2] 76) = Y3 at *
      have HB := HBn
      have hX := hXn
      have a0 := n0
      have a1 := n1
      clear HBn hXn n0 n1
      refine hK.out _ _ ⟨a0, a1⟩ (fun hHeld => ?_)
      clear hK K
      (try simp only [Act.put, List.setIfInBounds_toArray, List.set_cons_zero, List.set_cons_succ])
      refine pure_ (i := 4) (N := some 30) (v := ?_) (a' := ?_) #[true, true, true, true, true, true, true, true, false, false, false, false] rfl rfl (any_of HT_.out (by kernel_rfl)) (fun _ _ _ h => h) (Or.inl ⟨by rfl, ?_⟩) ?_ ?_
      rotate_left
      · intro w'
        go_simp
        with_reducible rfl
      rotate_left
      · simp only [Act.put, List.setIfInBounds_toArray, List.set_cons_zero, List.set_cons_succ, i64_w, i32_w]
        rfl
      refine one_ (i := 8) (N := some 34) #[true, true, true, true, true, true, true, true, true, false, false, false] rfl rfl (one_of HT_.out (by kernel_rfl)) (by decide) (fun K hK => ?_)
      refine call_ 91 #[.agg #[.int .i64 c.1, .int .i64 c.2]] (by rfl) rfl (by go_simp) ?_
      refine (HC.out _ _ _).mono ?_
      rintro e w9 ⟨rfl, rfl⟩
      refine ⟨_, rfl, ?_⟩
      have HBn := Aside0.mk (HB.out.alloc HB.out.size (.cells #[.int .i64 c.1, .int .i64 c.2] 76))
      have hXn := Nat.lt_succ_of_lt hX
      have n0 := cellOld (o := .cells #[.int .i64 c.1, .int .i64 c.2] 76) hX a0
      have n1 := cellOld (o := .cells #[.int .i64 c.1, .int .i64 c.2] 76) hX a1
      replace hXn : X < (Y3.alloc (.cells #[.int .i64 c.1, .int .i64 c.2] 76)).heap.size := by simpa using hXn
      clear HB hX a0 a1 hHeld
      generalize Y3.alloc (.cells #[.int .i64 c.1, .int .i64 c.2] 76) = Y4 at *
      have HB := HBn
      have hX := hXn
      have a0 := n0
      have a1 := n1
      clear HBn hXn n0 n1
      refine hK.out _ _ ⟨a0, a1⟩ (fun hHeld => ?_)
      clear hK K
      (try simp only [Act.put, List.setIfInBounds_toArray, List.set_cons_zero, List.set_cons_succ])
      refine pure_ (i := 9) (N := some 35) (v := ?_) (a' := ?_) #[true, true, true, true, true, true, true, true, true, true, false, false] rfl rfl (any_of HT_.out (by kernel_rfl)) (fun _ _ _ h => h) (Or.inl ⟨by rfl, ?_⟩) ?_ ?_
      rotate_left
      · intro w'
        go_simp
        with_reducible rfl
      rotate_left
      · simp only [Act.put, List.setIfInBounds_toArray, List.set_cons_zero, List.set_cons_succ, i64_w, i32_w]
        rfl
      refine pure_ (i := 10) (N := some 6) (v := ?_) (a' := ?_) #[true, true, true, true, true, true, true, true, true, true, true, false] rfl rfl (any_of HT_.out (by kernel_rfl)) (fun _ _ _ h => h) (Or.inl ⟨by rfl, ?_⟩) ?_ ?_
      rotate_left
      · intro w'
        go_simp
        with_reducible rfl
      rotate_left
      · simp only [Act.put, List.setIfInBounds_toArray, List.set_cons_zero, List.set_cons_succ, i64_w, i32_w]
        rfl
      refine pure_ (i := 11) (N := some 7) (v := ?_) (a' := ?_) #[true, true, true, true, true, true, true, true, true, true, true, true] rfl rfl (any_of HT_.out (by kernel_rfl)) (fun _ _ _ h => h) (Or.inl ⟨by rfl, ?_⟩) ?_ ?_
      rotate_left
      · intro w'
        go_simp
        with_reducible rfl
      rotate_left
      · simp only [Act.put, List.setIfInBounds_toArray, List.set_cons_zero, List.set_cons_succ, i64_w, i32_w]
        rfl
      refine done_ (done_of HT_.out (by kernel_rfl)) ?_
      clear HT_ HW_ hHeld a0 a1 hX
      go_wp2_with (fail)
      go_roundg m
      case measure => omega
      case rel => exact ⟨i + 1, lo1, hi1, by first | rfl | go_num, by first | rfl | go_num, by first | rfl | go_num, ⟨by have := HI.out; omega⟩, HN, HB⟩
set_option maxHeartbeats 4000000 in
set_option maxRecDepth 100000 in
theorem closure_87 (x y : Int) (w : World) : Calls Try.prog 87 #[.agg #[.int .i64 x, .int .i64 y]] w fun e w' => e = .returned (.int .i64 x) ∧ w' = w.alloc (.cells #[.int .i64 x, .int .i64 y] 76) := by
  have hu76 := Try.underlying76
  go_enter Try.func87, Try.ntmps87
  go_wp2
  refine bodyPost_ret (v := .int .i64 x) (by simp [results, Try.results87, go_sem]) rfl ⟨rfl, rfl⟩
set_option maxHeartbeats 4000000 in
set_option maxRecDepth 100000 in
theorem bounds_87 (b cap : Nat) (cs : List (Int × Int)) (c0 : Int × Int) (h0 : cs[0]? = some c0) (hl : cs.length ≤ 1000) (w : World) (hC : CellsAt w b cs) :
    Calls Try.prog 86 #[.slice (some ⟨b, 0, none⟩) cs.length cap, .func (.func 87) #[] #[]] w fun e w' => e = .returned (.tuple #[.int .i64 (loF Prod.fst (Prod.fst c0) cs), .int .i64 (hiF Prod.fst (Prod.fst c0) cs)]) ∧ Below w.heap.size w w' := by
  have hu76 := Try.underlying76
  have HC := Aside0.mk closure_87
  have hl0 : 0 < cs.length := (List.getElem?_eq_some_iff.1 h0).1
  have hli : (0 : Int) < (cs.length : Int) := by omega
  obtain ⟨q0, q1⟩ := hC.2 0 c0 h0
  simp at q0 q1
  have HX := Aside0.mk hC
  have hbl := hC.1
  clear hC
  go_enter Try.func86, Try.ntmps86
  go_upto_region 1 with (fail)
  have q0 : w.drew.cell? _ = _ := q0
  have q1 : w.drew.cell? _ = _ := q1
  have hX : b < w.drew.heap.size := hbl
  have HB := Aside0.mk (below_drew (Below.refl w.heap.size w))
  refine start_ (n := 12) (S := fun w' => w'.cell? ⟨b, 0, none⟩ = some (.int .i64 c0.1) ∧ w'.cell? ⟨b, 1, none⟩ = some (.int .i64 c0.2)) (ds := []) #[false, false, false, false, false, false, false, false, false, false, false, false] (by kernel_rfl) rfl rfl ⟨q0, q1⟩ (fun hHeld => ?_)
  refine with_tabW tabb1 bitsb1 (fun HT_ HW_ => ?_)
  generalize w.drew = Y0 at *
  refine pure_ (i := 0) (N := some 10) (v := ?_) (a' := ?_) #[true, false, false, false, false, false, false, false, false, false, false, false] rfl rfl (any_of HT_.out (by kernel_rfl)) (fun _ _ _ h => h) (Or.inl ⟨by rfl, ?_⟩) ?_ ?_
  rotate_left
  · intro w'
    go_simp
    with_reducible rfl
  rotate_left
  · simp only [Act.put, List.setIfInBounds_toArray, List.set_cons_zero, List.set_cons_succ, i64_w, i32_w]
    rfl
  refine pure_ (i := 1) (N := some 11) (v := ?_) (a' := ?_) #[true, true, false, false, false, false, false, false, false, false, false, false] rfl rfl (any_of HT_.out (by kernel_rfl)) (fun _ _ _ h => h) (Or.inl ⟨by rfl, ?_⟩) ?_ ?_
  rotate_left
  · intro w'
    go_simp
    with_reducible rfl
  rotate_left
  · simp only [Act.put, List.setIfInBounds_toArray, List.set_cons_zero, List.set_cons_succ, i64_w, i32_w]
    rfl
  refine pure_ (i := 5) (N := some 15) (v := ?_) (a' := ?_) #[true, true, false, false, false, true, false, false, false, false, false, false] rfl rfl (any_of HT_.out (by kernel_rfl)) (fun _ _ _ h => h) (Or.inl ⟨by rfl, ?_⟩) ?_ ?_
  rotate_left
  · intro w'
    go_simp
    with_reducible rfl
  rotate_left
  · simp only [Act.put, List.setIfInBounds_toArray, List.set_cons_zero, List.set_cons_succ, i64_w, i32_w]
    rfl
  refine pure_ (i := 6) (N := some 16) (v := ?_) (a' := ?_) #[true, true, false, false, false, true, true, false, false, false, false, false] rfl rfl (any_of HT_.out (by kernel_rfl)) (fun _ _ _ h => h) (Or.inl ⟨by rfl, ?_⟩) ?_ ?_
  rotate_left
  · intro w'
    go_simp
    with_reducible rfl
  rotate_left
  · simp only [Act.put, List.setIfInBounds_toArray, List.set_cons_zero, List.set_cons_succ, i64_w, i32_w]
    rfl
  refine pure_ (i := 2) (N := some 12) (v := ?_) (a' := ?_) #[true, true, true, false, false, true, true, false, false, false, false, false] rfl rfl (any_of HT_.out (by kernel_rfl)) (fun _ _ _ h => h) (Or.inl ⟨by rfl, ?_⟩) ?_ ?_
  rotate_left
  · intro w'
    go_simp
    with_reducible rfl
  rotate_left
  · simp only [Act.put, List.setIfInBounds_toArray, List.set_cons_zero, List.set_cons_succ, i64_w, i32_w]
    rfl
  refine pure_ (i := 7) (N := some 17) (v := ?_) (a' := ?_) #[true, true, true, false, false, true, true, true, false, false, false, false] rfl rfl (any_of HT_.out (by kernel_rfl)) (fun _ _ _ h => h) (Or.inl ⟨by rfl, ?_⟩) ?_ ?_
  rotate_left
  · intro w'
    go_simp
    with_reducible rfl
  rotate_left
  · simp only [Act.put, List.setIfInBounds_toArray, List.set_cons_zero, List.set_cons_succ, i64_w, i32_w]
    rfl
  refine take_ (i := 3) (N := some 13) (v := ?_) (a' := ?_) #[true, true, true, true, false, true, true, true, false, false, false, false] rfl rfl (take_ofW HT_.out HW_.out (by kernel_rfl)) (fun _ _ _ h => h) (Or.inl ⟨by rfl, ?_⟩) hHeld ?_ ?_
  rotate_left
  · intro w' hSw; obtain ⟨hS0, hS1⟩ := hSw
    go_simp
    with_reducible rfl
  rotate_left
  · simp only [Act.put, List.setIfInBounds_toArray, List.set_cons_zero, List.set_cons_succ, i64_w, i32_w]
    rfl
  refine take_ (i := 8) (N := some 18) (v := ?_) (a' := ?_) #[true, true, true, true, false, true, true, true, true, false, false, false] rfl rfl (take_ofW HT_.out HW_.out (by kernel_rfl)) (fun _ _ _ h => h) (Or.inl ⟨by rfl, ?_⟩) hHeld ?_ ?_
  rotate_left
  · intro w' hSw; obtain ⟨hS0, hS1⟩ := hSw
    go_simp
    with_reducible rfl
  rotate_left
  · simp only [Act.put, List.setIfInBounds_toArray, List.set_cons_zero, List.set_cons_succ, i64_w, i32_w]
    rfl
  refine one_ (i := 4) (N := some 14) #[true, true, true, true, true, true, true, true, true, false, false, false] rfl rfl (one_of HT_.out (by kernel_rfl)) (by decide) (fun K hK => ?_)
  refine call_ 87 #[.agg #[.int .i64 c0.1, .int .i64 c0.2]] (by rfl) rfl (by go_simp) ?_
  refine (HC.out _ _ _).mono ?_
  rintro e w9 ⟨rfl, rfl⟩
  refine ⟨_, rfl, ?_⟩
  have HBn := Aside0.mk (HB.out.alloc HB.out.size (.cells #[.int .i64 c0.1, .int .i64 c0.2] 76))
  have hXn := Nat.lt_succ_of_lt hX
  have n0 := cellOld (o := .cells #[.int .i64 c0.1, .int .i64 c0.2] 76) hX q0
  have n1 := cellOld (o := .cells #[.int .i64 c0.1, .int .i64 c0.2] 76) hX q1
  replace hXn : b < (Y0.alloc (.cells #[.int .i64 c0.1, .int .i64 c0.2] 76)).heap.size := by simpa using hXn
  clear HB hX q0 q1 hHeld
  generalize Y0.alloc (.cells #[.int .i64 c0.1, .int .i64 c0.2] 76) = Y1 at *
  have HB := HBn
  have hX := hXn
  have q0 := n0
  have q1 := n1
  clear HBn hXn n0 n1
  refine hK.out _ _ ⟨q0, q1⟩ (fun hHeld => ?_)
  clear hK K
  (try simp only [Act.put, List.setIfInBounds_toArray, List.set_cons_zero, List.set_cons_succ])
  refine one_ (i := 9) (N := some 19) #[true, true, true, true, true, true, true, true, true, true, false, false] rfl rfl (one_of HT_.out (by kernel_rfl)) (by decide) (fun K hK => ?_)
  refine call_ 87 #[.agg #[.int .i64 c0.1, .int .i64 c0.2]] (by rfl) rfl (by go_simp) ?_
  refine (HC.out _ _ _).mono ?_
  rintro e w9 ⟨rfl, rfl⟩
  refine ⟨_, rfl, ?_⟩
  have HBn := Aside0.mk (HB.out.alloc HB.out.size (.cells #[.int .i64 c0.1, .int .i64 c0.2] 76))
  have hXn := Nat.lt_succ_of_lt hX
  have n0 := cellOld (o := .cells #[.int .i64 c0.1, .int .i64 c0.2] 76) hX q0
  have n1 := cellOld (o := .cells #[.int .i64 c0.1, .int .i64 c0.2] 76) hX q1
  replace hXn : b < (Y1.alloc (.cells #[.int .i64 c0.1, .int .i64 c0.2] 76)).heap.size := by simpa using hXn
  clear HB hX q0 q1 hHeld
  generalize Y1.alloc (.cells #[.int .i64 c0.1, .int .i64 c0.2] 76) = Y2 at *
  have HB := HBn
  have hX := hXn
  have q0 := n0
  have q1 := n1
  clear HBn hXn n0 n1
  refine hK.out _ _ ⟨q0, q1⟩ (fun hHeld => ?_)
  clear hK K
  (try simp only [Act.put, List.setIfInBounds_toArray, List.set_cons_zero, List.set_cons_succ])
  refine pure_ (i := 10) (N := some 6) (v := ?_) (a' := ?_) #[true, true, true, true, true, true, true, true, true, true, true, false] rfl rfl (any_of HT_.out (by kernel_rfl)) (fun _ _ _ h => h) (Or.inl ⟨by rfl, ?_⟩) ?_ ?_
  rotate_left
  · intro w'
    go_simp
    with_reducible rfl
  rotate_left
  · simp only [Act.put, List.setIfInBounds_toArray, List.set_cons_zero, List.set_cons_succ, i64_w, i32_w]
    rfl
  refine pure_ (i := 11) (N := some 7) (v := ?_) (a' := ?_) #[true, true, true, true, true, true, true, true, true, true, true, true] rfl rfl (any_of HT_.out (by kernel_rfl)) (fun _ _ _ h => h) (Or.inl ⟨by rfl, ?_⟩) ?_ ?_
  rotate_left
  · intro w'
    go_simp
    with_reducible rfl
  rotate_left
  · simp only [Act.put, List.setIfInBounds_toArray, List.set_cons_zero, List.set_cons_succ, i64_w, i32_w]
    rfl
  refine done_ (done_of HT_.out (by kernel_rfl)) ?_
  clear HT_ HW_ hHeld q0 q1 hX
  go_wp2_with (fail)
  go_loopg [6, 7, 22] cs.length (fun m v6 v7 v22 wr => ∃ (i : Nat) (lo hi : Int), v6 = .int .i64 lo ∧ v7 = .int .i64 hi ∧ v22 = .int .i64 (i : Int) ∧ Aside0 (i + m = cs.length) ∧ Aside0 (loF Prod.fst lo (cs.drop i) = loF Prod.fst (Prod.fst c0) cs ∧ hiF Prod.fst hi (cs.drop i) = hiF Prod.fst (Prod.fst c0) cs) ∧ Aside0 (Below w.heap.size w wr))
  case atStart => exact ⟨0, _, _, rfl, rfl, rfl, ⟨by omega⟩, ⟨rfl, rfl⟩, HB⟩
  case round =>
    clear HB
    obtain ⟨i, lo, hi, rfl, rfl, rfl, HI, HF, HB⟩ := hrel
    cases gk with
    | zero =>
      have hii : ¬ ((i : Int) < (cs.length : Int)) := by have := HI.out; omega
      have ht : Aside0 (lo = loF Prod.fst (Prod.fst c0) cs ∧ hi = hiF Prod.fst (Prod.fst c0) cs) := by
        have := HF.out
        rw [List.drop_eq_nil_of_le (by have := HI.out; omega)] at this
        exact ⟨this⟩
      clear HF HI
      go_wp2_with (fail)
      go_ret2
      exact ⟨by rw [ht.out.1, ht.out.2]; rfl, HB.out⟩
    | succ m =>
      have hin : i < cs.length := by have := HI.out; omega
      have hii : (i : Int) < (cs.length : Int) := by omega
      obtain ⟨c, hc⟩ : ∃ c, c = cs[i] := ⟨_, rfl⟩
      obtain ⟨p0, p1⟩ := (HX.out.below HB.out).2 i c (by rw [hc]; exact List.getElem?_eq_getElem hin)
      obtain ⟨lo1, e1⟩ : ∃ lo1, (if Prod.fst c < lo then Prod.fst c else lo) = lo1 := ⟨_, rfl⟩
      obtain ⟨hi1, e2⟩ : ∃ hi1, (if hi < Prod.fst c then Prod.fst c else hi) = hi1 := ⟨_, rfl⟩
      have HN : Aside0 (loF Prod.fst lo1 (cs.drop (i + 1)) = loF Prod.fst (Prod.fst c0) cs ∧ hiF Prod.fst hi1 (cs.drop (i + 1)) = hiF Prod.fst (Prod.fst c0) cs) := by
        have := HF.out
        rw [List.drop_eq_getElem_cons hin, ← hc] at this
        rw [← e1, ← e2]
        exact ⟨this⟩
      have hw := wrap_id (x := (i : Int) + 1) (by omega) (by omega)
      replace hc := Aside0.mk hc
      clear HF
      go_upto_region 5 with (fail)
      have HS : w.heap.size ≤ wr.heap.size := HB.out.size
      have HA : Aside0 ((wr.alloc (.cells #[.int .i64 c.1, .int .i64 c.2] 76)).heap[wr.heap.size]? = some (.cells #[.int .i64 c.1, .int .i64 c.2] 76 (0, 0))) := ⟨blk_new _ _⟩
      have HB1 : Aside0 (Below w.heap.size w (wr.alloc (.cells #[.int .i64 c.1, .int .i64 c.2] 76))) := ⟨HB.out.alloc HS _⟩
      clear HB p0 p1
      generalize wr.alloc (.cells #[.int .i64 c.1, .int .i64 c.2] 76) = W4 at *
      generalize wr.heap.size = X at *
      have a0 := blk_cell HA.out 0
      have a1 := blk_cell HA.out 1
      simp at a0 a1
      have hX := blk_lt HA.out
      have a0 : W4.drew.cell? _ = _ := a0
      have a1 : W4.drew.cell? _ = _ := a1
      have hX : X < W4.drew.heap.size := hX
      have HB := Aside0.mk (below_drew HB1.out)
      clear HA HB1
      refine start_ (n := 12) (S := fun w' => w'.cell? ⟨X, 0, none⟩ = some (.int .i64 c.1) ∧ w'.cell? ⟨X, 1, none⟩ = some (.int .i64 c.2)) (ds := []) #[false, false, false, false, false, false, false, false, false, false, false, false] (by kernel_rfl) rfl rfl ⟨a0, a1⟩ (fun hHeld => ?_)
      refine with_tabW tabb5 bitsb5 (fun HT_ HW_ => ?_)
      generalize W4.drew = Z0 at *
      refine pure_ (i := 0) (N := some 26) (v := ?_) (a' := ?_) #[true, false, false, false, false, false, false, false, false, false, false, false] rfl rfl (any_of HT_.out (by kernel_rfl)) (fun _ _ _ h => h) (Or.inl ⟨by rfl, ?_⟩) ?_ ?_
      rotate_left
      · intro w'
        go_simp
        with_reducible rfl
      rotate_left
      · simp only [Act.put, List.setIfInBounds_toArray, List.set_cons_zero, List.set_cons_succ, i64_w, i32_w]
        rfl
      refine pure_ (i := 1) (N := some 27) (v := ?_) (a' := ?_) #[true, true, false, false, false, false, false, false, false, false, false, false] rfl rfl (any_of HT_.out (by kernel_rfl)) (fun _ _ _ h => h) (Or.inl ⟨by rfl, ?_⟩) ?_ ?_
      rotate_left
      · intro w'
        go_simp
        with_reducible rfl
      rotate_left
      · simp only [Act.put, List.setIfInBounds_toArray, List.set_cons_zero, List.set_cons_succ, i64_w, i32_w]
        rfl
      refine pure_ (i := 5) (N := some 31) (v := ?_) (a' := ?_) #[true, true, false, false, false, true, false, false, false, false, false, false] rfl rfl (any_of HT_.out (by kernel_rfl)) (fun _ _ _ h => h) (Or.inl ⟨by rfl, ?_⟩) ?_ ?_
      rotate_left
      · intro w'
        go_simp
        with_reducible rfl
      rotate_left
      · simp only [Act.put, List.setIfInBounds_toArray, List.set_cons_zero, List.set_cons_succ, i64_w, i32_w]
        rfl
      refine pure_ (i := 6) (N := some 32) (v := ?_) (a' := ?_) #[true, true, false, false, false, true, true, false, false, false, false, false] rfl rfl (any_of HT_.out (by kernel_rfl)) (fun _ _ _ h => h) (Or.inl ⟨by rfl, ?_⟩) ?_ ?_
      rotate_left
      · intro w'
        go_simp
        with_reducible rfl
      rotate_left
      · simp only [Act.put, List.setIfInBounds_toArray, List.set_cons_zero, List.set_cons_succ, i64_w, i32_w]
        rfl
      refine take_ (i := 2) (N := some 28) (v := ?_) (a' := ?_) #[true, true, true, false, false, true, true, false, false, false, false, false] rfl rfl (take_ofW HT_.out HW_.out (by kernel_rfl)) (fun _ _ _ h => h) (Or.inl ⟨by rfl, ?_⟩) hHeld ?_ ?_
      rotate_left
      · intro w' hSw; obtain ⟨hS0, hS1⟩ := hSw
        go_simp
        with_reducible rfl
      rotate_left
      · simp only [Act.put, List.setIfInBounds_toArray, List.set_cons_zero, List.set_cons_succ, i64_w, i32_w]
        rfl
      refine take_ (i := 7) (N := some 33) (v := ?_) (a' := ?_) #[true, true, true, false, false, true, true, true, false, false, false, false] rfl rfl (take_ofW HT_.out HW_.out (by kernel_rfl)) (fun _ _ _ h => h) (Or.inl ⟨by rfl, ?_⟩) hHeld ?_ ?_
      rotate_left
      · intro w' hSw; obtain ⟨hS0, hS1⟩ := hSw
        go_simp
        with_reducible rfl
      rotate_left
      · simp only [Act.put, List.setIfInBounds_toArray, List.set_cons_zero, List.set_cons_succ, i64_w, i32_w]
        rfl
      refine one_ (i := 3) (N := some 29) #[true, true, true, true, false, true, true, true, false, false, false, false] rfl rfl (one_of HT_.out (by kernel_rfl)) (by decide) (fun K hK => ?_)
      refine call_ 87 #[.agg #[.int .i64 c.1, .int .i64 c.2]] (by rfl) rfl (by go_simp) ?_
      refine (HC.out _ _ _).mono ?_
      rintro e w9 ⟨rfl, rfl⟩
      refine ⟨_, rfl, ?_⟩
      have HBn := Aside0.mk (HB.out.alloc HB.out.size (.cells #[.int .i64 c.1, .int .i64 c.2] 76))
      have hXn := Nat.lt_succ_of_lt hX
      have n0 := cellOld (o := .cells #[.int .i64 c.1, .int .i64 c.2] 76) hX a0
      have n1 := cellOld (o := .cells #[.int .i64 c.1, .int .i64 c.2] 76) hX a1
      replace hXn : X < (Z0.alloc (.cells #[.int .i64 c.1, .int .i64 c.2] 76)).heap.size := by simpa using hXn
      clear HB hX a0 a1 hHeld
      generalize Z0.alloc (.cells #[.int .i64 c.1, .int .i64 c.2] 76) = Y3 at *
      have HB := HBn
      have hX := hXn
      have a0 := n0
      have a1 := n1
      clear HBn hXn n0 n1
      refine hK.out _ _ ⟨a0, a1⟩ (fun hHeld => ?_)
      clear hK K
      (try simp only [Act.put, List.setIfInBounds_toArray, List.set_cons_zero, List.set_cons_succ])
      refine pure_ (i := 4) (N := some 30) (v := ?_) (a' := ?_) #[true, true, true, true, true, true, true, true, false, false, false, false] rfl rfl (any_of HT_.out (by kernel_rfl)) (fun _ _ _ h => h) (Or.inl ⟨by rfl, ?_⟩) ?_ ?_
      rotate_left
      · intro w'
        go_simp
        with_reducible rfl
      rotate_left
      · simp only [Act.put, List.setIfInBounds_toArray, List.set_cons_zero, List.set_cons_succ, i64_w, i32_w]
        rfl
      refine one_ (i := 8) (N := some 34) #[true, true, true, true, true, true, true, true, true, false, false, false] rfl rfl (one_of HT_.out (by kernel_rfl)) (by decide) (fun K hK => ?_)
      refine call_ 87 #[.agg #[.int .i64 c.1, .int .i64 c.2]] (by rfl) rfl (by go_simp) ?_
      refine (HC.out _ _ _).mono ?_
      rintro e w9 ⟨rfl, rfl⟩
      refine ⟨_, rfl, ?_⟩
      have HBn := Aside0.mk (HB.out.alloc HB.out.size (.cells #[.int .i64 c.1, .int .i64 c.2] 76))
      have hXn := Nat.lt_succ_of_lt hX
      have n0 := cellOld (o := .cells #[.int .i64 c.1, .int .i64 c.2] 76) hX a0
      have n1 := cellOld (o := .cells #[.int .i64 c.1, .int .i64 c.2] 76) hX a1
      replace hXn : X < (Y3.alloc (.cells #[.int .i64 c.1, .int .i64 c.2] 76)).heap.size := by simpa using hXn
      clear HB hX a0 a1 hHeld
      generalize Y3.alloc (.cells #[.int .i64 c.1, .int .i64 c.2] 76) = Y4 at *
      have HB := HBn
      have hX := hXn
      have a0 := n0
      have a1 := n1
      clear HBn hXn n0 n1
      refine hK.out _ _ ⟨a0, a1⟩ (fun hHeld => ?_)
      clear hK K
      (try simp only [Act.put, List.setIfInBounds_toArray, List.set_cons_zero, List.set_cons_succ])
      refine pure_ (i := 9) (N := some 35) (v := ?_) (a' := ?_) #[true, true, true, true, true, true, true, true, true, true, false, false] rfl rfl (any_of HT_.out (by kernel_rfl)) (fun _ _ _ h => h) (Or.inl ⟨by rfl, ?_⟩) ?_ ?_
      rotate_left
      · intro w'
        go_simp
        with_reducible rfl
      rotate_left
      · simp only [Act.put, List.setIfInBounds_toArray, List.set_cons_zero, List.set_cons_succ, i64_w, i32_w]
        rfl
      refine pure_ (i := 10) (N := some 6) (v := ?_) (a' := ?_) #[true, true, true, true, true, true, true, true, true, true, true, false] rfl rfl (any_of HT_.out (by kernel_rfl)) (fun _ _ _ h => h) (Or.inl ⟨by rfl, ?_⟩) ?_ ?_
      rotate_left
      · intro w'
        go_simp
        with_reducible rfl
      rotate_left
      · simp only [Act.put, List.setIfInBounds_toArray, List.set_cons_zero, List.set_cons_succ, i64_w, i32_w]
        rfl
      refine pure_ (i := 11) (N := some 7) (v := ?_) (a' := ?_) #[true, true, true, true, true, true, true, true, true, true, true, true] rfl rfl (any_of HT_.out (by kernel_rfl)) (fun _ _ _ h => h) (Or.inl ⟨by rfl, ?_⟩) ?_ ?_
      rotate_left
      · intro w'
        go_simp
        with_reducible rfl
      rotate_left
      · simp only [Act.put, List.setIfInBounds_toArray, List.set_cons_zero, List.set_cons_succ, i64_w, i32_w]
        rfl
      refine done_ (done_of HT_.out (by kernel_rfl)) ?_
      clear HT_ HW_ hHeld a0 a1 hX
      go_wp2_with (fail)
      go_roundg m
      case measure => omega
      case rel => exact ⟨i + 1, lo1, hi1, by first | rfl | go_num, by first | rfl | go_num, by first | rfl | go_num, ⟨by have := HI.out; omega⟩, HN, HB⟩
set_option maxHeartbeats 4000000 in
set_option maxRecDepth 100000 in
theorem closure_88 (x y : Int) (w : World) : Calls Try.prog 88 #[.agg #[.int .i64 x, .int .i64 y]] w fun e w' => e = .returned (.int .i64 y) ∧ w' = w.alloc (.cells #[.int .i64 x, .int .i64 y] 76) := by
  have hu76 := Try.underlying76
  go_enter Try.func88, Try.ntmps88
  go_wp2
  refine bodyPost_ret (v := .int .i64 y) (by simp [results, Try.results88, go_sem]) rfl ⟨rfl, rfl⟩
set_option maxHeartbeats 4000000 in
set_option maxRecDepth 100000 in
theorem bounds_88 (b cap : Nat) (cs : List (Int × Int)) (c0 : Int × Int) (h0 : cs[0]? = some c0) (hl : cs.length ≤ 1000) (w : World) (hC : CellsAt w b cs) :
    Calls Try.prog 86 #[.slice (some ⟨b, 0, none⟩) cs.length cap, .func (.func 88) #[] #[]] w fun e w' => e = .returned (.tuple #[.int .i64 (loF Prod.snd (Prod.snd c0) cs), .int .i64 (hiF Prod.snd (Prod.snd c0) cs)]) ∧ Below w.heap.size w w' := by
  have hu76 := Try.underlying76
  have HC := Aside0.mk closure_88
  have hl0 : 0 < cs.length := (List.getElem?_eq_some_iff.1 h0).1
  have hli : (0 : Int) < (cs.length : Int) := by omega
  obtain ⟨q0, q1⟩ := hC.2 0 c0 h0
  simp at q0 q1
  have HX := Aside0.mk hC
  have hbl := hC.1
  clear hC
  go_enter Try.func86, Try.ntmps86
  go_upto_region 1 with (fail)
  have q0 : w.drew.cell? _ = _ := q0
  have q1 : w.drew.cell? _ = _ := q1
  have hX : b < w.drew.heap.size := hbl
  have HB := Aside0.mk (below_drew (Below.refl w.heap.size w))
  refine start_ (n := 12) (S := fun w' => w'.cell? ⟨b, 0, none⟩ = some (.int .i64 c0.1) ∧ w'.cell? ⟨b, 1, none⟩ = some (.int .i64 c0.2)) (ds := []) #[false, false, false, false, false, false, false, false, false, false, false, false] (by kernel_rfl) rfl rfl ⟨q0, q1⟩ (fun hHeld => ?_)
  refine with_tabW tabb1 bitsb1 (fun HT_ HW_ => ?_)
  generalize w.drew = Y0 at *
  refine pure_ (i := 0) (N := some 10) (v := ?_) (a' := ?_) #[true, false, false, false, false, false, false, false, false, false, false, false] rfl rfl (any_of HT_.out (by kernel_rfl)) (fun _ _ _ h => h) (Or.inl ⟨by rfl, ?_⟩) ?_ ?_
  rotate_left
  · intro w'
    go_simp
    with_reducible rfl
  rotate_left
  · simp only [Act.put, List.setIfInBounds_toArray, List.set_cons_zero, List.set_cons_succ, i64_w, i32_w]
    rfl
  refine pure_ (i := 1) (N := some 11) (v := ?_) (a' := ?_) #[true, true, false, false, false, false, false, false, false, false, false, false] rfl rfl (any_of HT_.out (by kernel_rfl)) (fun _ _ _ h => h) (Or.inl ⟨by rfl, ?_⟩) ?_ ?_
  rotate_left
  · intro w'
    go_simp
    with_reducible rfl
  rotate_left
  · simp only [Act.put, List.setIfInBounds_toArray, List.set_cons_zero, List.set_cons_succ, i64_w, i32_w]
    rfl
  refine pure_ (i := 5) (N := some 15) (v := ?_) (a' := ?_) #[true, true, false, false, false, true, false, false, false, false, false, false] rfl rfl (any_of HT_.out (by kernel_rfl)) (fun _ _ _ h => h) (Or.inl ⟨by rfl, ?_⟩) ?_ ?_
  rotate_left
  · intro w'
    go_simp
    with_reducible rfl
  rotate_left
  · simp only [Act.put, List.setIfInBounds_toArray, List.set_cons_zero, List.set_cons_succ, i64_w, i32_w]
    rfl
  refine pure_ (i := 6) (N := some 16) (v := ?_) (a' := ?_) #[true, true, false, false, false, true, true, false, false, false, false, false] rfl rfl (any_of HT_.out (by kernel_rfl)) (fun _ _ _ h => h) (Or.inl ⟨by rfl, ?_⟩) ?_ ?_
  rotate_left
  · intro w'
    go_simp
    with_reducible rfl
  rotate_left
  · simp only [Act.put, List.setIfInBounds_toArray, List.set_cons_zero, List.set_cons_succ, i64_w, i32_w]
    rfl
  refine pure_ (i := 2) (N := some 12) (v := ?_) (a' := ?_) #[true, true, true, false, false, true, true, false, false, false, false, false] rfl rfl (any_of HT_.out (by kernel_rfl)) (fun _ _ _ h => h) (Or.inl ⟨by rfl, ?_⟩) ?_ ?_
  rotate_left
  · intro w'
    go_simp
    with_reducible rfl
  rotate_left
  · simp only [Act.put, List.setIfInBounds_toArray, List.set_cons_zero, List.set_cons_succ, i64_w, i32_w]
    rfl
  refine pure_ (i := 7) (N := some 17) (v := ?_) (a' := ?_) #[true, true, true, false, false, true, true, true, false, false, false, false] rfl rfl (any_of HT_.out (by kernel_rfl)) (fun _ _ _ h => h) (Or.inl ⟨by rfl, ?_⟩) ?_ ?_
  rotate_left
  · intro w'
    go_simp
    with_reducible rfl
  rotate_left
  · simp only [Act.put, List.setIfInBounds_toArray, List.set_cons_zero, List.set_cons_succ, i64_w, i32_w]
    rfl
  refine take_ (i := 3) (N := some 13) (v := ?_) (a' := ?_) #[true, true, true, true, false, true, true, true, false, false, false, false] rfl rfl (take_ofW HT_.out HW_.out (by kernel_rfl)) (fun _ _ _ h => h) (Or.inl ⟨by rfl, ?_⟩) hHeld ?_ ?_
  rotate_left
  · intro w' hSw; obtain ⟨hS0, hS1⟩ := hSw
    go_simp
    with_reducible rfl
  rotate_left
  · simp only [Act.put, List.setIfInBounds_toArray, List.set_cons_zero, List.set_cons_succ, i64_w, i32_w]
    rfl
  refine take_ (i := 8) (N := some 18) (v := ?_) (a' := ?_) #[true, true, true, true, false, true, true, true, true, false, false, false] rfl rfl (take_ofW HT_.out HW_.out (by kernel_rfl)) (fun _ _ _ h => h) (Or.inl ⟨by rfl, ?_⟩) hHeld ?_ ?_
  rotate_left
  · intro w' hSw; obtain ⟨hS0, hS1⟩ := hSw
    go_simp
    with_reducible rfl
  rotate_left
  · simp only [Act.put, List.setIfInBounds_toArray, List.set_cons_zero, List.set_cons_succ, i64_w, i32_w]
    rfl
  refine one_ (i := 4) (N := some 14) #[true, true, true, true, true, true, true, true, true, false, false, false] rfl rfl (one_of HT_.out (by kernel_rfl)) (by decide) (fun K hK => ?_)
  refine call_ 88 #[.agg #[.int .i64 c0.1, .int .i64 c0.2]] (by rfl) rfl (by go_simp) ?_
  refine (HC.out _ _ _).mono ?_
  rintro e w9 ⟨rfl, rfl⟩
  refine ⟨_, rfl, ?_⟩
  have HBn := Aside0.mk (HB.out.alloc HB.out.size (.cells #[.int .i64 c0.1, .int .i64 c0.2] 76))
  have hXn := Nat.lt_succ_of_lt hX
  have n0 := cellOld (o := .cells #[.int .i64 c0.1, .int .i64 c0.2] 76) hX q0
  have n1 := cellOld (o := .cells #[.int .i64 c0.1, .int .i64 c0.2] 76) hX q1
  replace hXn : b < (Y0.alloc (.cells #[.int .i64 c0.1, .int .i64 c0.2] 76)).heap.size := by simpa using hXn
  clear HB hX q0 q1 hHeld
  generalize Y0.alloc (.cells #[.int .i64 c0.1, .int .i64 c0.2] 76) = Y1 at *
  have HB := HBn
  have hX := hXn
  have q0 := n0
  have q1 := n1
  clear HBn hXn n0 n1
  refine hK.out _ _ ⟨q0, q1⟩ (fun hHeld => ?_)
  clear hK K
  (try simp only [Act.put, List.setIfInBounds_toArray, List.set_cons_zero, List.set_cons_succ])
  refine one_ (i := 9) (N := some 19) #[true, true, true, true, true, true, true, true, true, true, false, false] rfl rfl (one_of HT_.out (by kernel_rfl)) (by decide) (fun K hK => ?_)
  refine call_ 88 #[.agg #[.int .i64 c0.1, .int .i64 c0.2]] (by rfl) rfl (by go_simp) ?_
  refine (HC.out _ _ _).mono ?_
  rintro e w9 ⟨rfl, rfl⟩
  refine ⟨_, rfl, ?_⟩
  have HBn := Aside0.mk (HB.out.alloc HB.out.size (.cells #[.int .i64 c0.1, .int .i64 c0.2] 76))
  have hXn := Nat.lt_succ_of_lt hX
  have n0 := cellOld (o := .cells #[.int .i64 c0.1, .int .i64 c0.2] 76) hX q0
  have n1 := cellOld (o := .cells #[.int .i64 c0.1, .int .i64 c0.2] 76) hX q1
  replace hXn : b < (Y1.alloc (.cells #[.int .i64 c0.1, .int .i64 c0.2] 76)).heap.size := by simpa using hXn
  clear HB hX q0 q1 hHeld
  generalize Y1.alloc (.cells #[.int .i64 c0.1, .int .i64 c0.2] 76) = Y2 at *
  have HB := HBn
  have hX := hXn
  have q0 := n0
  have q1 := n1
  clear HBn hXn n0 n1
  refine hK.out _ _ ⟨q0, q1⟩ (fun hHeld => ?_)
  clear hK K
  (try simp only [Act.put, List.setIfInBounds_toArray, List.set_cons_zero, List.set_cons_succ])
  refine pure_ (i := 10) (N := some 6) (v := ?_) (a' := ?_) #[true, true, true, true, true, true, true, true, true, true, true, false] rfl rfl (any_of HT_.out (by kernel_rfl)) (fun _ _ _ h => h) (Or.inl ⟨by rfl, ?_⟩) ?_ ?_
  rotate_left
  · intro w'
    go_simp
    with_reducible rfl
  rotate_left
  · simp only [Act.put, List.setIfInBounds_toArray, List.set_cons_zero, List.set_cons_succ, i64_w, i32_w]
    rfl
  refine pure_ (i := 11) (N := some 7) (v := ?_) (a' := ?_) #[true, true, true, true, true, true, true, true, true, true, true, true] rfl rfl (any_of HT_.out (by kernel_rfl)) (fun _ _ _ h => h) (Or.inl ⟨by rfl, ?_⟩) ?_ ?_
  rotate_left
  · intro w'
    go_simp
    with_reducible rfl
  rotate_left
  · simp only [Act.put, List.setIfInBounds_toArray, List.set_cons_zero, List.set_cons_succ, i64_w, i32_w]
    rfl
  refine done_ (done_of HT_.out (by kernel_rfl)) ?_
  clear HT_ HW_ hHeld q0 q1 hX
  go_wp2_with (fail)
  go_loopg [6, 7, 22] cs.length (fun m v6 v7 v22 wr => ∃ (i : Nat) (lo hi : Int), v6 = .int .i64 lo ∧ v7 = .int .i64 hi ∧ v22 = .int .i64 (i : Int) ∧ Aside0 (i + m = cs.length) ∧ Aside0 (loF Prod.snd lo (cs.drop i) = loF Prod.snd (Prod.snd c0) cs ∧ hiF Prod.snd hi (cs.drop i) = hiF Prod.snd (Prod.snd c0) cs) ∧ Aside0 (Below w.heap.size w wr))
  case atStart => exact ⟨0, _, _, rfl, rfl, rfl, ⟨by omega⟩, ⟨rfl, rfl⟩, HB⟩
  case round =>
    clear HB
    obtain ⟨i, lo, hi, rfl, rfl, rfl, HI, HF, HB⟩ := hrel
    cases gk with
    | zero =>
      have hii : ¬ ((i : Int) < (cs.length : Int)) := by have := HI.out; omega
      have ht : Aside0 (lo = loF Prod.snd (Prod.snd c0) cs ∧ hi = hiF Prod.snd (Prod.snd c0) cs) := by
        have := HF.out
        rw [List.drop_eq_nil_of_le (by have := HI.out; omega)] at this
        exact ⟨this⟩
      clear HF HI
      go_wp2_with (fail)
      go_ret2
      exact ⟨by rw [ht.out.1, ht.out.2]; rfl, HB.out⟩
    | succ m =>
      have hin : i < cs.length := by have := HI.out; omega
      have hii : (i : Int) < (cs.length : Int) := by omega
      obtain ⟨c, hc⟩ : ∃ c, c = cs[i] := ⟨_, rfl⟩
      obtain ⟨p0, p1⟩ := (HX.out.below HB.out).2 i c (by rw [hc]; exact List.getElem?_eq_getElem hin)
      obtain ⟨lo1, e1⟩ : ∃ lo1, (if Prod.snd c < lo then Prod.snd c else lo) = lo1 := ⟨_, rfl⟩
      obtain ⟨hi1, e2⟩ : ∃ hi1, (if hi < Prod.snd c then Prod.snd c else hi) = hi1 := ⟨_, rfl⟩
      have HN : Aside0 (loF Prod.snd lo1 (cs.drop (i + 1)) = loF Prod.snd (Prod.snd c0) cs ∧ hiF Prod.snd hi1 (cs.drop (i + 1)) = hiF Prod.snd (Prod.snd c0) cs) := by
        have := HF.out
        rw [List.drop_eq_getElem_cons hin, ← hc] at this
        rw [← e1, ← e2]
        exact ⟨this⟩
      have hw := wrap_id (x := (i : Int) + 1) (by omega) (by omega)
      replace hc := Aside0.mk hc
      clear HF
      go_upto_region 5 with (fail)
      have HS : w.heap.size ≤ wr.heap.size := HB.out.size
      have HA : Aside0 ((wr.alloc (.cells #[.int .i64 c.1, .int .i64 c.2] 76)).heap[wr.heap.size]? = some (.cells #[.int .i64 c.1, .int .i64 c.2] 76 (0, 0))) := ⟨blk_new _ _⟩
      have HB1 : Aside0 (Below w.heap.size w (wr.alloc (.cells #[.int .i64 c.1, .int .i64 c.2] 76))) := ⟨HB.out.alloc HS _⟩
      clear HB p0 p1
      generalize wr.alloc (.cells #[.int .i64 c.1, .int .i64 c.2] 76) = W4 at *
      generalize wr.heap.size = X at *
      have a0 := blk_cell HA.out 0
      have a1 := blk_cell HA.out 1
      simp at a0 a1
      have hX := blk_lt HA.out
      have a0 : W4.drew.cell? _ = _ := a0
      have a1 : W4.drew.cell? _ = _ := a1
      have hX : X < W4.drew.heap.size := hX
      have HB := Aside0.mk (below_drew HB1.out)
      clear HA HB1
      refine start_ (n := 12) (S := fun w' => w'.cell? ⟨X, 0, none⟩ = some (.int .i64 c.1) ∧ w'.cell? ⟨X, 1, none⟩ = some (.int .i64 c.2)) (ds := []) #[false, false, false, false, false, false, false, false, false, false, false, false] (by kernel_rfl) rfl rfl ⟨a0, a1⟩ (fun hHeld => ?_)
      refine with_tabW tabb5 bitsb5 (fun HT_ HW_ => ?_)
      generalize W4.drew = Z0 at *
      refine pure_ (i := 0) (N := some 26) (v := ?_) (a' := ?_) #[true, false, false, false, false, false, false, false, false, false, false, false] rfl rfl (any_of HT_.out (by kernel_rfl)) (fun _ _ _ h => h) (Or.inl ⟨by rfl, ?_⟩) ?_ ?_
      rotate_left
      · intro w'
        go_simp
        with_reducible rfl
      rotate_left
      · simp only [Act.put, List.setIfInBounds_toArray, List.set_cons_zero, List.set_cons_succ, i64_w, i32_w]
        rfl
      refine pure_ (i := 1) (N := some 27) (v := ?_) (a' := ?_) #[true, true, false, false, false, false, false, false, false, false, false, false] rfl rfl (any_of HT_.out (by kernel_rfl)) (fun _ _ _ h => h) (Or.inl ⟨by rfl, ?_⟩) ?_ ?_
      rotate_left
      · intro w'
        go_simp
        with_reducible rfl
      rotate_left
      · simp only [Act.put, List.setIfInBounds_toArray, List.set_cons_zero, List.set_cons_succ, i64_w, i32_w]
        rfl
      refine pure_ (i := 5) (N := some 31) (v := ?_) (a' := ?_) #[true, true, false, false, false, true, false, false, false, false, false, false] rfl rfl (any_of HT_.out (by kernel_rfl)) (fun _ _ _ h => h) (Or.inl ⟨by rfl, ?_⟩) ?_ ?_
      rotate_left
      · intro w'
        go_simp
        with_reducible rfl
      rotate_left
      · simp only [Act.put, List.setIfInBounds_toArray, List.set_cons_zero, List.set_cons_succ, i64_w, i32_w]
        rfl
      refine pure_ (i := 6) (N := some 32) (v := ?_) (a' := ?_) #[true, true, false, false, false, true, true, false, false, false, false, false] rfl rfl (any_of HT_.out (by kernel_rfl)) (fun _ _ _ h => h) (Or.inl ⟨by rfl, ?_⟩) ?_ ?_
      rotate_left
      · intro w'
        go_simp
        with_reducible rfl
      rotate_left
      · simp only [Act.put, List.setIfInBounds_toArray, List.set_cons_zero, List.set_cons_succ, i64_w, i32_w]
        rfl
      refine take_ (i := 2) (N := some 28) (v := ?_) (a' := ?_) #[true, true, true, false, false, true, true, false, false, false, false, false] rfl rfl (take_ofW HT_.out HW_.out (by kernel_rfl)) (fun _ _ _ h => h) (Or.inl ⟨by rfl, ?_⟩) hHeld ?_ ?_
      rotate_left
      · intro w' hSw; obtain ⟨hS0, hS1⟩ := hSw
        go_simp
        with_reducible rfl
      rotate_left
      · simp only [Act.put, List.setIfInBounds_toArray, List.set_cons_zero, List.set_cons_succ, i64_w, i32_w]
        rfl
      refine take_ (i := 7) (N := some 33) (v := ?_) (a' := ?_) #[true, true, true, false, false, true, true, true, false, false, false, false] rfl rfl (take_ofW HT_.out HW_.out (by kernel_rfl)) (fun _ _ _ h => h) (Or.inl ⟨by rfl, ?_⟩) hHeld ?_ ?_
      rotate_left
      · intro w' hSw; obtain ⟨hS0, hS1⟩ := hSw
        go_simp
        with_reducible rfl
      rotate_left
      · simp only [Act.put, List.setIfInBounds_toArray, List.set_cons_zero, List.set_cons_succ, i64_w, i32_w]
        rfl
      refine one_ (i := 3) (N := some 29) #[true, true, true, true, false, true, true, true, false, false, false, false] rfl rfl (one_of HT_.out (by kernel_rfl)) (by decide) (fun K hK => ?_)
      refine call_ 88 #[.agg #[.int .i64 c.1, .int .i64 c.2]] (by rfl) rfl (by go_simp) ?_
      refine (HC.out _ _ _).mono ?_
      rintro e w9 ⟨rfl, rfl⟩
      refine ⟨_, rfl, ?_⟩
      have HBn := Aside0.mk (HB.out.alloc HB.out.size (.cells #[.int .i64 c.1, .int .i64 c.2] 76))
      have hXn := Nat.lt_succ_of_lt hX
      have n0 := cellOld (o := .cells #[.int .i64 c.1, .int .i64 c.2] 76) hX a0
      have n1 := cellOld (o := .cells #[.int .i64 c.1, .int .i64 c.2] 76) hX a1
      replace hXn : X < (Z0.alloc (.cells #[.int .i64 c.1, .int .i64 c.2] 76)).heap.size := by simpa using hXn
      clear HB hX a0 a1 hHeld
      generalize Z0.alloc (.cells #[.int .i64 c.1, .int .i64 c.2] 76) = Y3 at *
      have HB := HBn
      have hX := hXn
      have a0 := n0
      have a1 := n1
      clear HBn hXn n0 n1
      refine hK.out _ _ ⟨a0, a1⟩ (fun hHeld => ?_)
      clear hK K
      (try simp only [Act.put, List.setIfInBounds_toArray, List.set_cons_zero, List.set_cons_succ])
      refine pure_ (i := 4) (N := some 30) (v := ?_) (a' := ?_) #[true, true, true, true, true, true, true, true, false, false, false, false] rfl rfl (any_of HT_.out (by kernel_rfl)) (fun _ _ _ h => h) (Or.inl ⟨by rfl, ?_⟩) ?_ ?_
      rotate_left
      · intro w'
        go_simp
        with_reducible rfl
      rotate_left
      · simp only [Act.put, List.setIfInBounds_toArray, List.set_cons_zero, List.set_cons_succ, i64_w, i32_w]
        rfl
      refine one_ (i := 8) (N := some 34) #[true, true, true, true, true, true, true, true, true, false, false, false] rfl rfl (one_of HT_.out (by kernel_rfl)) (by decide) (fun K hK => ?_)
      refine call_ 88 #[.agg #[.int .i64 c.1, .int .i64 c.2]] (by rfl) rfl (by go_simp) ?_
      refine (HC.out _ _ _).mono ?_
      rintro e w9 ⟨rfl, rfl⟩
      refine ⟨_, rfl, ?_⟩
      have HBn := Aside0.mk (HB.out.alloc HB.out.size (.cells #[.int .i64 c.1, .int .i64 c.2] 76))
      have hXn := Nat.lt_succ_of_lt hX
      have n0 := cellOld (o := .cells #[.int .i64 c.1, .int .i64 c.2] 76) hX a0
      have n1 := cellOld (o := .cells #[.int .i64 c.1, .int .i64 c.2] 76) hX a1
      replace hXn : X < (Y3.alloc (.cells #[.int .i64 c.1, .int .i64 c.2] 76)).heap.size := by simpa using hXn
      clear HB hX a0 a1 hHeld
      generalize Y3.alloc (.cells #[.int .i64 c.1, .int .i64 c.2] 76) = Y4 at *
      have HB := HBn
      have hX := hXn
      have a0 := n0
      have a1 := n1
      clear HBn hXn n0 n1
      refine hK.out _ _ ⟨a0, a1⟩ (fun hHeld => ?_)
      clear hK K
      (try simp only [Act.put, List.setIfInBounds_toArray, List.set_cons_zero, List.set_cons_succ])
      refine pure_ (i := 9) (N := some 35) (v := ?_) (a' := ?_) #[true, true, true, true, true, true, true, true, true, true, false, false] rfl rfl (any_of HT_.out (by kernel_rfl)) (fun _ _ _ h => h) (Or.inl ⟨by rfl, ?_⟩) ?_ ?_
      rotate_left
      · intro w'
        go_simp
        with_reducible rfl
      rotate_left
      · simp only [Act.put, List.setIfInBounds_toArray, List.set_cons_zero, List.set_cons_succ, i64_w, i32_w]
        rfl
      refine pure_ (i := 10) (N := some 6) (v := ?_) (a' := ?_) #[true, true, true, true, true, true, true, true, true, true, true, false] rfl rfl (any_of HT_.out (by kernel_rfl)) (fun _ _ _ h => h) (Or.inl ⟨by rfl, ?_⟩) ?_ ?_
      rotate_left
      · intro w'
        go_simp
        with_reducible rfl
      rotate_left
      · simp only [Act.put, List.setIfInBounds_toArray, List.set_cons_zero, List.set_cons_succ, i64_w, i32_w]
        rfl
      refine pure_ (i := 11) (N := some 7) (v := ?_) (a' := ?_) #[true, true, true, true, true, true, true, true, true, true, true, true] rfl rfl (any_of HT_.out (by kernel_rfl)) (fun _ _ _ h => h) (Or.inl ⟨by rfl, ?_⟩) ?_ ?_
      rotate_left
      · intro w'
        go_simp
        with_reducible rfl
      rotate_left
      · simp only [Act.put, List.setIfInBounds_toArray, List.set_cons_zero, List.set_cons_succ, i64_w, i32_w]
        rfl
      refine done_ (done_of HT_.out (by kernel_rfl)) ?_
      clear HT_ HW_ hHeld a0 a1 hX
      go_wp2_with (fail)
      go_roundg m
      case measure => omega
      case rel => exact ⟨i + 1, lo1, hi1, by first | rfl | go_num, by first | rfl | go_num, by first | rfl | go_num, ⟨by have := HI.out; omega⟩, HN, HB⟩
end Go.Proofs.Ytjedhjeijpbobaa.G8
