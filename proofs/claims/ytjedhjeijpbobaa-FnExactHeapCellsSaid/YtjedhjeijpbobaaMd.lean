/-
  The program's growth on the line, walked: the text of Mc with two exits.
-/
import Derived.Test.YtjedhjeijpbobaaMc
namespace Go.Proofs.Ytjedhjeijpbobaa.G8
open Go.RowKit Go.Maps Go.Proofs.YtjedhjeijpbobaaW.PrintWords Go.Proofs.YtjedhjeijpbobaaW.PrintLast Go.Proofs.YtjedhjeijpbobaaW.PrintMore
set_option linter.unusedVariables false
set_option linter.unusedSimpArgs false
set_option maxHeartbeats 4000000 in
set_option maxRecDepth 100000 in
theorem grow_line (K : Nat) (k0 : Int) (n : Nat) (S : St) (w : World) (hK : K ≤ 300000) (hk0 : 0 ≤ k0 ∧ k0 < 2) (hn : n ≤ 250) (hS : chips 2 300 mv2 K k0 n st0 = some S) :
    Calls Try.prog 97 #[.int .i64 (n : Int), .int .i64 k0, .int .i64 2, .func (.func 99) #[] #[]] w (GroOut w S) := by
  have hu76 := Try.underlying76
  have hmm := @run_makeMap Try.prog
  have HS := Aside0.mk hS
  clear hS
  go_enter Try.func97, Try.ntmps97
  go_wp2
  go_loopg [17] n (fun m v17 wr => ∃ (i N : Nat) (vc : Value) (F : Fld) (cs : List (Int × Int)) (s : Int), v17 = .int .i64 (i : Int) ∧ Aside0 (i + m = n) ∧ Aside0 (chips 2 300 mv2 K k0 m ⟨F, cs, s⟩ = some S) ∧
    Aside0 (GroAt wr w.heap.size (w.heap.size + 1) w.heap.size N vc F cs s) ∧ Aside0 (N + (K + 1) * m ≤ 75000250) ∧ Aside0 (cs.length + m ≤ 250) ∧ Aside0 (0 ≤ s ∧ s + ((K * m : Nat) : Int) ≤ 75000000) ∧ Aside0 (Below w.heap.size w wr) ∧ Aside0 (Rot 2 F))
  case atStart => exact ⟨0, 0, _, _, _, _, rfl, ⟨by omega⟩, HS, ⟨GroAt.made w⟩, ⟨by have := Nat.mul_le_mul (show K + 1 ≤ 300001 by omega) hn; omega⟩, ⟨by simpa using hn⟩, ⟨by have := Nat.mul_le_mul hK hn; omega⟩, ⟨((Below.refl _ _).alloc (Nat.le_refl _) _).alloc (by simp) _⟩, ⟨fun _ _ _ h => by cases h⟩⟩
  case round =>
    clear HS
    obtain ⟨i, N, vc, F, cs, s, rfl, HI, HC, HG, HN, HL, HT, HB, HO⟩ := hrel
    cases gk with
    | zero =>
      have hi : ¬ ((i : Int) < (n : Int)) := by have := HI.out; omega
      have hc := HC.out
      simp only [chips, Option.some.injEq] at hc
      subst hc
      go_wp2_with (fail)
      refine bodyPost_ret (v := .pointer (some ⟨w.heap.size + 1, 0, none⟩)) (by simp [results, Try.results97, go_sem]) rfl ?_
      exact ⟨_, _, _, _, rfl, HB.out, HG⟩
    | succ m =>
      have hi : (i : Int) < (n : Int) := by have := HI.out; omega
      have hc := HC.out
      simp only [chips] at hc
      obtain ⟨⟨F1, x1, y1, s1⟩, hr, hc⟩ := Option.bind_eq_some_iff.1 hc
      have HR := Aside0.mk hr
      have HC1 := Aside0.mk hc
      clear hr hc HC
      have hgl := HG.out.lt (.inl rfl)
      have hml := HG.out.lt (.inr (.inl rfl))
      have hvl : vc.ownBlock ≠ some wr.heap.size := fun e => Nat.lt_irrefl _ (HG.out.lt (.inr (.inr e)))
      go_wp2_with (fail)
      obtain ⟨s0, hs0⟩ : ∃ s0, s0 = s := ⟨_, rfl⟩
      have hsK : s0 + ((K * m : Nat) : Int) + K ≤ 75000000 ∧ 0 ≤ ((K * m : Nat) : Int) := by have := HT.out; rw [Nat.mul_succ] at this; omega
      have hNK : N + (K + 1) * m + (K + 1) ≤ 75000250 := by have := HN.out; rw [Nat.mul_succ] at this; omega
      obtain ⟨Wo, hWo⟩ : ∃ W, W = wr := ⟨wr, rfl⟩
      subst hWo
      go_loopg [11] K (fun kq v11 wq => ∃ (N1 : Nat) (F : Fld) (x y s : Int), Aside0 (run 2 300 mv2 kq F x y s = some (F1, x1, y1, s1)) ∧ Aside0 (GroAt wq w.heap.size (w.heap.size + 1) w.heap.size N1 vc F cs s) ∧
        Aside0 (wq.heap[Wo.heap.size]? = some (.cells #[.int .i64 x, .int .i64 y] 76 (0, 0))) ∧ Aside0 (N1 + kq ≤ N + K) ∧ Aside0 (0 ≤ s ∧ s + kq ≤ s0 + K) ∧ Aside0 (Below w.heap.size w wq) ∧ Aside0 (Rot 2 F))
      case atStart => exact ⟨N, F, 0, 0, s, HR, ⟨HG.out.alloc _⟩, ⟨blk_new _ _⟩, ⟨Nat.le_refl _⟩, ⟨by have := HT.out; omega⟩, ⟨HB.out.alloc (by omega) _⟩, HO⟩
      case round =>
        clear HR HG HB HO
        obtain ⟨N1, F2, x, y, s2, HR, HG, HA, HN1, HS1, HB, HO⟩ := hrel
        cases gk with
        | zero => exact absurd HR.out (by simp [run])
        | succ q =>
          have hr := HR.out
          simp only [run] at hr
          split at hr
          case isFalse => cases hr
          rename_i hbox
          have hwx : (Lit.int .i64 x).wf = true := i64_ok (by omega) (by omega)
          have hwy : (Lit.int .i64 y).wf = true := i64_ok (by omega) (by omega)
          obtain ⟨D, hown, hfi⟩ := HG.out.drew.map
          obtain ⟨v, ps, hlook, hv⟩ := hown.look_ok law76 Try.underlying67 (zero3 _) (plainElem_int Try.underlying3 (by decide)) (key_is x y hwx hwy)
          obtain ⟨c, rfl, hc, hwc⟩ := plainElem_int_inv Try.underlying3 hv
          rw [hfi.has x y hwx hwy] at hlook
          have hat : ∀ r, F2 x y = some r → c = r := fun r h => by
            have h1 := hfi.val x y r hwx hwy h
            have h2 := congrArg Prod.fst hc
            simp only at h2
            rw [h1] at h2
            injection h2 with h2
            injection h2 with _ h2
            exact h2.symm
          have hat := Aside0.mk hat
          have hr := Aside0.mk hr
          have g0 := blk_cell HG.out.blk 0
          have a0 := blk_cell HA.out 0
          have a1 := blk_cell HA.out 1
          simp at g0 a0 a1
          clear hfi hv hc hown
          go_upto_region 5 with (fail)
          have HG1 := Aside0.mk HG.out.drew
          have HA1 : Aside0 (wr.drew.heap[Wo.heap.size]? = some (.cells #[.int .i64 x, .int .i64 y] 76 (0, 0))) := ⟨HA.out⟩
          have HB1 := Aside0.mk (below_drew HB.out)
          have g0 : wr.drew.cell? _ = _ := g0
          have a0 : wr.drew.cell? _ = _ := a0
          have a1 : wr.drew.cell? _ = _ := a1
          clear HG HA HB
          refine start_ (n := 11) (S := fun w' => w' = wr.drew) (ds := []) #[false, false, false, false, false, false, false, false, false, false, false] (by kernel_rfl) rfl rfl rfl (fun hHeld => ?_)
          refine with_tabW tab5 bits5 (fun HT_ HW_ => ?_)
          generalize wr.drew = W9 at *
          refine pure_ (i := 0) (N := some 21) (v := ?_) (a' := ?_) #[true, false, false, false, false, false, false, false, false, false, false] rfl rfl (any_of HT_.out (by kernel_rfl)) (fun _ _ _ h => h) (Or.inl ⟨by rfl, ?_⟩) ?_ ?_
          rotate_left
          · intro w'
            go_simp
            with_reducible rfl
          rotate_left
          · simp only [Act.put, List.setIfInBounds_toArray, List.set_cons_zero, List.set_cons_succ, i64_w, i32_w]
            rfl
          refine pure_ (i := 1) (N := some 22) (v := ?_) (a' := ?_) #[true, true, false, false, false, false, false, false, false, false, false] rfl rfl (any_of HT_.out (by kernel_rfl)) (fun _ _ _ h => h) (Or.inl ⟨by rfl, ?_⟩) ?_ ?_
          rotate_left
          · intro w'
            go_simp
            with_reducible rfl
          rotate_left
          · simp only [Act.put, List.setIfInBounds_toArray, List.set_cons_zero, List.set_cons_succ, i64_w, i32_w]
            rfl
          refine pure_ (i := 2) (N := some 23) (v := ?_) (a' := ?_) #[true, true, true, false, false, false, false, false, false, false, false] rfl rfl (any_of HT_.out (by kernel_rfl)) (fun _ _ _ h => h) (Or.inl ⟨by rfl, ?_⟩) ?_ ?_
          rotate_left
          · intro w'
            go_simp
            with_reducible rfl
          rotate_left
          · simp only [Act.put, List.setIfInBounds_toArray, List.set_cons_zero, List.set_cons_succ, i64_w, i32_w]
            rfl
          refine take_ (i := 3) (N := some 24) (v := ?_) (a' := ?_) #[true, true, true, true, false, false, false, false, false, false, false] rfl rfl (take_ofW HT_.out HW_.out (by kernel_rfl)) (fun _ _ _ h => h) (Or.inl ⟨by rfl, ?_⟩) hHeld ?_ ?_
          rotate_left
          · intro w' hSw; subst hSw
            go_simp
            with_reducible rfl
          rotate_left
          · simp only [Act.put, List.setIfInBounds_toArray, List.set_cons_zero, List.set_cons_succ, i64_w, i32_w]
            rfl
          refine take_ (i := 4) (N := some 25) (v := ?_) (a' := ?_) #[true, true, true, true, true, false, false, false, false, false, false] rfl rfl (take_ofW HT_.out HW_.out (by kernel_rfl)) (fun _ _ _ h => h) (Or.inl ⟨by rfl, ?_⟩) hHeld ?_ ?_
          rotate_left
          · intro w' hSw; subst hSw
            go_simp
            with_reducible rfl
          rotate_left
          · simp only [Act.put, List.setIfInBounds_toArray, List.set_cons_zero, List.set_cons_succ, i64_w, i32_w]
            rfl
          refine take_ (i := 5) (N := some 26) (v := ?_) (a' := ?_) #[true, true, true, true, true, true, false, false, false, false, false] rfl rfl (take_ofW HT_.out HW_.out (by kernel_rfl)) (fun _ _ _ h => h) (Or.inl ⟨by rfl, ?_⟩) hHeld ?_ ?_
          rotate_left
          · intro w' hSw; subst hSw
            go_simp
            with_reducible rfl
          rotate_left
          · simp only [Act.put, List.setIfInBounds_toArray, List.set_cons_zero, List.set_cons_succ, i64_w, i32_w]
            rfl
          refine pure_ (i := 6) (N := some 20) (v := ?_) (a' := ?_) #[true, true, true, true, true, true, true, false, false, false, false] rfl rfl (any_of HT_.out (by kernel_rfl)) (fun _ _ _ h => h) (Or.inl ⟨by rfl, ?_⟩) ?_ ?_
          rotate_left
          · intro w'
            go_simp
            with_reducible rfl
          rotate_left
          · simp only [Act.put, List.setIfInBounds_toArray, List.set_cons_zero, List.set_cons_succ, i64_w, i32_w]
            rfl
          refine pure_ (i := 7) (N := some 27) (v := ?_) (a' := ?_) #[true, true, true, true, true, true, true, true, false, false, false] rfl rfl (any_of HT_.out (by kernel_rfl)) (fun _ _ _ h => h) (Or.inl ⟨by rfl, ?_⟩) ?_ ?_
          rotate_left
          · intro w'
            go_simp
            with_reducible rfl
          rotate_left
          · simp only [Act.put, List.setIfInBounds_toArray, List.set_cons_zero, List.set_cons_succ, i64_w, i32_w]
            rfl
          refine pure_ (i := 8) (N := some 28) (v := ?_) (a' := ?_) #[true, true, true, true, true, true, true, true, true, false, false] rfl rfl (any_of HT_.out (by kernel_rfl)) (fun _ _ _ h => h) (Or.inl ⟨by rfl, ?_⟩) ?_ ?_
          rotate_left
          · intro w'
            go_simp
            with_reducible rfl
          rotate_left
          · simp only [Act.put, List.setIfInBounds_toArray, List.set_cons_zero, List.set_cons_succ, i64_w, i32_w]
            rfl
          refine pure_ (i := 9) (N := some 11) (v := ?_) (a' := ?_) #[true, true, true, true, true, true, true, true, true, true, false] rfl rfl (any_of HT_.out (by kernel_rfl)) (fun _ _ _ h => h) (Or.inl ⟨by rfl, ?_⟩) ?_ ?_
          rotate_left
          · intro w'
            go_simp
            with_reducible rfl
          rotate_left
          · simp only [Act.put, List.setIfInBounds_toArray, List.set_cons_zero, List.set_cons_succ, i64_w, i32_w]
            rfl
          refine pure_ (i := 10) (N := some 12) (v := ?_) (a' := ?_) #[true, true, true, true, true, true, true, true, true, true, true] rfl rfl (any_of HT_.out (by kernel_rfl)) (fun _ _ _ h => h) (Or.inl ⟨by rfl, ?_⟩) ?_ ?_
          rotate_left
          · intro w'
            go_simp
            with_reducible rfl
          rotate_left
          · simp only [Act.put, List.setIfInBounds_toArray, List.set_cons_zero, List.set_cons_succ, i64_w, i32_w]
            rfl
          refine done_ (done_of HT_.out (by kernel_rfl)) ?_
          clear hlook g0 a0 a1 hHeld HT_ HW_
          cases hF : F2 x y with
          | none =>
            have hr' := hr.out
            rw [hF] at hr'
            simp only [Option.some.injEq, Prod.mk.injEq] at hr'
            obtain ⟨rfl, rfl, rfl, rfl⟩ := hr'
            clear hr hat
            go_upto_region 11 with (fail)
            obtain ⟨w8, hst, HGx, hgr⟩ := HG1.out.drew.put hwx hwy (r := k0) (i64_ok (by omega) (by omega)) (by have := HN1.out; have := HN.out; omega)
            have HG2 := Aside0.mk HGx
            have hAl := blk_lt HA1.out
            have HA2 : Aside0 (w8.heap[Wo.heap.size]? = some (.cells #[.int .i64 x, .int .i64 y] 76 (0, 0))) := ⟨(hgr.block _ hAl (fun e => by injection e with e; omega)).trans HA1.out⟩
            have HB2 : Aside0 (Below w.heap.size w w8) := ⟨(below_drew HB1.out).grown hgr (by show w.heap.size ≤ W9.heap.size; omega) (fun j hj => by cases hj; exact Nat.le_refl _)⟩
            have g0 : W9.drew.cell? _ = _ := blk_cell HG1.out.blk 0
            have a0 : W9.drew.cell? _ = _ := blk_cell HA1.out 0
            have a1 : W9.drew.cell? _ = _ := blk_cell HA1.out 1
            simp at g0 a0 a1
            have g0 : W9.drew.cell? _ = _ := g0
            have a0 : W9.drew.cell? _ = _ := a0
            have a1 : W9.drew.cell? _ = _ := a1
            clear HG1 HA1 HB1 HGx hgr hAl
            refine start_ (n := 7) (S := fun w' => w' = W9.drew) (ds := [6]) #[false, false, false, false, false, false, false] (by kernel_rfl) rfl rfl rfl (fun hHeld => ?_)
            refine with_tabW tab11 bits8 (fun HT_ HW_ => ?_)
            generalize W9.drew = W8 at *
            refine pure_ (i := 0) (N := some 52) (v := ?_) (a' := ?_) #[true, false, false, false, false, false, false] rfl rfl (any_of HT_.out (by kernel_rfl)) (fun _ _ _ h => h) (Or.inl ⟨by rfl, ?_⟩) ?_ ?_
            rotate_left
            · intro w'
              go_simp
              with_reducible rfl
            rotate_left
            · simp only [Act.put, List.setIfInBounds_toArray, List.set_cons_zero, List.set_cons_succ, i64_w, i32_w]
              rfl
            refine pure_ (i := 1) (N := some 53) (v := ?_) (a' := ?_) #[true, true, false, false, false, false, false] rfl rfl (any_of HT_.out (by kernel_rfl)) (fun _ _ _ h => h) (Or.inl ⟨by rfl, ?_⟩) ?_ ?_
            rotate_left
            · intro w'
              go_simp
              with_reducible rfl
            rotate_left
            · simp only [Act.put, List.setIfInBounds_toArray, List.set_cons_zero, List.set_cons_succ, i64_w, i32_w]
              rfl
            refine pure_ (i := 2) (N := some 54) (v := ?_) (a' := ?_) #[true, true, true, false, false, false, false] rfl rfl (any_of HT_.out (by kernel_rfl)) (fun _ _ _ h => h) (Or.inl ⟨by rfl, ?_⟩) ?_ ?_
            rotate_left
            · intro w'
              go_simp
              with_reducible rfl
            rotate_left
            · simp only [Act.put, List.setIfInBounds_toArray, List.set_cons_zero, List.set_cons_succ, i64_w, i32_w]
              rfl
            refine take_ (i := 3) (N := some 55) (v := ?_) (a' := ?_) #[true, true, true, true, false, false, false] rfl rfl (take_ofW HT_.out HW_.out (by kernel_rfl)) (fun _ _ _ h => h) (Or.inl ⟨by rfl, ?_⟩) hHeld ?_ ?_
            rotate_left
            · intro w' hSw; subst hSw
              go_simp
              with_reducible rfl
            rotate_left
            · simp only [Act.put, List.setIfInBounds_toArray, List.set_cons_zero, List.set_cons_succ, i64_w, i32_w]
              rfl
            refine take_ (i := 4) (N := some 56) (v := ?_) (a' := ?_) #[true, true, true, true, true, false, false] rfl rfl (take_ofW HT_.out HW_.out (by kernel_rfl)) (fun _ _ _ h => h) (Or.inl ⟨by rfl, ?_⟩) hHeld ?_ ?_
            rotate_left
            · intro w' hSw; subst hSw
              go_simp
              with_reducible rfl
            rotate_left
            · simp only [Act.put, List.setIfInBounds_toArray, List.set_cons_zero, List.set_cons_succ, i64_w, i32_w]
              rfl
            refine pure_ (i := 5) (N := some 57) (v := ?_) (a' := ?_) #[true, true, true, true, true, true, false] rfl rfl (any_of HT_.out (by kernel_rfl)) (fun _ _ _ h => h) (Or.inl ⟨by rfl, ?_⟩) ?_ ?_
            rotate_left
            · intro w'
              go_simp
              with_reducible rfl
            rotate_left
            · simp only [Act.put, List.setIfInBounds_toArray, List.set_cons_zero, List.set_cons_succ, i64_w, i32_w]
              rfl
            refine lastS_ (i := 6) (w1 := w8) #[true, true, true, true, true, true, true] rfl rfl (one_of HT_.out (by kernel_rfl)) (by decide) (by rfl) ?_ ?_
            · go_simp
            clear hst g0 a0 a1 hHeld
            (try simp only [Act.put, List.setIfInBounds_toArray, List.set_cons_zero, List.set_cons_succ])
            refine done_ (done_of HT_.out (by kernel_rfl)) ?_
            clear HT_ HW_
            go_upto_region 12 with (fail)
            have G3 := Aside0.mk HG2.out.drew
            have A3 : Aside0 (w8.drew.heap[Wo.heap.size]? = some (.cells #[.int .i64 x, .int .i64 y] 76 (0, 0))) := ⟨HA2.out⟩
            have L3 := Aside0.mk (below_drew HB2.out)
            have c1 := blk_cell G3.out.blk 1
            have b0 := blk_cell A3.out 0
            have b1 := blk_cell A3.out 1
            have s3 : w.heap.size ≤ w8.drew.heap.size := by have := blk_lt HA2.out; show w.heap.size ≤ w8.heap.size; omega
            simp only [List.getElem?_toArray, List.getElem?_cons_succ, List.getElem?_cons_zero] at c1 b0 b1
            clear HG2 HA2 HB2
            refine start_ (n := 11) (S := fun w' => w'.cell? ⟨w.heap.size + 1, 1, none⟩ = some vc ∧ w'.cell? ⟨Wo.heap.size, 0, none⟩ = some (.int .i64 x) ∧ w'.cell? ⟨Wo.heap.size, 1, none⟩ = some (.int .i64 y)) (ds := [10]) #[false, false, false, false, false, false, false, false, false, false, false] (by kernel_rfl) rfl rfl ⟨c1, b0, b1⟩ (fun hHeld => ?_)
            refine with_tabW tab12 bits12 (fun HT_ HW_ => ?_)
            generalize w8.drew = X2 at *
            refine pure_ (i := 0) (N := some 58) (v := ?_) (a' := ?_) #[true, false, false, false, false, false, false, false, false, false, false] rfl rfl (any_of HT_.out (by kernel_rfl)) (fun _ _ _ h => h) (Or.inl ⟨by rfl, ?_⟩) ?_ ?_
            rotate_left
            · intro w'
              go_simp
              with_reducible rfl
            rotate_left
            · simp only [Act.put, List.setIfInBounds_toArray, List.set_cons_zero, List.set_cons_succ, i64_w, i32_w]
              rfl
            refine pure_ (i := 1) (N := some 59) (v := ?_) (a' := ?_) #[true, true, false, false, false, false, false, false, false, false, false] rfl rfl (any_of HT_.out (by kernel_rfl)) (fun _ _ _ h => h) (Or.inl ⟨by rfl, ?_⟩) ?_ ?_
            rotate_left
            · intro w'
              go_simp
              with_reducible rfl
            rotate_left
            · simp only [Act.put, List.setIfInBounds_toArray, List.set_cons_zero, List.set_cons_succ, i64_w, i32_w]
              rfl
            refine pure_ (i := 2) (N := some 60) (v := ?_) (a' := ?_) #[true, true, true, false, false, false, false, false, false, false, false] rfl rfl (any_of HT_.out (by kernel_rfl)) (fun _ _ _ h => h) (Or.inl ⟨by rfl, ?_⟩) ?_ ?_
            rotate_left
            · intro w'
              go_simp
              with_reducible rfl
            rotate_left
            · simp only [Act.put, List.setIfInBounds_toArray, List.set_cons_zero, List.set_cons_succ, i64_w, i32_w]
              rfl
            refine pure_ (i := 3) (N := some 61) (v := ?_) (a' := ?_) #[true, true, true, true, false, false, false, false, false, false, false] rfl rfl (any_of HT_.out (by kernel_rfl)) (fun _ _ _ h => h) (Or.inl ⟨by rfl, ?_⟩) ?_ ?_
            rotate_left
            · intro w'
              go_simp
              with_reducible rfl
            rotate_left
            · simp only [Act.put, List.setIfInBounds_toArray, List.set_cons_zero, List.set_cons_succ, i64_w, i32_w]
              rfl
            refine take_ (i := 4) (N := some 62) (v := ?_) (a' := ?_) #[true, true, true, true, true, false, false, false, false, false, false] rfl rfl (take_ofW HT_.out HW_.out (by kernel_rfl)) (fun _ _ _ h => h) (Or.inl ⟨by rfl, ?_⟩) hHeld ?_ ?_
            rotate_left
            · intro w' hSw; obtain ⟨hS0, hS1, hS2⟩ := hSw
              go_simp
              with_reducible rfl
            rotate_left
            · simp only [Act.put, List.setIfInBounds_toArray, List.set_cons_zero, List.set_cons_succ, i64_w, i32_w]
              rfl
            refine take_ (i := 5) (N := some 63) (v := ?_) (a' := ?_) #[true, true, true, true, true, true, false, false, false, false, false] rfl rfl (take_ofW HT_.out HW_.out (by kernel_rfl)) (fun _ _ _ h => h) (Or.inl ⟨by rfl, ?_⟩) hHeld ?_ ?_
            rotate_left
            · intro w' hSw; obtain ⟨hS0, hS1, hS2⟩ := hSw
              go_simp
              with_reducible rfl
            rotate_left
            · simp only [Act.put, List.setIfInBounds_toArray, List.set_cons_zero, List.set_cons_succ, i64_w, i32_w]
              rfl
            refine one_ (i := 6) (N := some 64) #[true, true, true, true, true, true, true, false, false, false, false] rfl rfl (one_of HT_.out (by kernel_rfl)) (by decide) (fun K hK => ?_)
            refine value_ (v := .slice (some ⟨X2.heap.size, 0, none⟩) 1 1) (w1 := X2.alloc (.cells #[.int .i64 x, .int .i64 y] 76)) (by rfl) rfl (by go_simp) ?_
            have q0 : (X2.alloc (.cells #[.int .i64 x, .int .i64 y] 76)).cell? ⟨X2.heap.size, 0, none⟩ = some (.int .i64 x) := (blk_cell (blk_new X2 (.cells #[.int .i64 x, .int .i64 y] 76)) 0).trans rfl
            have q1 : (X2.alloc (.cells #[.int .i64 x, .int .i64 y] 76)).cell? ⟨X2.heap.size, 1, none⟩ = some (.int .i64 y) := (blk_cell (blk_new X2 (.cells #[.int .i64 x, .int .i64 y] 76)) 1).trans rfl
            have G4 := Aside0.mk (G3.out.alloc (.cells #[.int .i64 x, .int .i64 y] 76))
            have L4 := Aside0.mk (L3.out.alloc (by omega) (.cells #[.int .i64 x, .int .i64 y] 76))
            have A4 := Aside0.mk (((MapKept.heap_alloc X2 (.cells #[.int .i64 x, .int .i64 y] 76)).2 _ (blk_lt A3.out)).trans A3.out)
            have s4 : w.heap.size ≤ (X2.alloc (.cells #[.int .i64 x, .int .i64 y] 76)).heap.size := by simp; omega
            clear G3 L3 A3 hHeld s3
            generalize X2.alloc (.cells #[.int .i64 x, .int .i64 y] 76) = X3 at *
            generalize X2.heap.size = BT at *
            refine hK.out _ _ ⟨(blk_cell G4.out.blk 1).trans rfl, (blk_cell A4.out 0).trans rfl, (blk_cell A4.out 1).trans rfl⟩ (fun hHeld => ?_)
            clear hK K
            (try simp only [Act.put, List.setIfInBounds_toArray, List.set_cons_zero, List.set_cons_succ])
            refine one_ (i := 7) (N := some 65) #[true, true, true, true, true, true, true, true, false, false, false] rfl rfl (one_of HT_.out (by kernel_rfl)) (by decide) (fun K hK => ?_)
            refine step_appC rfl (.tmp 62) (.tmp 64) rfl BT rfl rfl G4.out s4 (by have := HL.out; omega) q0 q1 ?_
            intro g1 cap X4 hb4 hG5 hgr5 hB5
            have A5 := Aside0.mk ((hgr5.block _ (blk_lt A4.out) (fun e => hvl e.symm)).trans A4.out)
            have G5 := Aside0.mk hG5
            have L5 := Aside0.mk (L4.out.trans hB5)
            have c4 := blk_cell hb4 1
            have z4 := blk_frozen hb4 1
            simp at c4
            clear G4 L4 A4 hHeld hG5 hgr5 hB5 q0 q1
            refine hK.out _ _ ⟨c4, (blk_cell A5.out 0).trans rfl, (blk_cell A5.out 1).trans rfl⟩ (fun hHeld => ?_)
            clear hK K hb4
            (try simp only [Act.put, List.setIfInBounds_toArray, List.set_cons_zero, List.set_cons_succ])
            refine pure_ (i := 8) (N := some 66) (v := ?_) (a' := ?_) #[true, true, true, true, true, true, true, true, true, false, false] rfl rfl (any_of HT_.out (by kernel_rfl)) (fun _ _ _ h => h) (Or.inl ⟨by rfl, ?_⟩) ?_ ?_
            rotate_left
            · intro w'
              go_simp
              with_reducible rfl
            rotate_left
            · simp only [Act.put, List.setIfInBounds_toArray, List.set_cons_zero, List.set_cons_succ, i64_w, i32_w]
              rfl
            refine pure_ (i := 9) (N := some 67) (v := ?_) (a' := ?_) #[true, true, true, true, true, true, true, true, true, true, false] rfl rfl (any_of HT_.out (by kernel_rfl)) (fun _ _ _ h => h) (Or.inl ⟨by rfl, ?_⟩) ?_ ?_
            rotate_left
            · intro w'
              go_simp
              with_reducible rfl
            rotate_left
            · simp only [Act.put, List.setIfInBounds_toArray, List.set_cons_zero, List.set_cons_succ, i64_w, i32_w]
              rfl
            refine lastS_ (i := 10) (w1 := X4.setCell ⟨w.heap.size + 1, 1, none⟩ (.slice (some ⟨g1, 0, none⟩) (cs.length + 1) cap)) #[true, true, true, true, true, true, true, true, true, true, true] rfl rfl (one_of HT_.out (by kernel_rfl)) (by decide) (by rfl) ?_ ?_
            · clear G5 L5 A5
              go_simp
            clear c4 z4 hHeld
            (try simp only [Act.put, List.setIfInBounds_toArray, List.set_cons_zero, List.set_cons_succ])
            refine done_ (done_of HT_.out (by kernel_rfl)) ?_
            clear HT_ HW_
            have hwi := bd4 i HI.out hn
            go_wp2_with (fail)
            go_roundg m
            case measure => omega
            case rel => exact ⟨i + 1, N1 + 1, _, _, _, s2, by first | rfl | go_num, ⟨bd0 HI.out⟩, HC1, G5, ⟨bd1 HN1.out hNK⟩, ⟨bd3 HL.out⟩, ⟨bd2 HS1.out hsK⟩, ⟨L5.out.setCell (p := ⟨w.heap.size + 1, 1, none⟩) (Nat.le_succ _) _⟩, ⟨HO.out.upd hk0⟩⟩
          | some r =>
            have hc : c = r := hat.out r hF
            subst hc
            have hr' := hr.out
            rw [hF] at hr'
            simp only at hr'
            have HR1 := Aside0.mk hr'
            have hc4 := HO.out x y c hF
            have hw1 : wrap64 (c + 1) = c + 1 := wrap_id (by omega) (by omega)
            have hw2 : Int.tmod (c + 1) 2 = (c + 1) % 2 := Int.tmod_eq_emod_of_nonneg (by omega)
            obtain ⟨r1, hr1⟩ : ∃ r1, r1 = (c + 1) % 2 := ⟨_, rfl⟩
            have hr4 : 0 ≤ r1 ∧ r1 < 2 := by omega
            rw [← hr1] at hw2 HR1
            clear hr hat hr' hF hr1
            go_upto_region 8 with (fail)
            obtain ⟨w8, hst, HGx, hgr⟩ := HG1.out.drew.put hwx hwy (r := r1) (i64_ok (by omega) (by omega)) (by have := HN1.out; have := HN.out; omega)
            have HG2 := Aside0.mk HGx
            have hAl := blk_lt HA1.out
            have HA2 : Aside0 (w8.heap[Wo.heap.size]? = some (.cells #[.int .i64 x, .int .i64 y] 76 (0, 0))) := ⟨(hgr.block _ hAl (fun e => by injection e with e; omega)).trans HA1.out⟩
            have HB2 : Aside0 (Below w.heap.size w w8) := ⟨(below_drew HB1.out).grown hgr (by show w.heap.size ≤ W9.heap.size; omega) (fun j hj => by cases hj; exact Nat.le_refl _)⟩
            have g0 : W9.drew.cell? _ = _ := blk_cell HG1.out.blk 0
            have a0 : W9.drew.cell? _ = _ := blk_cell HA1.out 0
            have a1 : W9.drew.cell? _ = _ := blk_cell HA1.out 1
            simp at g0 a0 a1
            have g0 : W9.drew.cell? _ = _ := g0
            have a0 : W9.drew.cell? _ = _ := a0
            have a1 : W9.drew.cell? _ = _ := a1
            clear HG1 HA1 HB1 HGx hgr hAl
            refine start_ (n := 7) (S := fun w' => w' = W9.drew) (ds := [6]) #[false, false, false, false, false, false, false] (by kernel_rfl) rfl rfl rfl (fun hHeld => ?_)
            refine with_tabW tab8 bits8 (fun HT_ HW_ => ?_)
            generalize W9.drew = W8 at *
            refine pure_ (i := 0) (N := some 35) (v := ?_) (a' := ?_) #[true, false, false, false, false, false, false] rfl rfl (any_of HT_.out (by kernel_rfl)) (fun _ _ _ h => h) (Or.inl ⟨by rfl, ?_⟩) ?_ ?_
            rotate_left
            · intro w'
              go_simp
              with_reducible rfl
            rotate_left
            · simp only [Act.put, List.setIfInBounds_toArray, List.set_cons_zero, List.set_cons_succ, i64_w, i32_w]
              rfl
            refine pure_ (i := 1) (N := some 36) (v := ?_) (a' := ?_) #[true, true, false, false, false, false, false] rfl rfl (any_of HT_.out (by kernel_rfl)) (fun _ _ _ h => h) (Or.inl ⟨by rfl, ?_⟩) ?_ ?_
            rotate_left
            · intro w'
              go_simp
              with_reducible rfl
            rotate_left
            · simp only [Act.put, List.setIfInBounds_toArray, List.set_cons_zero, List.set_cons_succ, i64_w, i32_w]
              rfl
            refine pure_ (i := 2) (N := some 37) (v := ?_) (a' := ?_) #[true, true, true, false, false, false, false] rfl rfl (any_of HT_.out (by kernel_rfl)) (fun _ _ _ h => h) (Or.inl ⟨by rfl, ?_⟩) ?_ ?_
            rotate_left
            · intro w'
              go_simp
              with_reducible rfl
            rotate_left
            · simp only [Act.put, List.setIfInBounds_toArray, List.set_cons_zero, List.set_cons_succ, i64_w, i32_w]
              rfl
            refine take_ (i := 3) (N := some 38) (v := ?_) (a' := ?_) #[true, true, true, true, false, false, false] rfl rfl (take_ofW HT_.out HW_.out (by kernel_rfl)) (fun _ _ _ h => h) (Or.inl ⟨by rfl, ?_⟩) hHeld ?_ ?_
            rotate_left
            · intro w' hSw; subst hSw
              go_simp
              with_reducible rfl
            rotate_left
            · simp only [Act.put, List.setIfInBounds_toArray, List.set_cons_zero, List.set_cons_succ, i64_w, i32_w]
              rfl
            refine take_ (i := 4) (N := some 39) (v := ?_) (a' := ?_) #[true, true, true, true, true, false, false] rfl rfl (take_ofW HT_.out HW_.out (by kernel_rfl)) (fun _ _ _ h => h) (Or.inl ⟨by rfl, ?_⟩) hHeld ?_ ?_
            rotate_left
            · intro w' hSw; subst hSw
              go_simp
              with_reducible rfl
            rotate_left
            · simp only [Act.put, List.setIfInBounds_toArray, List.set_cons_zero, List.set_cons_succ, i64_w, i32_w]
              rfl
            refine pure_ (i := 5) (N := some 40) (v := ?_) (a' := ?_) #[true, true, true, true, true, true, false] rfl rfl (any_of HT_.out (by kernel_rfl)) (fun _ _ _ h => h) (Or.inl ⟨by rfl, ?_⟩) ?_ ?_
            rotate_left
            · intro w'
              go_simp
              with_reducible rfl
            rotate_left
            · simp only [Act.put, List.setIfInBounds_toArray, List.set_cons_zero, List.set_cons_succ, i64_w, i32_w]
              rfl
            refine lastS_ (i := 6) (w1 := w8) #[true, true, true, true, true, true, true] rfl rfl (one_of HT_.out (by kernel_rfl)) (by decide) (by rfl) ?_ ?_
            · go_simp
            clear hst g0 a0 a1 hHeld
            (try simp only [Act.put, List.setIfInBounds_toArray, List.set_cons_zero, List.set_cons_succ])
            refine done_ (done_of HT_.out (by kernel_rfl)) ?_
            clear HT_ HW_
            have HE := Aside0.mk (fun W => line_exit x y r1 W (by omega) (by omega) (by omega))
            have hw3 : wrap64 (s2 + 1) = s2 + 1 := wrap_id (by have := HS1.out; omega) (by have := HS1.out; omega)
            generalize mv2 r1 x y = pq at *
            have hne1 : Wo.heap.size ≠ w.heap.size + 1 := by omega
            have hne2 : w.heap.size + 1 ≠ Wo.heap.size := by omega
            have hnA : ¬ (Wo.heap.size = w.heap.size + 1 ∨ Wo.heap.size = w.heap.size ∨ vc.ownBlock = some Wo.heap.size) := by
              rintro (h | h | h)
              · omega
              · omega
              · exact hvl h
            have b0 := blk_cell HA2.out 0
            have b1 := blk_cell HA2.out 1
            simp at b0 b1
            go_wp2_with (first | (go_at_call 99; refine (HE.out _).mono ?_; rintro e w9 ⟨rfl, hB⟩; have HG3 := Aside0.mk (HG2.out.below hB); have HA3 := Aside0.mk ((hB.block _ (blk_lt HA2.out)).trans HA2.out); have HB3 := Aside0.mk (below_then HB2.out HB2.out.size hB); clear hB; have k0 := blk_cell HA3.out 0; have k1 := blk_cell HA3.out 1; have fz := blk_frozen HA3.out; have k2 := blk_cell HG3.out.blk 2; have fz2 := blk_frozen HG3.out.blk; simp at k0 k1 k2))
            go_roundg q
            case measure => omega
            case rel => exact ⟨N1 + 1, _, pq.1, pq.2, s2 + 1, HR1, ⟨((HG3.out.far hnA 0 _).far hnA 1 _).step (s2 + 1)⟩, ⟨(blk_far (at_set HA3.out _ _) (p := ⟨w.heap.size + 1, 2, none⟩) hne1 _)⟩, ⟨by have := HN1.out; omega⟩, ⟨by have := HS1.out; omega⟩, ⟨((HB3.out.setCell (p := ⟨Wo.heap.size, 0, none⟩) (by show w.heap.size ≤ Wo.heap.size; omega) _).setCell (p := ⟨Wo.heap.size, 1, none⟩) (by show w.heap.size ≤ Wo.heap.size; omega) _).setCell (p := ⟨w.heap.size + 1, 2, none⟩) (Nat.le_succ _) _⟩, ⟨HO.out.upd hr4⟩⟩
end Go.Proofs.Ytjedhjeijpbobaa.G8
