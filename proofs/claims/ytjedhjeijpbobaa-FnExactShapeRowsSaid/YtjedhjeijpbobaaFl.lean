/-
  The rows of what has grown: the program's, walked.
-/
import Derived.Test.YtjedhjeijpbobaaFk
import Derived.Test.YtjedhjeijpbobaaFj
namespace Go.Proofs.Ytjedhjeijpbobaa.G8
open Go.RowKit Go.Maps Go.Proofs.YtjedhjeijpbobaaW.PrintWords Go.Proofs.YtjedhjeijpbobaaW.PrintLast Go.Proofs.YtjedhjeijpbobaaW.PrintMore
open Go.Proofs.Ytjedhjeijpbobaa.GA
set_option linter.unusedVariables false
set_option linter.unusedSimpArgs false
theorem grid_first {n k : Int} (h : okGrid n k = true) (h0 : n ≠ 0) : (gridS n k).cells[0]? = some (0, 0) := by
  obtain ⟨m, rfl, hm, _, _, hS⟩ := grid_is h
  exact chips_first (by omega) (by omega) hS
theorem shape_zero {n k : Int} (h : okGrid n k = true) (h0 : n = 0) : shapeV n k = [] := by
  rw [shape1 h]
  have h2 := (grid_kept h).2.1
  rw [h0] at h2
  have h3 : (gridS n k).cells = [] := List.eq_nil_of_length_eq_zero (by rw [h0]; exact h2)
  unfold shapeS eL eR eD eU
  rw [h3]
  rfl
theorem own_beside {w w1 : World} {base1 base2 : Nat} {e1 e2 : TypeId} {sz1 sz2 n1 n2 : Nat} {v1 v2 : Value} {xs1 xs2 : List Value} (h1 : w.ownsRow base1 e1 sz1 v1 n1 xs1) (h2 : w.ownsRow base2 e2 sz2 v2 n2 xs2) (hne : e1 ≠ e2) (hg : w.grownBy w1 v1.ownBlock) : w1.ownsRow base2 e2 sz2 v2 n2 xs2 :=
  own_move h2 fun k hk => by
    obtain ⟨cells, hc⟩ := own_typed h2 k hk
    exact hg.block k (blk_lt hc) (own_ne h1 hc hne)
theorem R_beside {w w1 : World} {base : Nat} {v1 v2 : Value} {xs : List Int} {ys : List ByteArray} (h1 : Kd.R (Kd.int .u8) 5 w base (fun _ => True) v1 xs) (h2 : Kd.R Kd.string 9 w base (fun _ => True) v2 ys) (hg : w.grownBy w1 v1.ownBlock) : Kd.R Kd.string 9 w1 base (fun _ => True) v2 ys :=
  Kd.R_of_own (own_beside (Kd.own_of_R h1) (Kd.own_of_R h2) (by decide) hg) (fun _ _ => trivial)
theorem R_empty {α : Type} {enc : α → Value} {h1 : ∀ x, (enc x).oneCell' = true} {w : World} {base b e : Nat} (hb : base ≤ b) (h : w.heap[b]? = some (.cells #[] e (0, 0))) : Kd.R (Kd.scalar enc h1) e w base (fun _ => True) (.slice (some ⟨b, 0, none⟩) 0 0) [] :=
  Kd.R_of_own ⟨rfl, .inr ⟨b, 0, _, rfl, hb, h, Nat.le_refl _, by unfold maxLen; simp, rfl, rfl⟩⟩ (fun _ _ => trivial)
theorem shape_len (n k : Int) : (shapeV n k).length ≤ 200 := by
  cases ho : okGrid n k with
  | false => rw [shape0 ho]; simp
  | true =>
    rw [shape1 ho]
    obtain ⟨_, _, bD, bU⟩ := ends_bd (grid_kept ho).1.box
    unfold shapeS
    rw [rowsV_len]
    omega
def impl_ShapeRows.f (n k : Int) : Option (List ByteArray × Bool) := some (shapeV n k, okGrid n k)
set_option maxHeartbeats 4000000 in
set_option maxRecDepth 100000 in
theorem impl_ShapeRows.walk (n k : Int) (w : World) : Calls Try.prog 41 #[.int .i64 n, .int .i64 k] w fun e w' => ∃ v0_ : Value, e = .returned (.tuple #[v0_, .bool (okGrid n k)]) ∧ Kd.R Kd.string 9 w' w.heap.size (fun _ => True) v0_ (shapeV n k) ∧ Below w.heap.size w w' := by
  have HG := Aside0.mk (fun W => grown_calls n k W)
  have hu76 := Try.underlying76
  cases ho : okGrid n k with
  | false =>
    rw [shape0 ho]
    rw [ho] at HG
    clear ho
    go_enter Try.func41, Try.ntmps41
    go_wp2_with (first | (go_at_call 67; (with_reducible refine (HG.out _).mono ?_); rintro e w1 (⟨_, rfl, hB⟩ | ⟨h, _⟩); rotate_left; (exact absurd h (by decide)); have HB := Aside0.mk hB; clear hB))
    go_ret2
    exact ⟨_, rfl, Kd.R_nil _ _ _ _ _, HB.out⟩
  | true =>
    by_cases h0 : n = 0
    · rw [shape_zero ho h0]
      rw [ho] at HG
      clear ho
      subst h0
      generalize gridS 0 k = S at *
      go_enter Try.func41, Try.ntmps41
      go_wp2_with (first | (go_at_call 67; (with_reducible refine (HG.out _).mono ?_); rintro e w1 (⟨h, _⟩ | ⟨_, g, gm, N, vc, rfl, hB, hG⟩); (exact absurd h (by decide)); have HB := Aside0.mk hB; clear hB))
      go_ret2
      exact ⟨_, rfl, R_empty HB.out.size (blk_new w1 _), HB.out.alloc HB.out.size _⟩
    · have hc0 := grid_first ho h0
      have hbox := Aside0.mk (grid_kept ho).1.box
      obtain ⟨l1, l2, l3⟩ := ok_len ho h0
      rw [shape1 ho]
      rw [ho] at HG
      clear ho l3
      generalize gridS n k = S at *
      obtain ⟨bL, bR, bD, bU⟩ := ends_bd hbox.out
      obtain ⟨rows, hrows⟩ : ∃ rows, shapeS S = rows := ⟨_, rfl⟩
      rw [hrows]
      have hLe : loF Prod.fst 0 S.cells = eL S := (loF_start hc0 (a := 60) (by decide)).symm
      have hRe : hiF Prod.fst 0 S.cells = eR S := (hiF_start hc0 (a := -60) (by decide)).symm
      have hDe : loF Prod.snd 0 S.cells = eD S := (loF_start hc0 (a := 60) (by decide)).symm
      have hUe : hiF Prod.snd 0 S.cells = eU S := (hiF_start hc0 (a := -60) (by decide)).symm
      have HQ : Aside0 (∀ b cap W, CellsAt W b S.cells → Calls Try.prog 86 #[.slice (some ⟨b, 0, none⟩) S.cells.length cap, .func (.func 87) #[] #[]] W fun e w' => e = .returned (.tuple #[.int .i64 (eL S), .int .i64 (eR S)]) ∧ Below W.heap.size W w') :=
        ⟨fun b cap W h => by rw [← hLe, ← hRe]; exact bounds_87 b cap S.cells (0, 0) hc0 (by omega) W h⟩
      have HQ2 : Aside0 (∀ b cap W, CellsAt W b S.cells → Calls Try.prog 86 #[.slice (some ⟨b, 0, none⟩) S.cells.length cap, .func (.func 88) #[] #[]] W fun e w' => e = .returned (.tuple #[.int .i64 (eD S), .int .i64 (eU S)]) ∧ Below W.heap.size W w') :=
        ⟨fun b cap W h => by rw [← hDe, ← hUe]; exact bounds_88 b cap S.cells (0, 0) hc0 (by omega) W h⟩
      clear hLe hRe hDe hUe
      unfold shapeS at hrows
      generalize eL S = L at *
      generalize eR S = R at *
      generalize eD S = D at *
      generalize eU S = U at *
      replace hrows := Aside0.mk hrows
      replace hc0 := Aside0.mk hc0
      go_enter Try.func41, Try.ntmps41
      go_wp2_with (first | (go_at_call 67; (with_reducible refine (HG.out _).mono ?_); rintro e w1 (⟨h, _⟩ | ⟨_, g, gm, N, vc, rfl, hB, hG⟩); (exact absurd h (by decide)); have HB := Aside0.mk hB; clear hB; obtain ⟨b, cap, rfl, hE⟩ := hG.out.cellsAt l1; have HE := Aside0.mk hE; clear hE; have c1 := blk_cell hG.out.blk 1; simp at c1; have HA := Aside0.mk ((Below.refl w1.heap.size w1).alloc (Nat.le_refl _) (.cells #[] 9)); have c1' := (HA.out.cell (blk_lt hG.out.blk)).trans c1) | (go_at_call 86; (with_reducible refine (HQ.out b cap _ (HE.out.below HA.out)).mono ?_); rintro e w2 ⟨rfl, hB2⟩; have HA2 := Aside0.mk (HA.out.trans (hB2.mono HA.out.size)); have c1'' := (HA2.out.cell (blk_lt hG.out.blk)).trans c1; have HO0 := Aside0.mk (Kd.R_below (R_empty (enc := Value.string) (h1 := fun _ => rfl) (Nat.le_refl w1.heap.size) (blk_new w1 (.cells #[] 9))) hB2); clear hB2) | (go_at_call 86; (with_reducible refine (HQ2.out b cap _ (HE.out.below HA2.out)).mono ?_); rintro e w3 ⟨rfl, hB3⟩; have HBB := Aside0.mk (HA2.out.trans (hB3.mono HA2.out.size)); have HO := Aside0.mk (Kd.R_below HO0.out hB3); clear hB3))
      clear c1 c1' c1'' HO0 HA HA2 HE HQ HQ2
      go_loopg [8, 13] (U - D + 1).toNat (fun m v8 v13 wr => ∃ (vo : Value) (outL : List ByteArray) (y : Int), v8 = vo ∧ v13 = .int .i64 y ∧ Aside0 (m = (y - D + 1).toNat ∧ y ≤ 60) ∧ Aside0 (outL ++ rowsV S.f L (R - L + 1).toNat m y = rows) ∧ Aside0 (outL.length + m ≤ 121) ∧ Aside0 (Kd.R Kd.string 9 wr w1.heap.size (fun _ => True) vo outL) ∧ Aside0 (Below w1.heap.size w1 wr))
      case atStart => exact ⟨_, [], U, rfl, rfl, ⟨rfl, bU.2⟩, hrows, ⟨by simp; omega⟩, HO, HBB⟩
      case round =>
        clear hrows HBB HO
        obtain ⟨vo, outL, y, hvo, rfl, HI, HV, HL, HO, HBB⟩ := hrel
        replace hvo := hvo.symm
        subst hvo
        cases gk with
        | zero =>
          have hj : ¬ (D ≤ y) := by have := HI.out; omega
          have hv : Aside0 (outL = rows) := ⟨by have := HV.out; simpa [rowsV] using this⟩
          clear HV HI
          go_wp2_with (fail)
          go_ret2
          exact ⟨_, rfl, by rw [← hv.out]; exact Kd.R_lower HO.out HB.out.size, HB.out.trans (HBB.out.mono HB.out.size)⟩
        | succ m =>
          have hj : D ≤ y := by have := HI.out; omega
          have HV0 : Aside0 (outL ++ strOfNums (rowN S.f y (R - L + 1).toNat L) :: rowsV S.f L (R - L + 1).toNat m (y - 1) = rows) := ⟨HV.out⟩
          obtain ⟨tot, htot⟩ : ∃ tot, tot = rowN S.f y (R - L + 1).toNat L := ⟨_, rfl⟩
          rw [← htot] at HV0
          have htl : tot.length ≤ 121 := by rw [htot, rowN_len]; omega
          replace htot := Aside0.mk htot
          have HO1 := Aside0.mk (Kd.R_alloc HO.out (.cells #[] 5))
          have HBB1 := Aside0.mk (HBB.out.alloc HBB.out.size (.cells #[] 5))
          have HR1 := Aside0.mk (R_empty (enc := Value.int .u8) (h1 := fun _ => rfl) HBB.out.size (blk_new wr (.cells #[] 5)))
          clear HV HO
          go_wp2_with (fail)
          obtain ⟨Wo, hWo⟩ : ∃ W, W = wr := ⟨wr, rfl⟩
          subst hWo
          go_loopg [14, 15] (R - L + 1).toNat (fun q v14 v15 wq => ∃ (vr : Value) (pre : List Int) (x : Int), v14 = vr ∧ v15 = .int .i64 x ∧ Aside0 (q = (R - x + 1).toNat ∧ L ≤ x) ∧ Aside0 (pre ++ rowN S.f y q x = tot) ∧ Aside0 (Kd.R (Kd.int .u8) 5 wq w1.heap.size (fun _ => True) vr pre) ∧ Aside0 (Kd.R Kd.string 9 wq w1.heap.size (fun _ => True) vo outL) ∧ Aside0 (Below w1.heap.size w1 wq))
          case atStart => exact ⟨_, [], L, rfl, rfl, ⟨rfl, Int.le_refl _⟩, ⟨by rw [List.nil_append]; exact htot.out.symm⟩, HR1, HO1, HBB1⟩
          case round =>
            clear HO1 HBB HBB1 HR1 htot
            obtain ⟨vr, pre, x, hvr, rfl, HJ, HP, HR, HO, HBB⟩ := hrel
            replace hvr := hvr.symm
            subst hvr
            have hbs := HBB.out.size
            cases gk with
            | zero =>
              have hk : ¬ (x ≤ R) := by have := HJ.out; omega
              have hpre : pre = tot := by have := HP.out; simpa [rowN] using this
              rw [hpre] at HR
              have hcv := own_string (P := Try.prog) Try.underlying36 Try.underlying5 Try.underlying9 (Kd.own_of_R HR.out)
              have hwy := wrap_id (x := y - 1) (by omega) (by have := HI.out; omega)
              have hlim := HL.out
              obtain ⟨sx, hsx⟩ : ∃ sx, sx = strOfNums tot := ⟨_, rfl⟩
              rw [← hsx] at hcv HV0
              clear HP hpre HJ hsx
              go_wp2_with (first | ((with_reducible refine gate_builtin (b := .append) (xs := #[.tmp 76, .tmp 79]) rfl ?_); at_builtin; refine Kd.R_append Kd.string (w0 := w1) w1.heap.size rfl (.tmp 76) (.tmp 79) 43 9 (.string ⟨#[]⟩) 16 rfl Try.underlying43 infoS rfl (by decide) (by omega) vo outL sx [.string sx] (fun _ => True) (fun _ => False) rfl rfl rfl (fun _ hk => hk.elim) (fun _ _ => trivial) HO.out HBB.out hbs (by omega) ?_; intro v99 w9 ho hb hg hat; have HO9 := Aside0.mk ho; have HB9 := Aside0.mk hb; clear ho hb hg hat))
              (try simp only [hwy])
              go_roundg m
              case measure => omega
              case rel => exact ⟨v99, outL ++ [sx], y - 1, rfl, rfl, ⟨by have := HI.out; omega⟩, ⟨by rw [List.append_assoc]; exact HV0.out⟩, ⟨by rw [List.length_append, List.length_singleton]; omega⟩, HO9, HB9⟩
            | succ q =>
              have hk : x ≤ R := by have := HJ.out; omega
              have hjb := HJ.out
              have bx : -60 ≤ x ∧ x ≤ 60 := ⟨by omega, by omega⟩
              have byy : -60 ≤ y ∧ y ≤ 60 := ⟨by omega, by have := HI.out; omega⟩
              have hgg := hG.out.below HBB.out
              obtain ⟨c, hlook, hat0⟩ := hgg.look (wf60 bx) (wf60 byy)
              have g0 := blk_cell hgg.blk 0
              simp at g0
              have hw := wrap_id (x := x + 1) (by omega) (by omega)
              have hP1 : (pre ++ [sgn S.f x y]) ++ rowN S.f y q (x + 1) = tot := by have := HP.out; rw [List.append_assoc]; exact this
              have hlim : pre.length ≤ 121 := by
                have h1 := congrArg List.length hP1
                rw [List.length_append, List.length_append] at h1
                omega
              clear bx byy HP hgg hjb hat0
              cases hF : S.f x y with
              | some r =>
                have hs : sgn S.f x y = 35 := by unfold sgn; rw [hF]; rfl
                rw [hs] at hP1
                rw [hF] at hlook
                simp at hlook
                replace hP1 := Aside0.mk hP1
                clear hs
                go_wp2_with (first | ((with_reducible refine gate_builtin (b := .append) (xs := #[.tmp 72, .tmp 74]) rfl ?_); at_builtin; refine Kd.R_append (Kd.int .u8) (w0 := w1) w1.heap.size rfl (.tmp 72) (.tmp 74) 36 5 (.int .u8 0) 1 rfl Try.underlying36 info5 rfl (by decide) (by omega) vr pre 35 [.int .u8 35] (fun _ => True) (fun _ => False) rfl rfl rfl (fun _ hk => hk.elim) (fun _ _ => trivial) HR.out HBB.out hbs (by omega) ?_; intro v99 w9 ho hb hg hat; have HO9 := Aside0.mk (R_beside HR.out HO.out hg); have HR9 := Aside0.mk ho; have HB9 := Aside0.mk hb; clear ho hb hg hat))
                (try simp only [hw])
                go_roundg q
                case measure => omega
                case rel => exact ⟨v99, pre ++ [35], x + 1, rfl, rfl, ⟨by have := HJ.out; omega⟩, hP1, HR9, HO9, HB9⟩
              | none =>
                have hs : sgn S.f x y = 46 := by unfold sgn; rw [hF]; rfl
                rw [hs] at hP1
                rw [hF] at hlook
                simp at hlook
                replace hP1 := Aside0.mk hP1
                clear hs
                go_wp2_with (first | ((with_reducible refine gate_builtin (b := .append) (xs := #[.tmp 72, .tmp 74]) rfl ?_); at_builtin; refine Kd.R_append (Kd.int .u8) (w0 := w1) w1.heap.size rfl (.tmp 72) (.tmp 74) 36 5 (.int .u8 0) 1 rfl Try.underlying36 info5 rfl (by decide) (by omega) vr pre 46 [.int .u8 46] (fun _ => True) (fun _ => False) rfl rfl rfl (fun _ hk => hk.elim) (fun _ _ => trivial) HR.out HBB.out hbs (by omega) ?_; intro v99 w9 ho hb hg hat; have HO9 := Aside0.mk (R_beside HR.out HO.out hg); have HR9 := Aside0.mk ho; have HB9 := Aside0.mk hb; clear ho hb hg hat))
                (try simp only [hw])
                go_roundg q
                case measure => omega
                case rel => exact ⟨v99, pre ++ [46], x + 1, rfl, rfl, ⟨by have := HJ.out; omega⟩, hP1, HR9, HO9, HB9⟩
theorem impl_ShapeRows.calls (n k : Int) (r1 : List ByteArray) (r2 : Bool) (w : World) (h : impl_ShapeRows.f n k = some (r1, r2)) :
    Calls Try.prog 41 #[.int .i64 n, .int .i64 k] w fun e w' => ∃ v0_ : Value, e = .returned (.tuple #[v0_, .bool r2]) ∧ Kd.R Kd.string 9 w' w.heap.size (fun _ => True) v0_ r1 ∧ Below w.heap.size w w' := by
  have e := Option.some.inj h
  injection e with e1 e2
  subst e1 e2
  exact impl_ShapeRows.walk n k w
theorem spec_ShapeRows.calls (n k : Int) (r1 : List ByteArray) (r2 : Bool) (w : World) (h : spec_ShapeRows.f n k = some (r1, r2)) :
    Calls Try.prog 42 #[.int .i64 n, .int .i64 k] w fun e w' => ∃ v0_ : Value, e = .returned (.tuple #[v0_, .bool r2]) ∧ Kd.R Kd.string 9 w' w.heap.size (fun _ => True) v0_ r1 ∧ Below w.heap.size w w' := by
  have e := Option.some.inj h
  injection e with e1 e2
  subst e1 e2
  exact spec_ShapeRows.walk n k w
end Go.Proofs.Ytjedhjeijpbobaa.G8
