/-
  Texts of the seat, merged (part 3).
-/
import Derived.Test.YtnbnalbomflafaaX13WMore
import Derived.Deep.AppendLies
import Derived.Laws.CopyOwn
import Derived.Deep.RegionLaw
import Derived.Test.YtnbnalbomflafaaProg
import Derived.Below
import Derived.Deep.Draws
import Derived.Maps.AppendAt
import Derived.OwnWalk
import Derived.Laws.BytesArg
import Derived.Laws.MakeOwn
import Derived.Laws.OwnMore
import Derived.Deep.OwnRows
import Derived.Tactics
import Derived.Lib.ConvBytes
import Derived.Laws.Slices
import Derived.WalkKit
import Derived.KernelRfl
import Derived.RowKit3
import Derived.Deep.LoopGhost
import Derived.Deep.QuietTactic
import Derived.BigQuiet
import Derived.WideLaws
import Derived.Deep.DeepCutAuto
import Derived.Deep.CutBlock
import Derived.Deep.RegionHeld3
import Derived.Laws.Rows
import Derived.Lib.AppendStr
import Derived.ArgAppend
import Derived.Laws.IdiomCopy
import Derived.OrdersHeld
import Derived.Laws.BitsLemmas
import Derived.RowKit
import Derived.Test.YtnbnalbomflafaaX13WWords
import Derived.Test.YtnbnalbomflafaaX13WLast
import Derived.Test.YtnbnalbomflafaaX13WTab
import Derived.Test.YtnbnalbomflafaaX13WFour
import Derived.Test.YtnbnalbomflafaaX13WQPut
import Derived.Test.YtnbnalbomflafaaX13WApart
import Derived.Test.YtnbnalbomflafaaX13WArr
import Derived.Test.YtnbnalbomflafaaX13WZeros
import Derived.Test.YtnbnalbomflafaaX13WFoot
import Derived.Test.YtnbnalbomflafaaX13WKept
import Derived.Test.YtnbnalbomflafaaX13WShare
import Derived.Test.YtnbnalbomflafaaX13WN
import Derived.Test.YtnbnalbomflafaaX13WFootNe
import Derived.Test.YtnbnalbomflafaaX13WAt
import Derived.Test.YtnbnalbomflafaaX13WEqStruct
import Derived.Test.YtnbnalbomflafaaX13WRepsOne
import Derived.Test.YtnbnalbomflafaaX13WInv
import Derived.Test.YtnbnalbomflafaaX13WInvWords
import Derived.Test.YtnbnalbomflafaaX13WGuard
import Derived.Test.YtnbnalbomflafaaX13WNEv
import Derived.Test.YtnbnalbomflafaaX132
set_option linter.unusedVariables false
set_option linter.unusedSimpArgs false
namespace Go.Proofs.Ytnbnalbomflafaa.GR
open Go.RowKit YtnbnalbomflafaaW.PrintWords YtnbnalbomflafaaW.PrintLast YtnbnalbomflafaaW.PrintMore
open GA GB GD KA
attribute [local go_sem] max2_int min2_int max_two min_two max_three min_three max_four min_four
mutual
def spec_trDet.l0 : Nat → List (List Int) → Int → Int → List Int → Int → Int → Option (Int)
 | 0, _, _, _, _, _, _ => none
 | k + 1, x0, x3, x4, x15, x16, x17 => if x17 < x16 then (if 0 ≤ x17 then (if x17 < (x15.length : Int) then (if (rd x15 x17) = 0 then (spec_trDet.l0 k x0 x3 (wrap64 (-x4)) x15 x16 (wrap64 (x17 + 1))) else (if 1 ≤ (x0.length : Int) then ((some (x0.drop 1 : List (List Int))).bind fun y615 => (spec_trDet.l1 k x0 x3 x4 x17 (rd x15 x17) ([] : List (List Int)) x15 x16 x17 y615 (y615.length : Int) 0)) else (none))) else (none)) else (none)) else (some x3)
def spec_trDet.l1 : Nat → List (List Int) → Int → Int → Int → Int → List (List Int) → List Int → Int → Int → List (List Int) → Int → Int → Option (Int)
 | 0, _, _, _, _, _, _, _, _, _, _, _, _ => none
 | k + 1, x0, x3, x4, x5, x6, x7, x15, x16, x17, x25, x26, x27 => if x27 < x26 then (if 0 ≤ x27 then (if x27 < (x25.length : Int) then (if 0 ≤ x5 then (if x5 ≤ ((rd_L1 x25 x27).length : Int) then ((spec_l1Own.f ((rd_L1 x25 x27).take (x5 : Int).toNat)).bind fun t621 => (if 0 ≤ (wrap64 (x5 + 1)) then (if (wrap64 (x5 + 1)) ≤ ((rd_L1 x25 x27).length : Int) then (if t621.length + ((rd_L1 x25 x27).drop ((wrap64 (x5 + 1)) : Int).toNat).length < 17592186044416 then (if x7.length < 5864062014805 then (spec_trDet.l1 k x0 x3 x4 x5 x6 (x7 ++ [(t621 ++ ((rd_L1 x25 x27).drop ((wrap64 (x5 + 1)) : Int).toNat))]) x15 x16 x17 x25 x26 (wrap64 (x27 + 1))) else (none)) else (none)) else (none)) else (none))) else (none)) else (none)) else (none)) else (none)) else ((spec_trDet.f k x7).bind fun t631 => (spec_trDet.l0 k x0 (wrap64 (x3 + (wrap64 ((wrap64 (x4 * x6)) * t631)))) (wrap64 (-x4)) x15 x16 (wrap64 (x17 + 1))))
def spec_trDet.f : Nat → List (List Int) → Option (Int)
 | 0, _ => none
 | k + 1, l0 => if (l0.length : Int) = 0 then (some 1) else (if 0 < (l0.length : Int) then (spec_trDet.l0 k l0 0 1 (rd_L1 l0 0) ((rd_L1 l0 0).length : Int) 0) else (none))
end
def spec_trDet.T12 : Bool × List (List Nat × List Nat) := (true, [([], []), ([], []), ([], []), ([1, 2], [1, 2]), ([3], [3]), ([], []), ([], []), ([6], [6]), ([5, 7], [5, 7]), ([4, 8, 4], [4, 8]), ([9], [9]), ([0, 10, 9], [0, 10]), ([11, 11, 0, 1, 2, 3, 4, 5, 6, 7, 8, 9, 10, 11], [0, 11])])
def spec_trDet.B12 : List Nat := [0, 0, 0, 6, 14, 0, 0, 64, 224, 510, 1022, 2047, 4095]
theorem spec_trDet.tab12 : rtab .any (opsOf Try.f116 12) = spec_trDet.T12 := by kernel_rfl
theorem spec_trDet.bits12 : waitsOk spec_trDet.T12.2 spec_trDet.B12 = true := by kernel_rfl
set_option maxHeartbeats 8000000 in
set_option maxRecDepth 100000 in
theorem spec_trDet.calls (k : Nat) : ∀ (A0 : Option Addr) (c0 : Nat) (l0 : List (List Int)) (r : Int) (w : World) (hr0 : Kd.C (Kd.slice 3 (Kd.int .i64)) w A0 l0.length l0) (hc0 : l0.length ≤ c0) (h : spec_trDet.f k l0 = some r),
  Calls Try.prog 116 #[.slice A0 l0.length c0] w fun e w' => e = .returned (.int .i64 r) ∧ Below w.heap.size w w' := by
 induction k using Nat.strongRecOn with
 | _ k ih =>
 intro A0 c0 l0 r w hr0 hc0 h
 cases k with
 | zero => exact absurd h (by simp [spec_trDet.f])
 | succ k =>
 simp only [spec_trDet.f] at h
 have HR0 := Aside0.mk hr0
 have HC0 := Aside0.mk hc0
 clear hr0 hc0
 have HB := Aside0.mk (Below.refl w.heap.size w)
 have H : (if (l0.length : Int) = 0 then (some 1) else (if 0 < (l0.length : Int) then (spec_trDet.l0 k l0 0 1 (rd_L1 l0 0) ((rd_L1 l0 0).length : Int) 0) else (none))) = some r := h
 clear h
 by_cases c2 : (l0.length : Int) = 0
 ·rw [if_pos c2] at H
  have c2b0 : ((l0.length : Int) == 0) = true := beq_iff_eq.mpr c2
  have c2b1 : ((l0.length : Int) != 0) = false := bne_eq_false_iff_eq.mpr c2
  clear c2
  obtain rfl := Option.some.inj H
  go_enter Try.func116, Try.ntmps116
  go_wp2
  go_ret
  exact ⟨by first | rfl | (simp [errW_none, errW_some] <;> rfl) | (simp [*, errW_none, errW_some] <;> rfl), by repeat (first | (with_reducible first | exact HB.out | apply bA_ | apply bN_ | apply bD_) | exact HB.out)⟩
 ·rw [if_neg c2] at H
  have c2b0 : ((l0.length : Int) == 0) = false := beq_eq_false_iff_ne.mpr c2
  have c2b1 : ((l0.length : Int) != 0) = true := bne_iff_ne.mpr c2
  have c2b2 : ¬ (l0 = []) := fun h_ => c2 (by rw [h_]; rfl)
  by_cases c3 : 0 < (l0.length : Int)
  ·rw [if_pos c3] at H
   have c3b0 : decide (0 < (l0.length : Int)) = true := decide_eq_true c3
   have c3b1 : decide (0 < l0.length) = true := decide_eq_true (by omega)
   clear c3
   have H' := Aside0.mk H
   clear H
   have p613 : 0 ≤ (0 : Int) := (by omega)
   have q613 : 0 < (l0.length : Int) := of_decide_eq_true (by first | (with_reducible assumption) | assumption)
   obtain ⟨ad613, A613_0, c613_0, e613, hx613_0, hl613_0, hi613_0⟩ := at_L1 HR0.out 0 p613 q613
   cases e613
   have qi613 : (0 < l0.length) = True := eq_true (by omega)
   (try rw [show ((0 : Int)).toNat = 0 from rfl] at hx613_0)
   (try rw [Addr.add_zero'] at hx613_0)
   have HR613_0 := Aside0.mk hi613_0
   have HC613_0 := Aside0.mk hl613_0
   clear hi613_0 hl613_0
   replace p613 := eq_true p613
   replace q613 := eq_true q613
   go_enter Try.func116, Try.ntmps116
   go_wp2
   go_loopg [3, 4, 17] k (fun kq v3 v4 v17 w' => ∃ (x3_1 : Int) (x4_1 : Int) (x17_1 : Int), v3 = .int .i64 x3_1 ∧ v4 = .int .i64 x4_1 ∧ v17 = .int .i64 x17_1 ∧ Aside0 (spec_trDet.l0 kq l0 x3_1 x4_1 (rd_L1 l0 0) ((rd_L1 l0 0).length : Int) x17_1 = some r) ∧ Aside0 (kq ≤ k) ∧ Aside0 (Below w.heap.size w w'))
   case atStart => exact ⟨(0), (1), (0), (by first | rfl | (simp; done) | (simp [*]; done)), (by first | rfl | (simp; done) | (simp [*]; done)), (by first | rfl | (simp; done) | (simp [*]; done)), H', ⟨Nat.le_refl _⟩, ⟨by repeat (first | (with_reducible first | exact HB.out | apply bA_ | apply bN_ | apply bD_) | exact HB.out)⟩⟩
   case round =>
    clear H'
    try clear c1
    try clear c2
    try clear c2b0
    try clear c2b1
    try clear c2b2
    try clear p2
    try clear c3
    try clear c3b0
    try clear c3b1
    try clear hx613_0
    try clear p613
    try clear q613
    obtain ⟨x3_1, x4_1, x17_1, rfl, rfl, rfl, HA, HK1, HB⟩ := hrel
    cases gk with
    | zero => exact absurd HA.out (by simp [spec_trDet.l0])
    | succ k1 =>
     have H := HA.out
     clear HA
     simp only [spec_trDet.l0] at H
     by_cases c4 : x17_1 < ((rd_L1 l0 0).length : Int)
     ·rw [if_pos c4] at H
      have c4b0 : decide (x17_1 < ((rd_L1 l0 0).length : Int)) = true := decide_eq_true c4
      clear c4
      by_cases c5 : 0 ≤ x17_1
      ·rw [if_pos c5] at H
       have c5b0 : decide (0 ≤ x17_1) = true := decide_eq_true c5
       clear c5
       by_cases c6 : x17_1 < ((rd_L1 l0 0).length : Int)
       ·rw [if_pos c6] at H
        have c6b0 : decide (x17_1 < ((rd_L1 l0 0).length : Int)) = true := decide_eq_true c6
        clear c6
        by_cases c7 : (rd (rd_L1 l0 0) x17_1) = 0
        ·rw [if_pos c7] at H
         have c7b0 : ((rd (rd_L1 l0 0) x17_1) == 0) = true := beq_iff_eq.mpr c7
         have c7b1 : ((rd (rd_L1 l0 0) x17_1) != 0) = false := bne_eq_false_iff_eq.mpr c7
         clear c7
         have H' := Aside0.mk H
         clear H
         have p614 : 0 ≤ (x17_1 : Int) := of_decide_eq_true (by first | (with_reducible assumption) | assumption)
         have q614 : x17_1 < ((rd_L1 l0 0).length : Int) := of_decide_eq_true (by first | (with_reducible assumption) | assumption)
         obtain ⟨ad614, e614, hx614_0⟩ := Kd.at_int HR613_0.out x17_1 p614 q614
         cases e614
         replace hx614_0 := (HB.out.cell (World.block_lt_of_cell? w _ hx614_0)).trans hx614_0
         replace p614 := eq_true p614
         replace q614 := eq_true q614
         go_wp2
         go_roundg k1
         case measure => have := HK1.out; omega
         case rel => exact ⟨(x3_1), (wrap64 (-x4_1)), (wrap64 (x17_1 + 1)), (by first | rfl | (simp; done) | (simp [*]; done)), (by first | rfl | (simp; done) | (simp [*]; done)), (by first | rfl | (simp; done) | (simp [*]; done)), H', ⟨by have := HK1.out; omega⟩, ⟨by repeat (first | (with_reducible first | exact HB.out | apply bA_ | apply bN_ | apply bD_) | exact HB.out)⟩⟩
        ·rw [if_neg c7] at H
         have c7b0 : ((rd (rd_L1 l0 0) x17_1) == 0) = false := beq_eq_false_iff_ne.mpr c7
         have c7b1 : ((rd (rd_L1 l0 0) x17_1) != 0) = true := bne_iff_ne.mpr c7
         by_cases c8 : 1 ≤ (l0.length : Int)
         ·rw [if_pos c8] at H
          have c8b0 := eq_true c8
          have c8b1 : decide (1 ≤ (l0.length : Int)) = true := decide_eq_true c8
          clear c8
          obtain ⟨y615, hy615⟩ : ∃ y_ : List (List Int), y_ = (l0.drop 1) := ⟨_, rfl⟩
          replace H : (spec_trDet.l1 k1 l0 x3_1 x4_1 x17_1 (rd (rd_L1 l0 0) x17_1) ([] : List (List Int)) (rd_L1 l0 0) ((rd_L1 l0 0).length : Int) x17_1 y615 (y615.length : Int) 0) = some r := by first | (rw [hy615]; with_reducible exact H) | (have H2_ := (Option.bind_some _ _).symm.trans H; rw [hy615]; with_reducible exact H2_) | (have H2_ := (Option.bind_some _ _).symm.trans H; with_reducible exact H2_) | with_reducible exact H | (rw [hy615]; exact H) | exact H
          have Ny615 := Aside0.mk hy615
          clear hy615
          have H' := Aside0.mk H
          clear H
          have p614 : 0 ≤ (x17_1 : Int) := of_decide_eq_true (by first | (with_reducible assumption) | assumption)
          have q614 : x17_1 < ((rd_L1 l0 0).length : Int) := of_decide_eq_true (by first | (with_reducible assumption) | assumption)
          obtain ⟨ad614, e614, hx614_0⟩ := Kd.at_int HR613_0.out x17_1 p614 q614
          cases e614
          replace hx614_0 := (HB.out.cell (World.block_lt_of_cell? w _ hx614_0)).trans hx614_0
          replace p614 := eq_true p614
          replace q614 := eq_true q614
          have q9 : (1 : Int) ≤ ((l0.length : Int) : Int) := of_decide_eq_true (by first | (with_reducible assumption) | assumption)
          obtain ⟨i09, hi09, _, hsz9, _⟩ := info_parts info37
          have hroom9 : l0.length ≤ c0 := HC0.out
          have hC9 : Kd.C (Kd.slice 3 (Kd.int .i64)) _ (some ad613) l0.length l0 := HR0.out
          have hcut9 := cut_from (P := Try.prog) 22 37 .i64 Try.underlying22 hi09 1 hsz9 (some ad613) l0.length c0 1 (by omega) q9
          have hr9 := Kd.C_drop (m := (1 : Int).toNat) (c := c0) hC9 (by omega) hroom9
          obtain ⟨A9, hA9⟩ : ∃ A1, A1 = (if c0 = (1 : Int).toNat then (some ad613) else ((some ad613) : Option Addr).map (·.add ((1 : Int).toNat * 1))) := ⟨_, rfl⟩
          obtain ⟨c9, hc9⟩ : ∃ c1, c1 = c0 - (1 : Int).toNat := ⟨_, rfl⟩
          have hy9 : y615.length = l0.length - (1 : Int).toNat := (by rw [Ny615.out, List.length_drop] <;> omega)
          rw [show (l0).drop (1 : Int).toNat = y615 from Ny615.out.symm] at hr9
          replace hr9 : Kd.C (Kd.slice 3 (Kd.int .i64)) _ A9 y615.length y615 := (by rw [hA9]; exact hr9)
          rw [← hy9, ← hA9, ← hc9] at hcut9
          have HR618 := Aside0.mk hr9
          have HC618 := Aside0.mk (show y615.length ≤ c9 from by rw [hy9, hc9]; exact Nat.sub_le_sub_right hroom9 _)
          clear hr9 hC9 hroom9 hi09 hsz9 hc9
          have KY9 := Aside0.mk hy9
          have KA9 := Aside0.mk hA9
          clear hy9 hA9
          replace q9 := eq_true q9
          go_wp2
          go_loopg [7, 27] k1 (fun kq v7 v27 w' => ∃ (x7_2 : List (List Int)) (x27_2 : Int), v27 = .int .i64 x27_2 ∧ Aside0 (spec_trDet.l1 kq l0 x3_1 x4_1 x17_1 (rd (rd_L1 l0 0) x17_1) x7_2 (rd_L1 l0 0) ((rd_L1 l0 0).length : Int) x17_1 y615 (y615.length : Int) x27_2 = some r) ∧ Aside0 (kq ≤ k1) ∧ Aside0 (Kd.S (Kd.slice 3 (Kd.int .i64)) 37 w' w.heap.size (fun _ => True) v7 x7_2) ∧ Aside0 (Below w.heap.size w w'))
          case atStart => exact ⟨(([] : List (List Int))), (0), (by first | rfl | (simp; done) | (simp [*]; done)), H', ⟨Nat.le_refl _⟩, ⟨by first | exact Kd.S_nil _ _ _ _ _ | exact Kd.N_nil _ _ _ _ _ | exact Kd.V_nil _ _ _ _ _ | exact Kd.Q_nil _ _ _ _ _ | exact Kd.R_nil _ _ _ _ _⟩, ⟨by repeat (first | (with_reducible first | exact HB.out | apply bA_ | apply bN_ | apply bD_) | exact HB.out)⟩⟩
          case round =>
           clear H'
           try clear c1
           try clear c2
           try clear c2b0
           try clear c2b1
           try clear c2b2
           try clear p2
           try clear c3
           try clear c3b0
           try clear c3b1
           try clear c4
           try clear c4b0
           try clear c5
           try clear c5b0
           try clear c6
           try clear c6b0
           try clear p6
           try clear q6
           try clear hx6
           try clear qi6
           try clear c7
           try clear c7b0
           try clear c7b1
           try clear c8
           try clear c8b0
           try clear c8b1
           try clear c9
           try clear q9
           try clear hx613_0
           try clear hx614_0
           try clear p2
           try clear p613
           try clear p614
           try clear q613
           try clear q614
           try clear q9
           obtain ⟨x7_2, x27_2, rfl, HA, HK2, HO_7, HB⟩ := hrel
           cases gk with
           | zero => exact absurd HA.out (by simp [spec_trDet.l1])
           | succ k2 =>
            have H := HA.out
            clear HA
            simp only [spec_trDet.l1] at H
            by_cases c10 : x27_2 < (y615.length : Int)
            ·rw [if_pos c10] at H
             have c10b0 : decide (x27_2 < (y615.length : Int)) = true := decide_eq_true c10
             clear c10
             by_cases c11 : 0 ≤ x27_2
             ·rw [if_pos c11] at H
              have c11b0 : decide (0 ≤ x27_2) = true := decide_eq_true c11
              clear c11
              by_cases c12 : x27_2 < (y615.length : Int)
              ·rw [if_pos c12] at H
               have c12b0 : decide (x27_2 < (y615.length : Int)) = true := decide_eq_true c12
               clear c12
               by_cases c13 : 0 ≤ x17_1
               ·rw [if_pos c13] at H
                have c13b0 := eq_true c13
                have c13b1 : decide (0 ≤ x17_1) = true := decide_eq_true c13
                clear c13
                by_cases c14 : x17_1 ≤ ((rd_L1 y615 x27_2).length : Int)
                ·rw [if_pos c14] at H
                 have c14b0 := eq_true c14
                 have c14b1 : decide (x17_1 ≤ ((rd_L1 y615 x27_2).length : Int)) = true := decide_eq_true c14
                 clear c14
                 replace H := Option.bind_eq_some_iff.mp H
                 obtain ⟨t621, A150, H⟩ := H
                 replace H : (if 0 ≤ (wrap64 (x17_1 + 1)) then (if (wrap64 (x17_1 + 1)) ≤ ((rd_L1 y615 x27_2).length : Int) then (if t621.length + ((rd_L1 y615 x27_2).drop ((wrap64 (x17_1 + 1)) : Int).toNat).length < 17592186044416 then (if x7_2.length < 5864062014805 then (spec_trDet.l1 k2 l0 x3_1 x4_1 x17_1 (rd (rd_L1 l0 0) x17_1) (x7_2 ++ [(t621 ++ ((rd_L1 y615 x27_2).drop ((wrap64 (x17_1 + 1)) : Int).toNat))]) (rd_L1 l0 0) ((rd_L1 l0 0).length : Int) x17_1 y615 (y615.length : Int) (wrap64 (x27_2 + 1))) else (none)) else (none)) else (none)) else (none)) = some r := H
                 have A15 := Aside0.mk A150
                 clear A150
                 obtain ⟨ji16, hji16⟩ : ∃ j_ : Int, (wrap64 (x17_1 + 1)) = j_ := ⟨_, rfl⟩
                 replace H : (if 0 ≤ (ji16) then (if (ji16) ≤ ((rd_L1 y615 x27_2).length : Int) then (if t621.length + ((rd_L1 y615 x27_2).drop ((ji16) : Int).toNat).length < 17592186044416 then (if x7_2.length < 5864062014805 then (spec_trDet.l1 k2 l0 x3_1 x4_1 x17_1 (rd (rd_L1 l0 0) x17_1) (x7_2 ++ [(t621 ++ ((rd_L1 y615 x27_2).drop ((ji16) : Int).toNat))]) (rd_L1 l0 0) ((rd_L1 l0 0).length : Int) x17_1 y615 (y615.length : Int) (wrap64 (x27_2 + 1))) else (none)) else (none)) else (none)) else (none)) = some r := by first | (rw [hji16] at H; exact H) | (simp only [hji16] at H ⊢; exact H)
                 (try rw [hji16] at A15)
                 have hji16w : (IntKind.i64.wrap (x17_1 + 1)) = ji16 := (i64_w _).trans hji16
                 by_cases c17 : 0 ≤ (ji16)
                 ·rw [if_pos c17] at H
                  have c17b0 := eq_true c17
                  have c17b1 : decide (0 ≤ (ji16)) = true := decide_eq_true c17
                  clear c17
                  by_cases c18 : (ji16) ≤ ((rd_L1 y615 x27_2).length : Int)
                  ·rw [if_pos c18] at H
                   have c18b0 := eq_true c18
                   have c18b1 : decide ((ji16) ≤ ((rd_L1 y615 x27_2).length : Int)) = true := decide_eq_true c18
                   clear c18
                   by_cases c19 : t621.length + ((rd_L1 y615 x27_2).drop ((ji16) : Int).toNat).length < 17592186044416
                   ·rw [if_pos c19] at H
                    have LMc19 := Aside0.mk c19
                    clear c19
                    obtain ⟨y625, hy625⟩ : ∃ y_ : List Int, y_ = (t621 ++ ((rd_L1 y615 x27_2).drop ((ji16) : Int).toNat)) := ⟨_, rfl⟩
                    replace H : (if x7_2.length < 5864062014805 then (spec_trDet.l1 k2 l0 x3_1 x4_1 x17_1 (rd (rd_L1 l0 0) x17_1) (x7_2 ++ [y625]) (rd_L1 l0 0) ((rd_L1 l0 0).length : Int) x17_1 y615 (y615.length : Int) (wrap64 (x27_2 + 1))) else (none)) = some r := by first | (rw [hy625]; with_reducible exact H) | (have H2_ := (Option.bind_some _ _).symm.trans H; rw [hy625]; with_reducible exact H2_) | (have H2_ := (Option.bind_some _ _).symm.trans H; with_reducible exact H2_) | with_reducible exact H | (rw [hy625]; exact H) | exact H
                    have Ny625 := Aside0.mk hy625
                    clear hy625
                    by_cases c20 : x7_2.length < 5864062014805
                    ·rw [if_pos c20] at H
                     have LMc20 := Aside0.mk c20
                     clear c20
                     obtain ⟨y628, hy628⟩ : ∃ y_ : List (List Int), y_ = (x7_2 ++ [y625]) := ⟨_, rfl⟩
                     replace H : (spec_trDet.l1 k2 l0 x3_1 x4_1 x17_1 (rd (rd_L1 l0 0) x17_1) y628 (rd_L1 l0 0) ((rd_L1 l0 0).length : Int) x17_1 y615 (y615.length : Int) (wrap64 (x27_2 + 1))) = some r := by first | (rw [hy628]; with_reducible exact H) | (have H2_ := (Option.bind_some _ _).symm.trans H; rw [hy628]; with_reducible exact H2_) | (have H2_ := (Option.bind_some _ _).symm.trans H; with_reducible exact H2_) | with_reducible exact H | (rw [hy628]; exact H) | exact H
                     have Ny628 := Aside0.mk hy628
                     clear hy628
                     have H' := Aside0.mk H
                     clear H
                     have p619 : 0 ≤ (x27_2 : Int) := of_decide_eq_true (by first | (with_reducible assumption) | assumption)
                     have q619 : x27_2 < (y615.length : Int) := of_decide_eq_true (by first | (with_reducible assumption) | assumption)
                     obtain ⟨ad619, A619_0, c619_0, e619, hx619_0, hl619_0, hi619_0⟩ := at_L1 HR618.out x27_2 p619 q619
                     cases e619
                     replace hx619_0 := (HB.out.cell (World.block_lt_of_cell? w _ hx619_0)).trans hx619_0
                     have HR619_0 := Aside0.mk hi619_0
                     have HC619_0 := Aside0.mk hl619_0
                     clear hi619_0 hl619_0
                     replace p619 := eq_true p619
                     replace q619 := eq_true q619
                     try go_wp2
                     have n0_ := Aside0.mk (Kd.S_drew HO_7.out)
                     have n1_ := Aside0.mk (bD_ HB.out)
                     clear HO_7
                     clear HB
                     have HO_7 := n0_
                     have HB := n1_
                     clear n0_ n1_
                     obtain ⟨i022, hi022, _, hsz22, _⟩ := info_parts info3
                     obtain ⟨hcut22, hA22, hC22⟩ := print_take_of (P := Try.prog) (Value.int .i64) 0 37 3 .i64 Try.underlying37 hi022 hsz22 A619_0 c619_0 (rd_L1 y615 x27_2) x17_1 (of_decide_eq_true (by first | (with_reducible assumption) | assumption)) (of_decide_eq_true (by first | (with_reducible assumption) | assumption)) HC619_0.out
                     have HR620 := Aside0.mk (Kd.C_of_reads (h1 := fun _ => rfl) (hA22 _ (Kd.reads_of_C HR619_0.out)))
                     have HC620 := Aside0.mk hC22
                     clear hA22 hC22 hi022 hsz22
                     obtain ⟨i023, hi023, _, hsz23, _⟩ := info_parts info3
                     obtain ⟨A23, hcut23, hA23, hC23⟩ := print_drop_of (P := Try.prog) (Value.int .i64) 0 37 3 .i64 Try.underlying37 hi023 hsz23 A619_0 c619_0 (rd_L1 y615 x27_2) (ji16) (of_decide_eq_true (by first | (with_reducible assumption) | assumption)) (of_decide_eq_true (by first | (with_reducible assumption) | assumption)) HC619_0.out
                     have HR624 := Aside0.mk (Kd.C_of_reads (h1 := fun _ => rfl) (hA23 _ (Kd.reads_of_C HR619_0.out)))
                     have HC624 := Aside0.mk hC23
                     clear hA23 hC23 hi023 hsz23
                     refine start_ (n := 13) (S := fun w' => True) (ds := []) #[false, false, false, false, false, false, false, false, false, false, false, false, false] (by kernel_rfl) rfl rfl trivial (fun hHeld => ?_); refine with_tabW spec_trDet.tab12 spec_trDet.bits12 (fun HT_ HW_ => ?_)
                     generalize wr.drew = w21 at HO_7 HB HR620 HR624 hHeld ⊢
                     refine pu_ (i := 0) (N := some 31) (v := ?_) (a' := ?_) HT_.out rfl rfl (Or.inl ⟨by rfl, ?_⟩) ?_ ?_
                     rotate_left
                     ·intro w'
                      go_simp
                      with_reducible rfl
                     rotate_left
                     ·simp only [sp_]
                      rfl
                     refine pu_ (i := 1) (N := some 32) (v := ?_) (a' := ?_) HT_.out rfl rfl (Or.inl ⟨by rfl, ?_⟩) ?_ ?_
                     rotate_left
                     ·intro w'
                      go_simp
                      with_reducible rfl
                     rotate_left
                     ·simp only [sp_]
                      rfl
                     refine pu_ (i := 2) (N := some 33) (v := ?_) (a' := ?_) HT_.out rfl rfl (Or.inl ⟨by rfl, ?_⟩) ?_ ?_
                     rotate_left
                     ·intro w'
                      go_simp
                      with_reducible rfl
                     rotate_left
                     ·simp only [sp_]
                      rfl
                     refine pu_ (i := 3) (N := some 34) (v := ?_) (a' := ?_) HT_.out rfl rfl (Or.inl ⟨by rfl, ?_⟩) ?_ ?_
                     rotate_left
                     ·intro w'
                      go_simp
                      with_reducible rfl
                     rotate_left
                     ·simp only [sp_]
                      rfl
                     refine pu_ (i := 5) (N := some 36) (v := ?_) (a' := ?_) HT_.out rfl rfl (Or.inl ⟨by rfl, ?_⟩) ?_ ?_
                     rotate_left
                     ·intro w'
                      go_simp
                      with_reducible rfl
                     rotate_left
                     ·simp only [sp_]
                      rfl
                     refine pu_ (i := 6) (N := some 37) (v := ?_) (a' := ?_) HT_.out rfl rfl (Or.inl ⟨by rfl, ?_⟩) ?_ ?_
                     rotate_left
                     ·intro w'
                      go_simp
                      with_reducible rfl
                     rotate_left
                     ·simp only [sp_]
                      rfl
                     refine pu_ (i := 7) (N := some 38) (v := ?_) (a' := ?_) HT_.out rfl rfl (Or.inl ⟨by rfl, ?_⟩) ?_ ?_
                     rotate_left
                     ·intro w'
                      go_simp
                      with_reducible rfl
                     rotate_left
                     ·simp only [sp_]
                      rfl
                     refine pu_ (i := 8) (N := some 39) (v := ?_) (a' := ?_) HT_.out rfl rfl (Or.inl ⟨by rfl, ?_⟩) ?_ ?_
                     rotate_left
                     ·intro w'
                      go_simp
                      with_reducible rfl
                     rotate_left
                     ·simp only [sp_]
                      rfl
                     refine one_ (i := 4) (N := some 35) #[true, true, true, true, true, true, true, true, true, false, false, false, false] rfl rfl (one_of HT_.out (by kernel_rfl)) (by decide) (fun K hK => ?_)
                     refine goes_ Try.func113 (by kernel_rfl) rfl #[.slice A619_0 ((rd_L1 y615 x27_2).take (x17_1 : Int).toNat).length c619_0] (by rfl) rfl rfl (by (try simp only [List.map_toArray, List.map_cons, List.map_nil]); first | done | (rw [show ((rd_L1 y615 x27_2).take (x17_1 : Int).toNat).length = x17_1.toNat from (by rw [List.length_take]; have h_ : (x17_1 : Int) ≤ ((rd_L1 y615 x27_2).length : Int) := of_decide_eq_true (by first | (with_reducible assumption) | assumption); omega)] <;> rfl) | rfl | (simp only [List.length_drop, List.length_take]; rfl)) ?_
                     with_reducible refine (spec_l1Own.calls _ _ ((rd_L1 y615 x27_2).take (x17_1 : Int).toNat) t621 _ ?side1 ?side2 A15.out).mono ?_
                     (case side1 => repeat (first | exact (Kd.C_below HR620.out HB.out) | (with_reducible refine Kd.C_alloc ?_ _) | (with_reducible refine Kd.C_drewN ?_ _) | (with_reducible refine Kd.C_drew ?_)))
                     (case side2 => exact HC620.out)
                     rintro e w24 ⟨v622, rfl, ho0, hb⟩
                     refine ⟨_, rfl, ?_⟩
                     have n0_ := Aside0.mk (Kd.S_elder' (by (with_reducible repeat (first | apply Kd.S_alloc | apply Kd.S_drewN | apply Kd.S_drew)); exact HO_7.out) (Kd.R_base ho0) hb)
                     have n1_ := Aside0.mk (Kd.R_lower ho0 (bZ_ (by repeat (first | (with_reducible first | exact HB.out | apply bA_ | apply bN_ | apply bD_) | exact HB.out))))
                     have n2_ := Aside0.mk (bP_ (by repeat (first | (with_reducible first | exact HB.out | apply bA_ | apply bN_ | apply bD_) | exact HB.out)) hb)
                     clear HO_7
                     clear HB
                     have HO_7 := n0_
                     have HO623 := n1_
                     have HB := n2_
                     clear n0_ n1_ n2_
                     (try clear hb)
                     (try clear hb2)
                     (try clear hk)
                     (try clear hi)
                     (try clear ho0)
                     refine hK.out _ _ trivial (fun hHeld => ?_)
                     clear hK K
                     refine norm_ (a' := ?_) ?_ ?_
                     rotate_left
                     ·show Act.put _ (some 35) _ = _
                      simp only [sp_]
                      rfl
                     refine one_ (i := 9) (N := some 40) #[true, true, true, true, true, true, true, true, true, true, false, false, false] rfl rfl (one_of HT_.out (by kernel_rfl)) (by decide) (fun K hK => ?_)
                     refine Kd.R_append_rows_step (Kd.int .i64) (w0 := w) w.heap.size (by rfl) (.tmp 35) (.tmp 39) 37 3 (.int .i64 0) 8 rfl Try.underlying37 info3 rfl (by decide) (by omega) v622 t621 ((rd_L1 y615 x27_2).drop ((ji16) : Int).toNat) _ _ _ (fun _ => True) (fun _ => False) rfl rfl ?aO ?aR (fun _ _ h => h) (fun _ h => h.elim) ?aF ?aB ?aS ?aL ?_
                     (case aR => first | (rw [← show ((rd_L1 y615 x27_2).drop ((ji16) : Int).toNat).length = ((rd_L1 y615 x27_2).length - (ji16).toNat) from List.length_drop]; repeat (first | exact (Kd.C_below HR624.out HB.out) | (with_reducible refine Kd.C_alloc ?_ _) | (with_reducible refine Kd.C_drewN ?_ _) | (with_reducible refine Kd.C_drew ?_))) | (repeat (first | exact (Kd.C_below HR624.out HB.out) | (with_reducible refine Kd.C_alloc ?_ _) | (with_reducible refine Kd.C_drewN ?_ _) | (with_reducible refine Kd.C_drew ?_))))
                     (case aB => exact (by repeat (first | (with_reducible first | exact HB.out | apply bA_ | apply bN_ | apply bD_) | exact HB.out)))
                     (case aF => exact (fun _ _ => trivial))
                     (case aO => exact (by (with_reducible repeat (first | apply Kd.R_alloc | apply Kd.R_drewN | apply Kd.R_drew)); exact HO623.out))
                     (case aS => exact (bZ_ (by repeat (first | (with_reducible first | exact HB.out | apply bA_ | apply bN_ | apply bD_) | exact HB.out))))
                     (case aL => have := LMc19.out; have hlx_ := (show ((rd_L1 y615 x27_2).drop ((ji16) : Int).toNat).length = ((rd_L1 y615 x27_2).length - (ji16).toNat) from List.length_drop); omega)
                     intro v626 w25 ho hb hg hat
                     rw [← Ny625.out] at ho
                     have n0_ := Aside0.mk (Kd.S_after (ok := (fun _ => True)) (by (with_reducible repeat (first | apply Kd.S_alloc | apply Kd.S_drewN | apply Kd.S_drew)); exact HO_7.out) hg hat)
                     have n1_ := Aside0.mk (hb)
                     have n2_ := Aside0.mk (ho)
                     clear HO_7
                     clear HB
                     clear HO623
                     have HO_7 := n0_
                     have HB := n1_
                     have HO627 := n2_
                     clear n0_ n1_ n2_
                     clear ho hb hg hat
                     obtain ⟨Ao27, co27, eo27⟩ := Kd.R_slice HO627.out
                     (first | subst eo27 | (injection eo27 with f1_ f2_ f3_; have f4_ := f1_.symm; have f5_ := f3_.symm; clear f1_ f2_ f3_; subst f4_; subst f5_))
                     refine hK.out _ _ trivial (fun hHeld => ?_)
                     clear hK K
                     refine norm_ (a' := ?_) ?_ ?_
                     rotate_left
                     ·show Act.put _ (some 40) _ = _
                      simp only [sp_]
                      rfl
                     refine one_ (i := 10) (N := some 41) #[true, true, true, true, true, true, true, true, true, true, true, false, false] rfl rfl (one_of HT_.out (by kernel_rfl)) (by decide) (fun K hK => ?_)
                     refine value_ (w1 := ?_) (v := ?_) (by rfl) rfl ?_ ?_
                     rotate_left 2
                     ·go_simp
                      constructor
                      ·rfl
                      ·rfl
                     refine hK.out _ _ trivial (fun hHeld => ?_)
                     clear hK K
                     refine norm_ (a' := ?_) ?_ ?_
                     rotate_left
                     ·show Act.put _ (some 41) _ = _
                      simp only [sp_]
                      rfl
                     refine one_ (i := 11) (N := some 42) #[true, true, true, true, true, true, true, true, true, true, true, true, false] rfl rfl (one_of HT_.out (by kernel_rfl)) (by decide) (fun K hK => ?_)
                     refine Kd.S_append_step (Kd.slice 3 (Kd.int .i64)) (w0 := w) w.heap.size (by rfl) (.tmp 31) (.tmp 41) 22 37 (.slice none 0 0) 24 rfl Try.underlying22 info37 rfl (by decide) (by omega) u7 x7_2 y625 [.slice Ao27 y625.length co27] (fun _ => True) (fun k_ => some k_ = (.slice Ao27 y625.length co27 : Value).ownBlock) rfl rfl ?aP (fun k_ hk_ => ((Kd.R_mono (ok' := fun k_ => ((fun _ => True)) k_ ∧ some k_ ≠ (u7 : Value).ownBlock) (Kd.R_apart' (HO627.out) (Kd.S_typed HO_7.out) (by decide)) (fun k_ hk => ⟨trivial, hk.2⟩))).1 k_ hk_.symm) ?aF ?aO ?aB ?aS ?aL ?_
                     (case aP => exact Kd.M_row (Kd.R_mono (Kd.R_tight rfl (Kd.R_mono (ok' := fun k_ => ((fun _ => True)) k_ ∧ some k_ ≠ (u7 : Value).ownBlock) (Kd.R_apart' (HO627.out) (Kd.S_typed HO_7.out) (by decide)) (fun k_ hk => ⟨trivial, hk.2⟩))) (fun _ h_ => h_)))
                     (case aB => exact (by repeat (first | (with_reducible first | exact HB.out | apply bA_ | apply bN_ | apply bD_) | exact HB.out)))
                     (case aF => exact (fun _ _ => trivial))
                     (case aO => exact (by (with_reducible repeat (first | apply Kd.S_alloc | apply Kd.S_drewN | apply Kd.S_drew)); exact Kd.S_mono HO_7.out (fun k_ hk => ⟨trivial, fun e_ => hk.2 e_⟩)))
                     (case aS => exact (bZ_ (by repeat (first | (with_reducible first | exact HB.out | apply bA_ | apply bN_ | apply bD_) | exact HB.out))))
                     (case aL => have := LMc20.out; omega)
                     intro v629 w26 ho hb hg hat
                     rw [← Ny628.out] at ho
                     have n0_ := Aside0.mk (hb)
                     have n1_ := Aside0.mk (ho)
                     clear HB
                     clear HO_7
                     clear HO627
                     have HB := n0_
                     have HO630 := n1_
                     clear n0_ n1_
                     clear ho hb hg hat
                     refine hK.out _ _ trivial (fun hHeld => ?_)
                     clear hK K
                     refine norm_ (a' := ?_) ?_ ?_
                     rotate_left
                     ·show Act.put _ (some 42) _ = _
                      simp only [sp_]
                      rfl
                     refine pu_ (i := 12) (N := some 7) (v := ?_) (a' := ?_) HT_.out rfl rfl (Or.inl ⟨by rfl, ?_⟩) ?_ ?_
                     rotate_left
                     ·intro w'
                      go_simp
                      with_reducible rfl
                     rotate_left
                     ·simp only [sp_]
                      rfl
                     refine done_ (done_of HT_.out (by kernel_rfl)) ?_
                     try go_wp2
                     go_roundg k2
                     case measure => have := HK1.out; have := HK2.out; omega
                     case rel => exact ⟨(y628), (wrap64 (x27_2 + 1)), (by first | rfl | (simp; done) | (simp [*]; done)), H', ⟨by have := HK1.out; have := HK2.out; omega⟩, ⟨by (with_reducible repeat (first | apply Kd.S_alloc | apply Kd.S_drewN | apply Kd.S_drew)); exact HO630.out⟩, ⟨by repeat (first | (with_reducible first | exact HB.out | apply bA_ | apply bN_ | apply bD_) | exact HB.out)⟩⟩
                    ·rw [if_neg c20] at H
                     exact absurd H (by simp)
                   ·rw [if_neg c19] at H
                    exact absurd H (by simp)
                  ·rw [if_neg c18] at H
                   exact absurd H (by simp)
                 ·rw [if_neg c17] at H
                  exact absurd H (by simp)
                ·rw [if_neg c14] at H
                 exact absurd H (by simp)
               ·rw [if_neg c13] at H
                exact absurd H (by simp)
              ·rw [if_neg c12] at H
               exact absurd H (by simp)
             ·rw [if_neg c11] at H
              exact absurd H (by simp)
            ·rw [if_neg c10] at H
             have c10b0 : decide (x27_2 < (y615.length : Int)) = false := decide_eq_false c10
             clear c10
             replace H := Option.bind_eq_some_iff.mp H
             obtain ⟨t631, A280, H⟩ := H
             replace H : (spec_trDet.l0 k2 l0 (wrap64 (x3_1 + (wrap64 ((wrap64 (x4_1 * (rd (rd_L1 l0 0) x17_1))) * t631)))) (wrap64 (-x4_1)) (rd_L1 l0 0) ((rd_L1 l0 0).length : Int) (wrap64 (x17_1 + 1))) = some r := H
             have A28 := Aside0.mk A280
             clear A280
             have H' := Aside0.mk H
             clear H
             obtain ⟨Ao29, co29, eo29⟩ := Kd.S_slice HO_7.out
             subst eo29
             go_wp2_with (first | ((with_reducible refine gate_callee (f := 116) rfl ?_); refine goesL_ (some 49) rfl rfl Try.func116 (by kernel_rfl) rfl #[.slice Ao29 x7_2.length co29] rfl (by (try simp only [List.map_toArray, List.map_cons, List.map_nil]); first | done | rfl | (simp only [List.length_drop, List.length_take]; rfl)) ?_; (with_reducible refine (ih k2 (by have := HK1.out; have := HK2.out; omega) _ _ x7_2 t631 _ ?side1 ?side2 A28.out).mono ?_); (case side1 => repeat (first | exact (Kd.S_reads' HO_7.out).2.2 | (with_reducible refine Kd.C_alloc ?_ _) | (with_reducible refine Kd.C_drewN ?_ _) | (with_reducible refine Kd.C_drew ?_))); (case side2 => exact (Kd.S_reads' HO_7.out).2.1); rintro e w30 ⟨rfl, hb⟩; refine ⟨_, rfl, ?_⟩; have n0_ := Aside0.mk (Kd.S_below (by (with_reducible repeat (first | apply Kd.S_alloc | apply Kd.S_drewN | apply Kd.S_drew)); exact HO_7.out) hb); have n1_ := Aside0.mk (bP_ (by repeat (first | (with_reducible first | exact HB.out | apply bA_ | apply bN_ | apply bD_) | exact HB.out)) hb); clear HO_7; clear HB; have HO_7 := n0_; have HB := n1_; clear n0_ n1_; (try clear hb); (try clear hb2); (try clear hk); (try clear hi)))
             go_roundg k2
             case measure => have := HK1.out; have := HK2.out; omega
             case rel => exact ⟨(wrap64 (x3_1 + (wrap64 ((wrap64 (x4_1 * (rd (rd_L1 l0 0) x17_1))) * t631)))), (wrap64 (-x4_1)), (wrap64 (x17_1 + 1)), (by first | rfl | (simp; done) | (simp [*]; done)), (by first | rfl | (simp; done) | (simp [*]; done)), (by first | rfl | (simp; done) | (simp [*]; done)), H', ⟨by have := HK1.out; have := HK2.out; omega⟩, ⟨by repeat (first | (with_reducible first | exact HB.out | apply bA_ | apply bN_ | apply bD_) | exact HB.out)⟩⟩
         ·rw [if_neg c8] at H
          exact absurd H (by simp)
       ·rw [if_neg c6] at H
        exact absurd H (by simp)
      ·rw [if_neg c5] at H
       exact absurd H (by simp)
     ·rw [if_neg c4] at H
      have c4b0 : decide (x17_1 < ((rd_L1 l0 0).length : Int)) = false := decide_eq_false c4
      clear c4
      obtain rfl := Option.some.inj H
      go_wp2
      go_ret
      exact ⟨by first | rfl | (simp [errW_none, errW_some] <;> rfl) | (simp [*, errW_none, errW_some] <;> rfl), by repeat (first | (with_reducible first | exact HB.out | apply bA_ | apply bN_ | apply bD_) | exact HB.out)⟩
  ·rw [if_neg c3] at H
   exact absurd H (by simp)
mutual
def spec_hiSolve.l0 : Nat → List (List Int) → List Int → Int → List Int → Int → Int → Option (List Int × Int)
 | 0, _, _, _, _, _, _ => none
 | k + 1, x0, x1, x6, x7, x16, x17 => if x17 < x16 then (spec_hiSolve.l1 k x0 x1 x6 x7 x17 ([] : List (List Int)) x16 x17 x0 (x0.length : Int) 0) else (some (x7, x6))
def spec_hiSolve.l1 : Nat → List (List Int) → List Int → Int → List Int → Int → List (List Int) → Int → Int → List (List Int) → Int → Int → Option (List Int × Int)
 | 0, _, _, _, _, _, _, _, _, _, _, _ => none
 | k + 1, x0, x1, x6, x7, x8, x9, x16, x17, x20, x21, x22 => if x22 < x21 then (if 0 ≤ x22 then (if x22 < (x20.length : Int) then ((spec_l1Own.f (rd_L1 x20 x22)).bind fun t634 => (if x22 < (x1.length : Int) then (if 0 ≤ x8 then (if x8 < (t634.length : Int) then (if x9.length < 5864062014805 then (spec_hiSolve.l1 k x0 x1 x6 x7 x8 (x9 ++ [(t634.set (x8 : Int).toNat (rd x1 x22))]) x16 x17 x20 x21 (wrap64 (x22 + 1))) else (none)) else (none)) else (none)) else (none))) else (none)) else (none)) else ((spec_trDet.f k x9).bind fun t642 => (if x7.length < 17592186044416 then (spec_hiSolve.l0 k x0 x1 x6 (x7 ++ [t642]) x16 (wrap64 (x17 + 1))) else (none)))
end
def spec_hiSolve.f (k : Nat) (l0 : List (List Int)) (l1 : List Int) : Option (List Int × Int) := (spec_trDet.f k l0).bind fun t632 => (spec_hiSolve.l0 k l0 l1 t632 ([] : List Int) (l0.length : Int) 0)
set_option maxHeartbeats 8000000 in
set_option maxRecDepth 100000 in
theorem spec_hiSolve.calls (k : Nat) (A0 : Option Addr) (c0 : Nat) (l0 : List (List Int)) (A1 : Option Addr) (c1 : Nat) (l1 : List Int) (r1 : List Int) (r2 : Int) (w : World) (hr0 : Kd.C (Kd.slice 3 (Kd.int .i64)) w A0 l0.length l0) (hc0 : l0.length ≤ c0) (hr1 : Kd.C (Kd.int .i64) w A1 l1.length l1) (hc1 : l1.length ≤ c1) (h : spec_hiSolve.f k l0 l1 = some (r1, r2)) :
  Calls Try.prog 89 #[.slice A0 l0.length c0, .slice A1 l1.length c1] w fun e w' => ∃ v0_ : Value, e = .returned (.tuple #[v0_, .int .i64 r2]) ∧ Kd.R (Kd.int .i64) 3 w' w.heap.size (fun _ => True) v0_ r1 ∧ Below w.heap.size w w' := by
 have HR0 := Aside0.mk hr0
 have HC0 := Aside0.mk hc0
 clear hr0 hc0
 have HR1 := Aside0.mk hr1
 have HC1 := Aside0.mk hc1
 clear hr1 hc1
 have HB := Aside0.mk (Below.refl w.heap.size w)
 have H : ((spec_trDet.f k l0).bind fun t632 => (spec_hiSolve.l0 k l0 l1 t632 ([] : List Int) (l0.length : Int) 0)) = some (r1, r2) := h
 clear h
 replace H := Option.bind_eq_some_iff.mp H
 obtain ⟨t632, A30, H⟩ := H
 replace H : (spec_hiSolve.l0 k l0 l1 t632 ([] : List Int) (l0.length : Int) 0) = some (r1, r2) := H
 have A3 := Aside0.mk A30
 clear A30
 have H' := Aside0.mk H
 clear H
 go_enter Try.func89, Try.ntmps89
 go_wp2_with (first | ((with_reducible refine gate_callee (f := 116) rfl ?_); refine goesL_ (some 14) rfl rfl Try.func116 (by kernel_rfl) rfl #[.slice A0 l0.length c0] rfl (by (try simp only [List.map_toArray, List.map_cons, List.map_nil]); first | done | rfl | (simp only [List.length_drop, List.length_take]; rfl)) ?_; (with_reducible refine (spec_trDet.calls k _ _ l0 t632 _ ?side1 ?side2 A3.out).mono ?_); (case side1 => repeat (first | exact HR0.out | (with_reducible refine Kd.C_alloc ?_ _) | (with_reducible refine Kd.C_drewN ?_ _) | (with_reducible refine Kd.C_drew ?_))); (case side2 => exact HC0.out); rintro e w4 ⟨rfl, hb⟩; refine ⟨_, rfl, ?_⟩; have n0_ := Aside0.mk (bP_ (by repeat (first | (with_reducible first | exact HB.out | apply bA_ | apply bN_ | apply bD_) | exact HB.out)) hb); clear HB; have HB := n0_; clear n0_; (try clear hb); (try clear hb2); (try clear hk); (try clear hi)))
 go_loopg [7, 17] k (fun kq v7 v17 w' => ∃ (x7_1 : List Int) (x17_1 : Int), v17 = .int .i64 x17_1 ∧ Aside0 (spec_hiSolve.l0 kq l0 l1 t632 x7_1 (l0.length : Int) x17_1 = some (r1, r2)) ∧ Aside0 (kq ≤ k) ∧ Aside0 (Kd.R (Kd.int .i64) 3 w' w.heap.size (fun _ => True) v7 x7_1) ∧ Aside0 (Below w.heap.size w w'))
 case atStart => exact ⟨(([] : List Int)), (0), (by first | rfl | (simp; done) | (simp [*]; done)), H', ⟨Nat.le_refl _⟩, ⟨by first | exact Kd.R_nil _ _ _ _ _ | exact Kd.N_nil _ _ _ _ _ | exact Kd.V_nil _ _ _ _ _ | exact Kd.Q_nil _ _ _ _ _ | exact Kd.S_nil _ _ _ _ _⟩, ⟨by repeat (first | (with_reducible first | exact HB.out | apply bA_ | apply bN_ | apply bD_) | exact HB.out)⟩⟩
 case round =>
  clear H'
  try clear c1
  try clear p2
  obtain ⟨x7_1, x17_1, rfl, HA, HK1, HO_7, HB⟩ := hrel
  cases gk with
  | zero => exact absurd HA.out (by simp [spec_hiSolve.l0])
  | succ k1 =>
   have H := HA.out
   clear HA
   simp only [spec_hiSolve.l0] at H
   by_cases c5 : x17_1 < (l0.length : Int)
   ·rw [if_pos c5] at H
    have c5b0 : decide (x17_1 < (l0.length : Int)) = true := decide_eq_true c5
    clear c5
    have H' := Aside0.mk H
    clear H
    go_wp2
    go_loopg [9, 22] k1 (fun kq v9 v22 w' => ∃ (x7_2 : List Int) (x9_2 : List (List Int)) (x22_2 : Int), v22 = .int .i64 x22_2 ∧ Aside0 (spec_hiSolve.l1 kq l0 l1 t632 x7_2 x17_1 x9_2 (l0.length : Int) x17_1 l0 (l0.length : Int) x22_2 = some (r1, r2)) ∧ Aside0 (kq ≤ k1) ∧ Aside0 (Kd.R (Kd.int .i64) 3 w' w.heap.size (fun _ => True) u7 x7_2) ∧ Aside0 (Kd.S (Kd.slice 3 (Kd.int .i64)) 37 w' w.heap.size (fun k_ => some k_ ≠ (u7 : Value).ownBlock) v9 x9_2) ∧ Aside0 (Below w.heap.size w w'))
    case atStart => exact ⟨(x7_1), (([] : List (List Int))), (0), (by first | rfl | (simp; done) | (simp [*]; done)), H', ⟨Nat.le_refl _⟩, ⟨by (with_reducible repeat (first | apply Kd.R_alloc | apply Kd.R_drewN | apply Kd.R_drew)); exact HO_7.out⟩, ⟨by first | exact Kd.S_nil _ _ _ _ _ | exact Kd.N_nil _ _ _ _ _ | exact Kd.V_nil _ _ _ _ _ | exact Kd.Q_nil _ _ _ _ _ | exact Kd.R_nil _ _ _ _ _⟩, ⟨by repeat (first | (with_reducible first | exact HB.out | apply bA_ | apply bN_ | apply bD_) | exact HB.out)⟩⟩
    case round =>
     clear H'
     try clear c1
     try clear p2
     try clear c5
     try clear c5b0
     try clear p2
     obtain ⟨x7_2, x9_2, x22_2, rfl, HA, HK2, HO_7, HO_9, HB⟩ := hrel
     cases gk with
     | zero => exact absurd HA.out (by simp [spec_hiSolve.l1])
     | succ k2 =>
      have H := HA.out
      clear HA
      simp only [spec_hiSolve.l1] at H
      by_cases c6 : x22_2 < (l0.length : Int)
      ·rw [if_pos c6] at H
       have c6b0 : decide (x22_2 < (l0.length : Int)) = true := decide_eq_true c6
       clear c6
       by_cases c7 : 0 ≤ x22_2
       ·rw [if_pos c7] at H
        have c7b0 : decide (0 ≤ x22_2) = true := decide_eq_true c7
        clear c7
        by_cases c8 : x22_2 < (l0.length : Int)
        ·rw [if_pos c8] at H
         have c8b0 : decide (x22_2 < (l0.length : Int)) = true := decide_eq_true c8
         clear c8
         replace H := Option.bind_eq_some_iff.mp H
         obtain ⟨t634, A90, H⟩ := H
         replace H : (if x22_2 < (l1.length : Int) then (if 0 ≤ x17_1 then (if x17_1 < (t634.length : Int) then (if x9_2.length < 5864062014805 then (spec_hiSolve.l1 k2 l0 l1 t632 x7_2 x17_1 (x9_2 ++ [(t634.set (x17_1 : Int).toNat (rd l1 x22_2))]) (l0.length : Int) x17_1 l0 (l0.length : Int) (wrap64 (x22_2 + 1))) else (none)) else (none)) else (none)) else (none)) = some (r1, r2) := H
         have A9 := Aside0.mk A90
         clear A90
         by_cases c10 : x22_2 < (l1.length : Int)
         ·rw [if_pos c10] at H
          have c10b0 : decide (x22_2 < (l1.length : Int)) = true := decide_eq_true c10
          clear c10
          by_cases c11 : 0 ≤ x17_1
          ·rw [if_pos c11] at H
           have c11b0 : decide (0 ≤ x17_1) = true := decide_eq_true c11
           clear c11
           by_cases c12 : x17_1 < (t634.length : Int)
           ·rw [if_pos c12] at H
            have c12b0 : decide (x17_1 < (t634.length : Int)) = true := decide_eq_true c12
            clear c12
            obtain ⟨y638, hy638⟩ : ∃ y_ : List Int, y_ = (t634.set (x17_1 : Int).toNat (rd l1 x22_2)) := ⟨_, rfl⟩
            replace H : (if x9_2.length < 5864062014805 then (spec_hiSolve.l1 k2 l0 l1 t632 x7_2 x17_1 (x9_2 ++ [y638]) (l0.length : Int) x17_1 l0 (l0.length : Int) (wrap64 (x22_2 + 1))) else (none)) = some (r1, r2) := by first | (rw [hy638]; with_reducible exact H) | (have H2_ := (Option.bind_some _ _).symm.trans H; rw [hy638]; with_reducible exact H2_) | (have H2_ := (Option.bind_some _ _).symm.trans H; with_reducible exact H2_) | with_reducible exact H | (rw [hy638]; exact H) | exact H
            have Ny638 := Aside0.mk hy638
            clear hy638
            by_cases c14 : x9_2.length < 5864062014805
            ·rw [if_pos c14] at H
             have LMc14 := Aside0.mk c14
             clear c14
             obtain ⟨y639, hy639⟩ : ∃ y_ : List (List Int), y_ = (x9_2 ++ [y638]) := ⟨_, rfl⟩
             replace H : (spec_hiSolve.l1 k2 l0 l1 t632 x7_2 x17_1 y639 (l0.length : Int) x17_1 l0 (l0.length : Int) (wrap64 (x22_2 + 1))) = some (r1, r2) := by first | (rw [hy639]; with_reducible exact H) | (have H2_ := (Option.bind_some _ _).symm.trans H; rw [hy639]; with_reducible exact H2_) | (have H2_ := (Option.bind_some _ _).symm.trans H; with_reducible exact H2_) | with_reducible exact H | (rw [hy639]; exact H) | exact H
             have Ny639 := Aside0.mk hy639
             clear hy639
             have H' := Aside0.mk H
             clear H
             have p633 : 0 ≤ (x22_2 : Int) := of_decide_eq_true (by first | (with_reducible assumption) | assumption)
             have q633 : x22_2 < (l0.length : Int) := of_decide_eq_true (by first | (with_reducible assumption) | assumption)
             obtain ⟨ad633, A633_0, c633_0, e633, hx633_0, hl633_0, hi633_0⟩ := at_L1 HR0.out x22_2 p633 q633
             cases e633
             replace hx633_0 := (HB.out.cell (World.block_lt_of_cell? w _ hx633_0)).trans hx633_0
             have HR633_0 := Aside0.mk hi633_0
             have HC633_0 := Aside0.mk hl633_0
             clear hi633_0 hl633_0
             replace p633 := eq_true p633
             replace q633 := eq_true q633
             go_wp2_with (first | ((with_reducible refine gate_callee (f := 113) rfl ?_); refine goesL_ (some 28) rfl rfl Try.func113 (by kernel_rfl) rfl #[.slice A633_0 (rd_L1 l0 x22_2).length c633_0] rfl (by (try simp only [List.map_toArray, List.map_cons, List.map_nil]); first | done | rfl | (simp only [List.length_drop, List.length_take]; rfl)) ?_; (with_reducible refine (spec_l1Own.calls _ _ (rd_L1 l0 x22_2) t634 _ ?side1 ?side2 A9.out).mono ?_); (case side1 => repeat (first | exact (Kd.C_below HR633_0.out HB.out) | (with_reducible refine Kd.C_alloc ?_ _) | (with_reducible refine Kd.C_drewN ?_ _) | (with_reducible refine Kd.C_drew ?_))); (case side2 => exact HC633_0.out); rintro e w15 ⟨v635, rfl, ho0, hb⟩; refine ⟨_, rfl, ?_⟩; have n0_ := Aside0.mk (Kd.R_elder' (by (with_reducible repeat (first | apply Kd.R_alloc | apply Kd.R_drewN | apply Kd.R_drew)); exact HO_7.out) (Kd.R_base ho0) hb); have n1_ := Aside0.mk (Kd.S_elder' (by (with_reducible repeat (first | apply Kd.S_alloc | apply Kd.S_drewN | apply Kd.S_drew)); exact HO_9.out) (Kd.R_base ho0) hb); have n2_ := Aside0.mk (Kd.R_lower (Kd.R_new' ho0 (Kd.R_lt (by (with_reducible repeat (first | apply Kd.R_alloc | apply Kd.R_drewN | apply Kd.R_drew)); exact HO_7.out))) (bZ_ (by repeat (first | (with_reducible first | exact HB.out | apply bA_ | apply bN_ | apply bD_) | exact HB.out)))); have n3_ := Aside0.mk (bP_ (by repeat (first | (with_reducible first | exact HB.out | apply bA_ | apply bN_ | apply bD_) | exact HB.out)) hb); clear HO_7; clear HO_9; clear HB; have HO_7 := n0_; have HO_9 := n1_; have HO636 := n2_; have HB := n3_; clear n0_ n1_ n2_ n3_; (try clear hb); (try clear hb2); (try clear hk); (try clear hi); (try clear ho0); have p637 : 0 ≤ (x22_2 : Int) := of_decide_eq_true (by first | (with_reducible assumption) | assumption); have q637 : x22_2 < (l1.length : Int) := of_decide_eq_true (by first | (with_reducible assumption) | assumption); obtain ⟨ad637, e637, hx637_0⟩ := Kd.at_int HR1.out x22_2 p637 q637; cases e637; replace hx637_0 := (HB.out.cell (World.block_lt_of_cell? w _ hx637_0)).trans hx637_0; replace p637 := eq_true p637; replace q637 := eq_true q637; have p13 : 0 ≤ (x17_1 : Int) := of_decide_eq_true (by first | (with_reducible assumption) | assumption); have q13 : (x17_1 : Int) < ((t634.length : Int) : Int) := of_decide_eq_true (by first | (with_reducible assumption) | assumption); obtain ⟨go13, co13, eo13, gb13, gl13, cl13, HG13⟩ := Kd.R_form HO636.out (by omega); (first | cases eo13 | (injection eo13 with ea_ en_ ec_; (first | subst ea_ | (injection ea_ with ea_; subst ea_)); subst ec_; clear en_)); have GB13 := Aside0.mk gb13; have GG13 := Aside0.mk HG13; clear gb13 gl13 HG13; obtain ⟨hx13_0, hf13_0⟩ := Kd.R_celln 0 HO636.out (x17_1 : Int) p13 q13; replace p13 := eq_true p13; replace q13 := eq_true q13; have n_ := Aside0.mk (Kd.R_mono (ok' := (fun k_ => some k_ ≠ (u7 : Value).ownBlock)) HO636.out (fun k_ hk => hk.2)); clear HO636; have HO636 := n_; clear n_; obtain ⟨hy16_, hz16_⟩ := Kd.R_celln 0 HO636.out (x17_1 : Int) (of_decide_eq_true (by first | (with_reducible assumption) | assumption)) (of_decide_eq_true (by first | (with_reducible assumption) | assumption)); have HP16 := Kd.R_putg HO636.out (x17_1 : Int) (rd l1 x22_2)) | ((with_reducible refine gate_store (t := 3) (p := 35) rfl ?_); refine store_event (t := 3) (p := 35) (v := ?vo_w17) (w1 := (w15.setCell ⟨go13, (x17_1 : Int).toNat, none⟩ (.int .i64 (rd l1 x22_2)))) ?hg ?ho ?hn ?hr ?_; (case ho => rfl); (case hg => rfl); (case hn => rfl); (case hr => first | (go_simp; done) | (go_simp; rfl)); intro w17 hw; have hg : w15.grownBy w17 (some go13) := (by rw [hw]; exact HP16.2); have hp_ : Kd.R (Kd.int .i64) 3 w17 w.heap.size (fun k_ => some k_ ≠ (u7 : Value).ownBlock) (.slice (some ⟨go13, 0, none⟩) t634.length co13) y638 := (by rw [hw, Ny638.out]; exact HP16.1); clear HP16; have n0_ := Aside0.mk (Kd.R_after (v := (.slice (some ⟨go13, 0, none⟩) t634.length co13)) (v1 := (.slice (some ⟨go13, 0, none⟩) t634.length co13)) (ok := (fun _ => True)) (by (with_reducible repeat (first | apply Kd.R_alloc | apply Kd.R_drewN | apply Kd.R_drew)); exact HO_7.out) hg (.inl rfl)); have n1_ := Aside0.mk (Kd.S_after (v := (.slice (some ⟨go13, 0, none⟩) t634.length co13)) (v1 := (.slice (some ⟨go13, 0, none⟩) t634.length co13)) (ok := (fun k_ => some k_ ≠ (u7 : Value).ownBlock)) (by (with_reducible repeat (first | apply Kd.S_alloc | apply Kd.S_drewN | apply Kd.S_drew)); exact HO_9.out) hg (.inl rfl)); have n2_ := Aside0.mk (hp_); have n3_ := Aside0.mk ((by rw [hw]; exact bS_ (HB.out) GB13.out : Below w.heap.size w w17)); clear HO_7; clear HO_9; clear HO636; clear HB; have HO_7 := n0_; have HO_9 := n1_; have HO636 := n2_; have HB := n3_; clear n0_ n1_ n2_ n3_; clear hg hw hp_) | ((with_reducible refine gate_builtin (b := .append) (xs := #[.tmp 36, .tmp 38]) rfl ?_); at_builtin; refine Kd.S_append (Kd.slice 3 (Kd.int .i64)) (w0 := w) w.heap.size rfl (.tmp 36) (.tmp 38) 22 37 (.slice none 0 0) 24 rfl Try.underlying22 info37 rfl (by decide) (by omega) u9 x9_2 y638 [.slice (some ⟨go13, 0, none⟩) t634.length co13] (fun k_ => some k_ ≠ (u7 : Value).ownBlock) (fun k_ => some k_ = (.slice (some ⟨go13, 0, none⟩) t634.length co13 : Value).ownBlock) rfl rfl ?aP (fun k_ hk_ => ((Kd.R_mono (ok' := fun k_ => ((fun k_ => some k_ ≠ (u7 : Value).ownBlock)) k_ ∧ some k_ ≠ (u9 : Value).ownBlock) (Kd.R_apart' (HO636.out) (Kd.S_typed HO_9.out) (by decide)) (fun k_ hk => ⟨hk.1, hk.2⟩))).1 k_ hk_.symm) ?aF ?aO ?aB ?aS ?aL ?_; (case aP => exact Kd.M_row (Kd.R_mono (Kd.R_tight rfl (Kd.R_mono (ok' := fun k_ => ((fun k_ => some k_ ≠ (u7 : Value).ownBlock)) k_ ∧ some k_ ≠ (u9 : Value).ownBlock) (Kd.R_apart' (HO636.out) (Kd.S_typed HO_9.out) (by decide)) (fun k_ hk => ⟨hk.1, hk.2⟩))) (fun _ h_ => h_))); (case aB => exact (by repeat (first | (with_reducible first | exact HB.out | apply bA_ | apply bN_ | apply bD_) | exact HB.out))); (case aF => exact (fun k_ hk => Kd.fresh' (Kd.R_lt (by (with_reducible repeat (first | apply Kd.R_alloc | apply Kd.R_drewN | apply Kd.R_drew)); exact HO_7.out)) k_ hk)); (case aO => exact (by (with_reducible repeat (first | apply Kd.S_alloc | apply Kd.S_drewN | apply Kd.S_drew)); exact Kd.S_mono HO_9.out (fun k_ hk => ⟨hk.1, fun e_ => hk.2 e_⟩))); (case aS => exact (bZ_ (by repeat (first | (with_reducible first | exact HB.out | apply bA_ | apply bN_ | apply bD_) | exact HB.out)))); (case aL => have := LMc14.out; omega); intro v640 w18 ho hb hg hat; rw [← Ny639.out] at ho; have n0_ := Aside0.mk (Kd.R_over' (by (with_reducible repeat (first | apply Kd.R_alloc | apply Kd.R_drewN | apply Kd.R_drew)); exact HO_7.out) (Kd.S_typed (by (with_reducible repeat (first | apply Kd.S_alloc | apply Kd.S_drewN | apply Kd.S_drew)); exact HO_9.out)) (by decide) hg); have n1_ := Aside0.mk (hb); have n2_ := Aside0.mk (ho); clear HO_7; clear HB; clear HO_9; clear HO636; have HO_7 := n0_; have HB := n1_; have HO641 := n2_; clear n0_ n1_ n2_; clear ho hb hg hat))
             go_roundg k2
             case measure => have := HK1.out; have := HK2.out; omega
             case rel => exact ⟨(x7_2), (y639), (wrap64 (x22_2 + 1)), (by first | rfl | (simp; done) | (simp [*]; done)), H', ⟨by have := HK1.out; have := HK2.out; omega⟩, ⟨by (with_reducible repeat (first | apply Kd.R_alloc | apply Kd.R_drewN | apply Kd.R_drew)); exact Kd.R_mono HO_7.out (fun _ hk => trivial)⟩, ⟨by (with_reducible repeat (first | apply Kd.S_alloc | apply Kd.S_drewN | apply Kd.S_drew)); exact HO641.out⟩, ⟨by repeat (first | (with_reducible first | exact HB.out | apply bA_ | apply bN_ | apply bD_) | exact HB.out)⟩⟩
            ·rw [if_neg c14] at H
             exact absurd H (by simp)
           ·rw [if_neg c12] at H
            exact absurd H (by simp)
          ·rw [if_neg c11] at H
           exact absurd H (by simp)
         ·rw [if_neg c10] at H
          exact absurd H (by simp)
        ·rw [if_neg c8] at H
         exact absurd H (by simp)
       ·rw [if_neg c7] at H
        exact absurd H (by simp)
      ·rw [if_neg c6] at H
       have c6b0 : decide (x22_2 < (l0.length : Int)) = false := decide_eq_false c6
       clear c6
       replace H := Option.bind_eq_some_iff.mp H
       obtain ⟨t642, A190, H⟩ := H
       replace H : (if x7_2.length < 17592186044416 then (spec_hiSolve.l0 k2 l0 l1 t632 (x7_2 ++ [t642]) (l0.length : Int) (wrap64 (x17_1 + 1))) else (none)) = some (r1, r2) := H
       have A19 := Aside0.mk A190
       clear A190
       by_cases c20 : x7_2.length < 17592186044416
       ·rw [if_pos c20] at H
        have LMc20 := Aside0.mk c20
        clear c20
        obtain ⟨y643, hy643⟩ : ∃ y_ : List Int, y_ = (x7_2 ++ [t642]) := ⟨_, rfl⟩
        replace H : (spec_hiSolve.l0 k2 l0 l1 t632 y643 (l0.length : Int) (wrap64 (x17_1 + 1))) = some (r1, r2) := by first | (rw [hy643]; with_reducible exact H) | (have H2_ := (Option.bind_some _ _).symm.trans H; rw [hy643]; with_reducible exact H2_) | (have H2_ := (Option.bind_some _ _).symm.trans H; with_reducible exact H2_) | with_reducible exact H | (rw [hy643]; exact H) | exact H
        have Ny643 := Aside0.mk hy643
        clear hy643
        have H' := Aside0.mk H
        clear H
        obtain ⟨Ao21, co21, eo21⟩ := Kd.S_slice HO_9.out
        subst eo21
        go_wp2_with (first | ((with_reducible refine gate_callee (f := 116) rfl ?_); refine goesL_ (some 43) rfl rfl Try.func116 (by kernel_rfl) rfl #[.slice Ao21 x9_2.length co21] rfl (by (try simp only [List.map_toArray, List.map_cons, List.map_nil]); first | done | rfl | (simp only [List.length_drop, List.length_take]; rfl)) ?_; (with_reducible refine (spec_trDet.calls k2 _ _ x9_2 t642 _ ?side1 ?side2 A19.out).mono ?_); (case side1 => repeat (first | exact (Kd.S_reads' HO_9.out).2.2 | (with_reducible refine Kd.C_alloc ?_ _) | (with_reducible refine Kd.C_drewN ?_ _) | (with_reducible refine Kd.C_drew ?_))); (case side2 => exact (Kd.S_reads' HO_9.out).2.1); rintro e w22 ⟨rfl, hb⟩; refine ⟨_, rfl, ?_⟩; have n0_ := Aside0.mk (Kd.R_below (by (with_reducible repeat (first | apply Kd.R_alloc | apply Kd.R_drewN | apply Kd.R_drew)); exact HO_7.out) hb); have n1_ := Aside0.mk (Kd.S_below (by (with_reducible repeat (first | apply Kd.S_alloc | apply Kd.S_drewN | apply Kd.S_drew)); exact HO_9.out) hb); have n2_ := Aside0.mk (bP_ (by repeat (first | (with_reducible first | exact HB.out | apply bA_ | apply bN_ | apply bD_) | exact HB.out)) hb); clear HO_7; clear HO_9; clear HB; have HO_7 := n0_; have HO_9 := n1_; have HB := n2_; clear n0_ n1_ n2_; (try clear hb); (try clear hb2); (try clear hk); (try clear hi)) | ((with_reducible refine gate_builtin (b := .append) (xs := #[.tmp 41, .tmp 44]) rfl ?_); at_builtin; refine Kd.R_append (Kd.int .i64) (w0 := w) w.heap.size rfl (.tmp 41) (.tmp 44) 37 3 (.int .i64 0) 8 rfl Try.underlying37 info3 rfl (by decide) (by omega) u7 x7_2 t642 [.int .i64 t642] (fun _ => True) (fun _ => False) rfl rfl ?aP (fun _ hk => hk.elim) ?aF ?aO ?aB ?aS ?aL ?_; (case aP => exact rfl); (case aB => exact (by repeat (first | (with_reducible first | exact HB.out | apply bA_ | apply bN_ | apply bD_) | exact HB.out))); (case aF => exact (fun _ _ => trivial)); (case aO => exact (by (with_reducible repeat (first | apply Kd.R_alloc | apply Kd.R_drewN | apply Kd.R_drew)); exact HO_7.out)); (case aS => exact (bZ_ (by repeat (first | (with_reducible first | exact HB.out | apply bA_ | apply bN_ | apply bD_) | exact HB.out)))); (case aL => have := LMc20.out; omega); intro v644 w23 ho hb hg hat; rw [← Ny643.out] at ho; have n0_ := Aside0.mk (Kd.S_after (ok := (fun _ => True)) (by (with_reducible repeat (first | apply Kd.S_alloc | apply Kd.S_drewN | apply Kd.S_drew)); exact Kd.S_mono HO_9.out (fun _ hk => ⟨trivial, hk⟩)) hg hat); have n1_ := Aside0.mk (hb); have n2_ := Aside0.mk (ho); clear HO_9; clear HB; clear HO_7; have HO_9 := n0_; have HB := n1_; have HO645 := n2_; clear n0_ n1_ n2_; clear ho hb hg hat))
        go_roundg k2
        case measure => have := HK1.out; have := HK2.out; omega
        case rel => exact ⟨(y643), (wrap64 (x17_1 + 1)), (by first | rfl | (simp; done) | (simp [*]; done)), H', ⟨by have := HK1.out; have := HK2.out; omega⟩, ⟨by (with_reducible repeat (first | apply Kd.R_alloc | apply Kd.R_drewN | apply Kd.R_drew)); exact HO645.out⟩, ⟨by repeat (first | (with_reducible first | exact HB.out | apply bA_ | apply bN_ | apply bD_) | exact HB.out)⟩⟩
       ·rw [if_neg c20] at H
        exact absurd H (by simp)
   ·rw [if_neg c5] at H
    have c5b0 : decide (x17_1 < (l0.length : Int)) = false := decide_eq_false c5
    clear c5
    simp only [Option.some.injEq, Prod.mk.injEq] at H
    obtain ⟨rfl, rfl⟩ := H
    go_wp2
    go_ret2
    exact ⟨_, by first | rfl | (simp [errW_none, errW_some] <;> rfl) | (simp [*, errW_none, errW_some] <;> rfl), by (with_reducible repeat (first | apply Kd.R_alloc | apply Kd.R_drewN | apply Kd.R_drew)); exact HO_7.out, by repeat (first | (with_reducible first | exact HB.out | apply bA_ | apply bN_ | apply bD_) | exact HB.out)⟩
end Go.Proofs.Ytnbnalbomflafaa.GR
namespace Go.Proofs.Ytnbnalbomflafaa.RA
open Go.RowKit YtnbnalbomflafaaW.PrintWords YtnbnalbomflafaaW.PrintLast YtnbnalbomflafaaW.PrintMore
open GA
open GD hiding rd_L1 at_L1
theorem wrap_id {x : Int} (h0 : -9223372036854775808 ≤ x) (h1 : x ≤ 9223372036854775807) : wrap64 x = x := by unfold wrap64; omega
theorem rd_at (l : List Int) (i : Nat) (h : i < l.length) : rd l (i : Int) = l[i] := by
 unfold rd
 rw [Int.toNat_natCast, List.getD_eq_getElem?_getD, List.getElem?_eq_getElem h]
 rfl
theorem eqIntS_loop (l : List Int) (hn : l.length ≤ 1000000000000) (d : Nat) : ∀ (k i : Nat), i + d = l.length → d < k → laws_eqIntS.l0 k l l (i : Int) = some true := by
 induction d with
 | zero =>
  intro k i hi hk
  obtain ⟨k, rfl⟩ : ∃ m, k = m + 1 := ⟨k - 1, by omega⟩
  simp only [laws_eqIntS.l0]
  rw [if_neg (by omega)]
 | succ d ih =>
  intro k i hi hk
  obtain ⟨k, rfl⟩ : ∃ m, k = m + 1 := ⟨k - 1, by omega⟩
  simp only [laws_eqIntS.l0]
  have e2 : wrap64 ((i : Int) + 1) = ((i + 1 : Nat) : Int) := by rw [wrap_id (by omega) (by omega)]; omega
  rw [if_pos (by omega), if_pos (by omega), if_pos (by omega), if_pos trivial, e2]
  exact ih k (i + 1) (by omega) (by omega)
theorem eqIntS_refl (l : List Int) (hn : l.length ≤ 1000000000000) (k : Nat) (hk : l.length < k) : laws_eqIntS.f k l l = some true := by
 unfold laws_eqIntS.f
 rw [if_pos rfl]
 exact eqIntS_loop l hn l.length k 0 (by omega) hk
abbrev encI (r : List Int) : List Value := r.map (Value.int .i64)
def RowsL (w : World) (base : Nat) (rows : List (List Int)) (L : List Value) : Prop :=
 (∀ (i : Nat) (r : List Int), rows[i]? = some r → ∃ v, L[i]? = some v ∧ w.ownsRow base 3 1 v r.length (encI r)) ∧ ∀ (i j : Nat) (v u : Value) (k : Nat), L[i]? = some v → L[j]? = some u → i ≠ j → v.ownBlock = some k → u.ownBlock ≠ some k
def RowsD (w : World) (base : Nat) (vc : Value) (rows : List (List Int)) : Prop := ∃ L, w.ownsRow base 37 1 vc rows.length L ∧ RowsL w base rows L
section
variable {w w1 : World} {base : Nat} {vc : Value} {rows : List (List Int)} {L : List Value}
theorem RowsL.move (h : RowsL w base rows L) (hn : L.length = rows.length) (e : ∀ (i : Nat) (v : Value) (k : Nat), L[i]? = some v → v.ownBlock = some k → w1.heap[k]? = w.heap[k]?) : RowsL w1 base rows L := by
 refine ⟨fun i r hr => ?_, h.2⟩
 obtain ⟨v, h1, h2⟩ := h.1 i r hr
 exact ⟨v, h1, own_move h2 fun k hk => e i v k h1 hk⟩
theorem own_len {e : TypeId} {size n : Nat} (h : w.ownsRow base e size vc n L) : L.length = n * size := h.1
theorem RowsL.row (h : RowsL w base rows L) (hn : L.length = rows.length) {i : Nat} {v : Value} (hv : L[i]? = some v) : ∃ r, rows[i]? = some r ∧ w.ownsRow base 3 1 v r.length (encI r) := by
 have hi : i < rows.length := by rw [← hn]; exact (List.getElem?_eq_some_iff.1 hv).1
 obtain ⟨u, h1, h2⟩ := h.1 i rows[i] (List.getElem?_eq_getElem hi)
 rw [hv] at h1
 cases h1
 exact ⟨_, List.getElem?_eq_getElem hi, h2⟩
theorem RowsL.blk (h : RowsL w base rows L) (hn : L.length = rows.length) {i k : Nat} {v : Value} (hv : L[i]? = some v) (hk : v.ownBlock = some k) : base ≤ k ∧ k < w.heap.size ∧ ∃ cells, w.heap[k]? = some (.cells cells 3 (0, 0)) := by
 obtain ⟨r, _, ho⟩ := h.row hn hv
 exact ⟨own_base ho k hk, own_lt ho k hk, own_typed ho k hk⟩
theorem RowsD.nil (w : World) (base : Nat) : RowsD w base (.slice none 0 0) [] := ⟨[], own_nil _ _ _ _, fun i r h => by simp at h, fun i j v u k h => by simp at h⟩
theorem RowsD.keep (h : RowsD w base vc rows) (e : ∀ b, b < w.heap.size → w1.heap[b]? = w.heap[b]?) : RowsD w1 base vc rows := by
 obtain ⟨L, h1, h2⟩ := h
 have hn : L.length = rows.length := by have := own_len h1; omega
 exact ⟨L, own_move h1 (fun k hk => e k (own_lt h1 k hk)), h2.move hn fun i v k hv hk => e k (h2.blk hn hv hk).2.1⟩
theorem rowI_reads {v : Value} {r : List Int} (h : w.ownsRow base 3 1 v r.length (encI r)) : ∃ A c, v = .slice A r.length c ∧ r.length ≤ c ∧ Kd.C (Kd.int .i64) w A r.length r :=
 Kd.R_reads (Kd.R_of_own (ok := fun _ => True) h (fun _ _ => trivial))
theorem rows_reads (ho : w.ownsRow base 37 1 vc rows.length L) (h : ∀ (i : Nat) (r : List Int), rows[i]? = some r → ∃ v, L[i]? = some v ∧ ∃ A c, v = .slice A r.length c ∧ r.length ≤ c ∧ Kd.C (Kd.int .i64) w A r.length r) :
  ∃ A c, vc = .slice A rows.length c ∧ rows.length ≤ c ∧ Kd.C (Kd.slice 3 (Kd.int .i64)) w A rows.length rows := by
 have hn : L.length = rows.length := by have := own_len ho; omega
 have hR : Reps (fun p c => (Kd.slice 3 (Kd.int .i64)).K w p c) 1 rows L := ⟨by omega, fun j p hp => by
  obtain ⟨v, h1, A, c, h2, h3, h4⟩ := h j p hp
  refine ⟨A, c, ?_, h3, h4⟩
  have hj := (List.getElem?_eq_some_iff.1 h1).1
  have e : L[j] = v := by rw [List.getElem?_eq_getElem hj] at h1; exact Option.some.inj h1
  rw [Nat.mul_one, List.drop_eq_getElem_cons hj, e, h2]
  rfl⟩
 obtain ⟨A, c, he, hr⟩ := own_reads_row ho hR rfl
 refine ⟨A, c, he, ?_, hr⟩
 rcases ho.2 with ⟨h1, h2⟩ | ⟨g, cap, cur, h1, _, _, h3, _⟩
 ·rw [h1] at he
  injection he with _ e2 e3
  omega
 ·rw [h1] at he
  injection he with _ e2 e3
  omega
theorem RowsD.reads (h : RowsD w base vc rows) : ∃ A c, vc = .slice A rows.length c ∧ rows.length ≤ c ∧ Kd.C (Kd.slice 3 (Kd.int .i64)) w A rows.length rows := by
 obtain ⟨L, h1, h2⟩ := h
 refine rows_reads h1 fun i r hr => ?_
 obtain ⟨v, q1, q2⟩ := h2.1 i r hr
 exact ⟨v, q1, rowI_reads q2⟩
theorem RowsD.app {vc' v : Value} {r : List Int} (h1 : w.ownsRow base 37 1 vc rows.length L) (h2 : RowsL w base rows L) (hv : w1.ownsRow base 3 1 v r.length (encI r)) (hf : ∀ k, v.ownBlock = some k → w.heap.size ≤ k) (ho : w1.ownsRow base 37 1 vc' (rows.length + 1) (L ++ [v])) (e : ∀ b, b < w.heap.size → some b ≠ vc.ownBlock → w1.heap[b]? = w.heap[b]?) : RowsD w1 base vc' (rows ++ [r]) := by
 have hn : L.length = rows.length := by have := own_len h1; omega
 refine ⟨L ++ [v], by rw [List.length_append, List.length_singleton]; exact ho, fun i s hs => ?_, fun i j x y k hx hy hij hk => ?_⟩
 ·rcases Nat.lt_trichotomy i rows.length with hi | hi | hi
  ·rw [List.getElem?_append_left hi] at hs
   obtain ⟨u, q1, q2⟩ := h2.1 i s hs
   refine ⟨u, by rw [List.getElem?_append_left (by omega)]; exact q1, own_move q2 fun k hk => e k (own_lt q2 k hk) (fun c => ?_)⟩
   obtain ⟨cells, hc⟩ := own_typed q2 k hk
   obtain ⟨cells2, hc2⟩ := own_typed h1 k c.symm
   rw [hc] at hc2
   simp at hc2
  ·subst hi
   rw [List.getElem?_append_right (Nat.le_refl _)] at hs
   simp at hs
   subst hs
   exact ⟨v, by rw [List.getElem?_append_right (by omega), hn]; simp, hv⟩
  ·rw [List.getElem?_append_right (by omega)] at hs
   rw [List.getElem?_eq_none (by simp; omega)] at hs
   cases hs
 ·have aux : ∀ (a : Nat) (x : Value), (L ++ [v])[a]? = some x → (a < rows.length ∧ L[a]? = some x) ∨ (a = rows.length ∧ x = v) := fun a x hx => by
   rcases Nat.lt_trichotomy a rows.length with ha | ha | ha
   ·rw [List.getElem?_append_left (by omega)] at hx
    exact .inl ⟨ha, hx⟩
   ·rw [List.getElem?_append_right (by omega), ha, hn] at hx
    simp at hx
    exact .inr ⟨ha, hx.symm⟩
   ·rw [List.getElem?_append_right (by omega), List.getElem?_eq_none (by simp; omega)] at hx
    cases hx
  rcases aux i x hx with ⟨hi, hx2⟩ | ⟨hi, rfl⟩ <;> rcases aux j y hy with ⟨hj, hy2⟩ | ⟨hj, rfl⟩
  ·exact h2.2 i j x y k hx2 hy2 hij hk
  ·intro c
   have := (h2.blk hn hx2 hk).2.1
   have := hf k c
   omega
  ·intro c
   have := (h2.blk hn hy2 c).2.1
   have := hf k hk
   omega
  ·omega
theorem RowsD.at (h : w.ownsRow base 37 1 vc rows.length L) {i : Nat} {v : Value} (hv : L[i]? = some v) : ∃ g cap, vc = .slice (some ⟨g, 0, none⟩) rows.length cap ∧ base ≤ g ∧ w.cell? ⟨g, i, none⟩ = some v ∧ w.frozen? ⟨g, i, none⟩ = false := by
 have hi := (List.getElem?_eq_some_iff.1 hv).1
 have hn := own_len h
 rcases h.2 with ⟨h1, h2⟩ | ⟨g, cap, cur, h1, hb, hh, h3, h4, h5, h6⟩
 ·omega
 ·refine ⟨g, cap, h1, hb, (blk_cell hh i).trans ?_, kF_ hh i⟩
  rw [← h6, List.getElem?_take] at hv
  split at hv
  ·simpa using hv
  ·cases hv
theorem RowsD.put (h1 : w.ownsRow base 37 1 vc rows.length L) (h2 : RowsL w base rows L) {i : Nat} {v : Value} {r : List Int} (hi : L[i]? = some v) (hv : w1.ownsRow base 3 1 v r.length (encI r)) (e : ∀ b, b < w.heap.size → v.ownBlock ≠ some b → w1.heap[b]? = w.heap[b]?) :
  w1.ownsRow base 37 1 vc (rows.set i r).length L ∧ RowsL w1 base (rows.set i r) L := by
 have hn : L.length = rows.length := by have := own_len h1; omega
 have hil : i < rows.length := by rw [← hn]; exact (List.getElem?_eq_some_iff.1 hi).1
 rw [List.length_set]
 refine ⟨own_move h1 (fun k hk => e k (own_lt h1 k hk) (fun c => ?_)), fun j s hs => ?_, h2.2⟩
 ·obtain ⟨_, _, cells, hc⟩ := h2.blk hn hi c
  obtain ⟨cells2, hc2⟩ := own_typed h1 k hk
  rw [hc] at hc2
  simp at hc2
 ·by_cases q : i = j
  ·subst q
   rw [List.getElem?_set_self hil] at hs
   cases hs
   exact ⟨v, hi, hv⟩
  ·rw [List.getElem?_set_ne q] at hs
   obtain ⟨u, q1, q2⟩ := h2.1 j s hs
   exact ⟨u, q1, own_move q2 fun k hk => e k (own_lt q2 k hk) (fun c => h2.2 i j v u k hi q1 q c hk)⟩
end
theorem oneCell_own {w : World} {base n : Nat} {e : TypeId} {size : Nat} {v : Value} {xs : List Value} (h : w.ownsRow base e size v n xs) : v.oneCell' = true := by
 rcases h.2 with ⟨rfl, _⟩ | ⟨g, cap, cur, rfl, _⟩ <;> rfl
def tot : List (List Int) → Int
 | [] => 0
 | r :: rs => (r.length : Int) + tot rs
theorem tot_pos : ∀ rs, 0 ≤ tot rs
 | [] => Int.le_refl _
 | r :: rs => by have := tot_pos rs; unfold tot; omega
theorem tot_app : ∀ a b, tot (a ++ b) = tot a + tot b
 | [], b => by simp [tot]
 | r :: a, b => by
  have := tot_app a b
  simp only [List.cons_append, tot, this]
  omega
theorem tot_take {rows : List (List Int)} {i : Nat} (hi : i < rows.length) : tot (rows.take (i + 1)) = tot (rows.take i) + (rows[i].length : Int) := by
 rw [List.take_succ_eq_append_getElem hi, tot_app]
 simp [tot]
theorem tot_le (rows : List (List Int)) (i : Nat) : tot (rows.take i) ≤ tot rows := by
 have h := tot_app (rows.take i) (rows.drop i)
 rw [List.take_append_drop] at h
 have := tot_pos (rows.drop i)
 omega
theorem RowsD.slice {w : World} {base : Nat} {vc : Value} {rows : List (List Int)} (h : RowsD w base vc rows) : ∃ A c, vc = .slice A rows.length c ∧ rows.length ≤ c := by
 obtain ⟨A, c, h1, h2, _⟩ := h.reads
 exact ⟨A, c, h1, h2⟩
theorem rdL_at (l : List (List Int)) (i : Nat) (h : i < l.length) : rd_L1 l (i : Int) = l[i] := by
 unfold rd_L1
 rw [Int.toNat_natCast, List.getD_eq_getElem?_getD, List.getElem?_eq_getElem h]
 rfl
theorem eqIntSS_loop (l : List (List Int)) (hn : l.length ≤ 10000000) (N : Nat) (hN : ∀ r ∈ l, r.length ≤ N) (hN2 : N ≤ 10000000) (d : Nat) : ∀ (k i : Nat), i + d = l.length → N + d + 1 < k → laws_eqIntSS.l0 k l l (i : Int) = some true := by
 induction d with
 | zero =>
  intro k i hi hk
  obtain ⟨k, rfl⟩ : ∃ m, k = m + 1 := ⟨k - 1, by omega⟩
  simp only [laws_eqIntSS.l0]
  rw [if_neg (by omega)]
 | succ d ih =>
  intro k i hi hk
  obtain ⟨k, rfl⟩ : ∃ m, k = m + 1 := ⟨k - 1, by omega⟩
  have hin : i < l.length := by omega
  simp only [laws_eqIntSS.l0]
  have e2 : wrap64 ((i : Int) + 1) = ((i + 1 : Nat) : Int) := by rw [wrap_id (by omega) (by omega)]; omega
  have h3 := hN _ (List.getElem_mem hin)
  rw [if_pos (by omega), if_pos (by omega), if_pos (by omega), rdL_at l i hin, eqIntS_refl l[i] (by omega) k (by omega)]
  simp only [Option.bind_some, if_true]
  rw [e2]
  exact ih k (i + 1) (by omega) (by omega)
theorem eqIntSS_refl (l : List (List Int)) (hn : l.length ≤ 10000000) (N : Nat) (hN : ∀ r ∈ l, r.length ≤ N) (hN2 : N ≤ 10000000) : laws_eqIntSS.f (N + l.length + 2) l l = some true := by
 unfold laws_eqIntSS.f
 rw [if_pos rfl]
 exact eqIntSS_loop l hn N hN hN2 l.length _ 0 (by omega) (by omega)
def RowsC (w : World) (vc : Value) (rows : List (List Int)) : Prop := ∃ A c, vc = .slice A rows.length c ∧ rows.length ≤ c ∧ Kd.C (Kd.slice 3 (Kd.int .i64)) w A rows.length rows
theorem RowsC.below {w w1 : World} {vc : Value} {rows : List (List Int)} (h : RowsC w vc rows) (hB : Below w.heap.size w w1) : RowsC w1 vc rows := by
 obtain ⟨A, c, h1, h2, h3⟩ := h
 exact ⟨A, c, h1, h2, Kd.C_below h3 hB⟩
theorem RowsD.upto {w w1 : World} {base n : Nat} {vc : Value} {rows : List (List Int)} (h : RowsD w base vc rows) (hB : Below w.heap.size w w1) : ∀ (L : List Value) (i : Nat) (v : Value) (k : Nat), w1.ownsRow n 37 1 vc rows.length L → L[i]? = some v → v.ownBlock = some k → k < w.heap.size := by
 intro L i v k hL hv hk
 obtain ⟨L2, h1, h2⟩ := h
 have e : L = L2 := by
  have h3 : w1.ownsRow base 37 1 vc rows.length L2 := own_move h1 fun b hb => hB.block b (own_lt h1 b hb)
  rcases hL.2 with ⟨q1, q2⟩ | ⟨g, cap, cur, q1, _, q3, _, _, _, q7⟩
  ·have l1 := hL.1
   have l2 := h3.1
   rw [q2] at l1 l2
   simp at l1 l2
   rw [l1, l2]
  ·rcases h3.2 with ⟨p1, _⟩ | ⟨g2, cap2, cur2, p1, _, p3, _, _, _, p7⟩
   ·rw [q1] at p1; cases p1
   ·rw [q1] at p1
    injection p1 with p1 _ _
    injection p1 with p1
    injection p1 with p1
    subst p1
    rw [q3] at p3
    simp at p3
    subst p3
    rw [← q7, ← p7]
 subst e
 have hn : L.length = rows.length := by have := own_len h1; omega
 exact (h2.blk hn hv hk).2.1
theorem rowsD_of_S {w : World} {base : Nat} {ok : Nat → Prop} {v : Value} {rows : List (List Int)} (h : Kd.S (Kd.slice 3 (Kd.int .i64)) 37 w base ok v rows) : RowsD w base v rows := by
 obtain ⟨f, h0, inner, ho, hr⟩ := h
 rw [List.length_zipIdx] at ho
 have hl : inner.length = rows.length := by have h1 : inner.length = rows.length * 1 := ho.1; omega
 have hat : ∀ (i : Nat) (r : List Int), rows[i]? = some r → ∃ u, inner[i]? = some u ∧ w.ownsRow base 3 1 u r.length (encI r) ∧ ∀ k, u.ownBlock = some k → f k = i := fun i r hi => by
  obtain ⟨u, h1, h2⟩ := hr.2 i (r, i) (Kd.zip_at hi)
  have hin : i < inner.length := by rw [hl]; exact (List.getElem?_eq_some_iff.1 hi).1
  have e : inner[i] = u := by
   have h1' : (inner.drop (i * 1)).take 1 = [u] := h1
   rw [Nat.mul_one, List.drop_eq_getElem_cons hin, List.take_succ_cons, List.take_zero] at h1'
   exact (List.cons.inj h1').1
  refine ⟨u, by rw [List.getElem?_eq_getElem hin, e], Kd.own_of_R h2, fun k hk => (h2.1 k hk).2⟩
 refine ⟨inner, ho, fun i r hi => ?_, fun i j x y k hx hy hij hk hk2 => ?_⟩
 ·obtain ⟨u, h1, h2, _⟩ := hat i r hi
  exact ⟨u, h1, h2⟩
 ·have hi : i < rows.length := by rw [← hl]; exact (List.getElem?_eq_some_iff.1 hx).1
  have hj : j < rows.length := by rw [← hl]; exact (List.getElem?_eq_some_iff.1 hy).1
  obtain ⟨u, h1, _, h3⟩ := hat i _ (List.getElem?_eq_getElem hi)
  obtain ⟨u2, h4, _, h5⟩ := hat j _ (List.getElem?_eq_getElem hj)
  rw [hx] at h1
  rw [hy] at h4
  cases h1
  cases h4
  exact hij ((h3 k hk).symm.trans (h5 k hk2))
def szR : List (List Int) → Int → Int
 | [], a => a
 | r :: rs, a => if a - (r.length : Int) < 0 then -1 else szR rs (a - (r.length : Int))
theorem szR_is : ∀ (rs : List (List Int)) (a : Int), 0 ≤ a → szR rs a = -1 ∨ (szR rs a = a - tot rs ∧ tot rs ≤ a)
 | [], a, h => .inr ⟨by simp [szR, tot], by simpa [tot] using h⟩
 | r :: rs, a, h => by
  unfold szR
  split
  ·exact .inl rfl
  ·rcases szR_is rs (a - (r.length : Int)) (by omega) with h1 | ⟨h1, h2⟩
   ·exact .inl h1
   ·exact .inr ⟨by rw [h1]; simp only [tot]; omega, by simp only [tot]; omega⟩
theorem szI_is (r : List Int) (a : Int) (h : 0 ≤ a ∧ a ≤ 1048576) (hl : (r.length : Int) ≤ 9223372036854775807) : laws_szIntS.f r a = some (if a - (r.length : Int) < 0 then -1 else a - (r.length : Int)) := by
 unfold laws_szIntS.f
 rw [wrap_id (x := a - (r.length : Int)) (by omega) (by omega)]
 split <;> rfl
theorem szSS_loop (rows : List (List Int)) (hl : (rows.length : Int) ≤ 1048576) (hr : ∀ r ∈ rows, (r.length : Int) ≤ 9223372036854775807) (d : Nat) : ∀ (k i : Nat) (a : Int), i + d = rows.length → d < k → 0 ≤ a → a ≤ 1048576 → laws_szIntSS.l0 k rows a (i : Int) = some (szR (rows.drop i) a) := by
 induction d with
 | zero =>
  intro k i a hi hk h0 h1
  obtain ⟨k, rfl⟩ : ∃ m, k = m + 1 := ⟨k - 1, by omega⟩
  simp only [laws_szIntSS.l0]
  rw [if_neg (by omega), List.drop_eq_nil_of_le (by omega)]
  rfl
 | succ d ih =>
  intro k i a hi hk h0 h1
  obtain ⟨k, rfl⟩ : ∃ m, k = m + 1 := ⟨k - 1, by omega⟩
  have hin : i < rows.length := by omega
  simp only [laws_szIntSS.l0]
  have e2 : wrap64 ((i : Int) + 1) = ((i + 1 : Nat) : Int) := by rw [wrap_id (by omega) (by omega)]; omega
  have e3 : rd_L1 rows (i : Int) = rows[i] := rdL_at rows i hin
  rw [if_pos (by omega), if_pos (by omega), e3, szI_is _ _ ⟨h0, h1⟩ (hr _ (List.getElem_mem hin)), List.drop_eq_getElem_cons hin]
  simp only [Option.bind_some]
  by_cases q : a - (rows[i].length : Int) < 0
  ·rw [if_pos q, if_pos (by decide)]
   unfold szR
   rw [if_pos q]
  ·rw [if_neg q, if_neg q, e2, ih k (i + 1) _ (by omega) (by omega) (by omega) (by omega)]
   conv => rhs; unfold szR
   rw [if_neg q]
theorem toS_loop (l : List Int) (hn : l.length ≤ 1048576) (d : Nat) : ∀ (k i : Nat) (x : List Int), x.length = l.length → i + d = l.length → d < k → x.take i = l.take i → laws_toIntS.l0 k l x (i : Int) = some l := by
 induction d with
 | zero =>
  intro k i x hx hi hk ht
  obtain ⟨k, rfl⟩ : ∃ m, k = m + 1 := ⟨k - 1, by omega⟩
  simp only [laws_toIntS.l0]
  rw [if_neg (by omega)]
  rw [List.take_of_length_le (by omega), List.take_of_length_le (by omega)] at ht
  rw [ht]
 | succ d ih =>
  intro k i x hx hi hk ht
  obtain ⟨k, rfl⟩ : ∃ m, k = m + 1 := ⟨k - 1, by omega⟩
  have hin : i < l.length := by omega
  simp only [laws_toIntS.l0]
  have e2 : wrap64 ((i : Int) + 1) = ((i + 1 : Nat) : Int) := by rw [wrap_id (by omega) (by omega)]; omega
  rw [if_pos (by omega), if_pos (by omega), if_pos (by omega), e2, rd_at l i hin, Int.toNat_natCast]
  refine ih k (i + 1) _ (by simpa using hx) (by omega) (by omega) ?_
  rw [List.take_succ_eq_append_getElem (by rw [List.length_set]; omega), List.take_set_of_le (by omega), ht, List.take_succ_eq_append_getElem hin]
  simp
theorem toS_is (l : List Int) (hn : l.length ≤ 1048576) (k : Nat) (hk : l.length < k) : laws_toIntS.f k l = some l := by
 unfold laws_toIntS.f
 rw [if_pos (by omega), if_pos (by omega), Int.toNat_natCast]
 exact toS_loop l hn l.length k 0 _ (by simp) (by omega) hk (by simp)
theorem toSS_loop (l : List (List Int)) (hn : l.length ≤ 1048576) (hr : ∀ r ∈ l, r.length ≤ 1048576) (d : Nat) : ∀ (k i : Nat) (x : List (List Int)), x.length = l.length → i + d = l.length → 1048576 + d + 1 < k → x.take i = l.take i → laws_toIntSS.l0 k l x (i : Int) = some l := by
 induction d with
 | zero =>
  intro k i x hx hi hk ht
  obtain ⟨k, rfl⟩ : ∃ m, k = m + 1 := ⟨k - 1, by omega⟩
  simp only [laws_toIntSS.l0]
  rw [if_neg (by omega)]
  rw [List.take_of_length_le (by omega), List.take_of_length_le (by omega)] at ht
  rw [ht]
 | succ d ih =>
  intro k i x hx hi hk ht
  obtain ⟨k, rfl⟩ : ∃ m, k = m + 1 := ⟨k - 1, by omega⟩
  have hin : i < l.length := by omega
  simp only [laws_toIntSS.l0]
  have e2 : wrap64 ((i : Int) + 1) = ((i + 1 : Nat) : Int) := by rw [wrap_id (by omega) (by omega)]; omega
  have e3 : rd_L1 l (i : Int) = l[i] := rdL_at l i hin
  have h1 := hr _ (List.getElem_mem hin)
  rw [if_pos (by omega), if_pos (by omega), e3, toS_is l[i] h1 k (by omega)]
  simp only [Option.bind_some]
  rw [if_pos (by omega), e2, Int.toNat_natCast]
  refine ih k (i + 1) _ (by simpa using hx) (by omega) (by omega) ?_
  rw [List.take_succ_eq_append_getElem (by rw [List.length_set]; omega), List.take_set_of_le (by omega), ht, List.take_succ_eq_append_getElem hin]
  simp
theorem toSS_is (l : List (List Int)) (hn : l.length ≤ 1048576) (hr : ∀ r ∈ l, r.length ≤ 1048576) : laws_toIntSS.f (1048576 + l.length + 2) l = some l := by
 unfold laws_toIntSS.f
 rw [if_pos (by omega), if_pos (by omega), Int.toNat_natCast]
 exact toSS_loop l hn hr l.length _ 0 _ (by simp) (by omega) (by omega) (by simp)
theorem tot_mem {rows : List (List Int)} : ∀ r ∈ rows, (r.length : Int) ≤ tot rows := fun r hr => by
 obtain ⟨i, hi, rfl⟩ := List.mem_iff_getElem.1 hr
 have h1 := tot_take hi
 have h2 := tot_le rows (i + 1)
 have h3 := tot_pos (rows.take i)
 omega
def RowsU (w : World) (base u : Nat) (vc : Value) (rows : List (List Int)) : Prop := RowsD w base vc rows ∧ (∀ k, vc.ownBlock = some k → k < u) ∧ ∀ (L : List Value) (i : Nat) (v : Value) (k : Nat), w.ownsRow base 37 1 vc rows.length L → L[i]? = some v → v.ownBlock = some k → k < u
theorem RowsD.toU {w : World} {base : Nat} {vc : Value} {rows : List (List Int)} (h : RowsD w base vc rows) : RowsU w base w.heap.size vc rows :=
 ⟨h, fun k hk => by obtain ⟨L, h1, _⟩ := h; exact own_lt h1 k hk, h.upto (Below.refl _ _)⟩
theorem RowsU.reads {w : World} {base u : Nat} {vc : Value} {rows : List (List Int)} (h : RowsU w base u vc rows) : RowsC w vc rows := h.1.reads
theorem RowsU.moveIn {w w1 : World} {base u : Nat} {vc : Value} {rows : List (List Int)} (h : RowsU w base u vc rows) (e : ∀ b, base ≤ b → b < u → w1.heap[b]? = w.heap[b]?) : RowsU w1 base u vc rows := by
 obtain ⟨⟨L, h1, h2⟩, h3, h4⟩ := h
 have hn : L.length = rows.length := by have := own_len h1; omega
 refine ⟨⟨L, own_move h1 (fun k hk => e k (own_base h1 k hk) (h3 k hk)), h2.move hn fun i v k hv hk => e k (h2.blk hn hv hk).1 (h4 L i v k h1 hv hk)⟩, h3, fun L2 i v k hL hv hk => ?_⟩
 exact h4 L2 i v k (own_move hL fun k hk => (e k (own_base hL k hk) (h3 k hk)).symm) hv hk
theorem RowsU.below {w w1 : World} {base u : Nat} {vc : Value} {rows : List (List Int)} (h : RowsU w base u vc rows) (hu : u ≤ w.heap.size) (hB : Below w.heap.size w w1) : RowsU w1 base u vc rows := h.moveIn fun b _ hb => hB.block b (by omega)
theorem RowsU.drewN {w : World} {base u : Nat} {vc : Value} {rows : List (List Int)} (h : RowsU w base u vc rows) (n : Nat) : RowsU (w.drewN n) base u vc rows := h.moveIn fun _ _ _ => by simp
def ListD (w : World) (base : Nat) (v : Value) (l : List Int) : Prop := w.ownsRow base 3 1 v l.length (encI l)
def ListC (w : World) (v : Value) (l : List Int) : Prop := ∃ A c, v = .slice A l.length c ∧ l.length ≤ c ∧ Kd.C (Kd.int .i64) w A l.length l
def ListU (w : World) (base u : Nat) (v : Value) (l : List Int) : Prop := ListD w base v l ∧ ∀ k, v.ownBlock = some k → k < u
theorem ListC.below {w w1 : World} {v : Value} {l : List Int} (h : ListC w v l) (hB : Below w.heap.size w w1) : ListC w1 v l := by
 obtain ⟨A, c, h1, h2, h3⟩ := h
 exact ⟨A, c, h1, h2, Kd.C_below h3 hB⟩
theorem ListD.reads {w : World} {base : Nat} {v : Value} {l : List Int} (h : ListD w base v l) : ListC w v l := rowI_reads h
theorem ListD.toU {w : World} {base : Nat} {v : Value} {l : List Int} (h : ListD w base v l) : ListU w base w.heap.size v l := ⟨h, fun k hk => own_lt h k hk⟩
theorem ListU.reads {w : World} {base u : Nat} {v : Value} {l : List Int} (h : ListU w base u v l) : ListC w v l := h.1.reads
theorem ListU.moveIn {w w1 : World} {base u : Nat} {v : Value} {l : List Int} (h : ListU w base u v l) (e : ∀ b, base ≤ b → b < u → w1.heap[b]? = w.heap[b]?) : ListU w1 base u v l :=
 ⟨own_move h.1 fun k hk => e k (own_base h.1 k hk) (h.2 k hk), h.2⟩
theorem ListU.below {w w1 : World} {base u : Nat} {v : Value} {l : List Int} (h : ListU w base u v l) (hu : u ≤ w.heap.size) (hB : Below w.heap.size w w1) : ListU w1 base u v l := h.moveIn fun b _ hb => hB.block b (by omega)
theorem ListU.drewN {w : World} {base u : Nat} {v : Value} {l : List Int} (h : ListU w base u v l) (n : Nat) : ListU (w.drewN n) base u v l := h.moveIn fun _ _ _ => by simp
theorem ListC.max {w : World} {v : Value} {l : List Int} (h : ListC w v l) : (l.length : Int) ≤ 9223372036854775807 := by
 obtain ⟨A, c, _, _, h3⟩ := h
 have := h3.2.1
 omega
theorem eqIntS_calls (w : World) (v u : Value) (l : List Int) (hv : ListC w v l) (hu : ListC w u l) (hn : l.length ≤ 10000000) : Calls Try.prog 30 #[v, u] w fun e w' => e = .returned (.bool true) ∧ Drawn0 w w' := by
 obtain ⟨A, c, rfl, hc, hC⟩ := hv
 obtain ⟨A2, c2, rfl, hc2, hC2⟩ := hu
 exact laws_eqIntS.calls (l.length + 2) A c l A2 c2 l true w hC hc hC2 hc2 (eqIntS_refl l (by omega) _ (by omega))
def SmallL (l : List Int) : Prop := (l.length : Int) ≤ 1048576
theorem toIntS_calls (w : World) (v : Value) (l : List Int) (h : ListC w v l) (hn : l.length ≤ 1048576) : Calls Try.prog 28 #[v] w fun e w' => ∃ u, e = .returned u ∧ Below w.heap.size w w' ∧ Aside0 (ListD w' w.heap.size u l) := by
 obtain ⟨A, c, rfl, hc, hC⟩ := h
 refine (laws_toIntS.calls (l.length + 1) A c l l w hC hc (toS_is l hn _ (by omega))).mono ?_
 rintro e w' ⟨u, rfl, hR, hB⟩
 exact ⟨u, rfl, hB, ⟨Kd.own_of_R hR⟩⟩
def Small (l : List (List Int)) : Prop := l.length ≤ 1048576 ∧ tot l ≤ 1048576 ∧ ∀ r ∈ l, r.length ≤ 1048576
theorem RowsC.maxs {w : World} {vc : Value} {rows : List (List Int)} (h : RowsC w vc rows) : (rows.length : Int) ≤ 9223372036854775807 ∧ ∀ r ∈ rows, (r.length : Int) ≤ 9223372036854775807 := by
 obtain ⟨A, c, rfl, hc, hC⟩ := h
 refine ⟨by have := hC.2.1; omega, fun r hr => ?_⟩
 obtain ⟨i, hi, rfl⟩ := List.mem_iff_getElem.1 hr
 obtain ⟨ad, A0, c0, _, _, _, h4⟩ := at_L1 hC (i : Int) (by omega) (by omega)
 rw [rdL_at rows i hi] at h4
 have := h4.2.1
 omega
def szZ (l : List (List Int)) (x : Int) : Int := if x - (l.length : Int) < 0 then -1 else szR l (x - (l.length : Int))
theorem szZ_is (rows : List (List Int)) (x : Int) (hx : 0 ≤ x ∧ x ≤ 1048576) : szZ rows x = -1 ∨ (0 ≤ szZ rows x ∧ szZ rows x ≤ 1048576 ∧ Small rows) := by
 unfold szZ
 split
 ·exact .inl rfl
 ·rcases szR_is rows (x - (rows.length : Int)) (by omega) with h1 | ⟨h1, h2⟩
  ·exact .inl h1
  ·have h3 := tot_pos rows
   refine .inr ⟨by omega, by omega, by omega, by omega, fun r hr => ?_⟩
   have := tot_mem r hr
   omega
theorem szSS_f (rows : List (List Int)) (x : Int) (hx : 0 ≤ x ∧ x ≤ 1048576) (hl : (rows.length : Int) ≤ 9223372036854775807) (hr : ∀ r ∈ rows, (r.length : Int) ≤ 9223372036854775807) : laws_szIntSS.f (rows.length + 1) rows x = some (szZ rows x) := by
 unfold laws_szIntSS.f szZ
 rw [wrap_id (x := x - (rows.length : Int)) (by omega) (by omega)]
 by_cases q : x - (rows.length : Int) < 0
 ·rw [if_pos q, if_pos q]
 ·rw [if_neg q, if_neg q]
  have := szSS_loop rows (by omega) hr rows.length (rows.length + 1) 0 (x - (rows.length : Int)) (by omega) (by omega) (by omega) (by omega)
  rw [show ((0 : Nat) : Int) = 0 from rfl, List.drop_zero] at this
  exact this
def FitsL (R : List Int) : Prop := R.length ≤ 1000000
theorem eqL_c (w : World) (v u : Value) (l : List Int) (hv : ListC w v l) (hu : ListC w u l) (hs : SmallL l) : Calls Try.prog 30 #[v, u] w fun e w' => e = .returned (.bool true) ∧ Drawn0 w w' :=
 eqIntS_calls w v u l hv hu (by unfold SmallL at hs; omega)
end Go.Proofs.Ytnbnalbomflafaa.RA
namespace Go.Proofs.Ytnbnalbomflafaa.DT
open Go.RowKit YtnbnalbomflafaaW.PrintWords
open GR
open RA (wrap_id rd_at rdL_at)
def matF (rows : List (List Int)) : Nat → Nat → Int := fun r c => rd (GA.rd_L1 rows (r : Int)) (c : Int)
structure Sq (n : Nat) (rows : List (List Int)) : Prop where
 len : rows.length = n
 row : ∀ r ∈ rows, r.length = n
theorem Sq.at {n : Nat} {rows : List (List Int)} (h : Sq n rows) {i : Nat} (hi : i < n) : GA.rd_L1 rows (i : Int) = rows[i]'(by rw [h.len]; exact hi) ∧ (GA.rd_L1 rows (i : Int)).length = n := by
 have hl := h.len
 have e := rdL_at rows i (by omega)
 exact ⟨e, by rw [e]; exact h.row _ (List.getElem_mem _)⟩
def minorL (j : Nat) (rows : List (List Int)) : List (List Int) := (rows.drop 1).map fun r => r.take j ++ r.drop (j + 1)
theorem sq_minor {n j : Nat} {rows : List (List Int)} (h : Sq (n + 1) rows) (hj : j < n + 1) : Sq n (minorL j rows) := by
 refine ⟨by unfold minorL; simp [h.len], fun r hr => ?_⟩
 unfold minorL at hr
 obtain ⟨s, hs, rfl⟩ := List.mem_map.1 hr
 have := h.row s (List.mem_of_mem_drop hs)
 simp [this]
 omega
theorem take_skip (s : List Int) (j c : Nat) (hj : j ≤ s.length) : rd (s.take j ++ s.drop (j + 1)) (c : Int) = rd s (skip j c : Nat) := by
 unfold rd skip
 rw [Int.toNat_natCast, Int.toNat_natCast, List.getD_eq_getElem?_getD, List.getD_eq_getElem?_getD]
 by_cases hcj : c < j
 ·rw [if_pos hcj, List.getElem?_append_left (by simp; omega), List.getElem?_take_of_lt hcj]
 ·rw [if_neg hcj, List.getElem?_append_right (by simp; omega), List.getElem?_drop]
  congr 2
  simp
  omega
theorem minor_at {n j : Nat} {rows : List (List Int)} (h : Sq (n + 1) rows) (hj : j < n + 1) {r c : Nat} (hr : r < n) (hc : c < n) : matF (minorL j rows) r c = matF rows (r + 1) (skip j c) := by
 unfold matF
 have h1 := (sq_minor h hj).at hr
 have h2 := h.at (i := r + 1) (by omega)
 have hl := h.len
 have e1 : GA.rd_L1 (minorL j rows) (r : Int) = (GA.rd_L1 rows ((r + 1 : Nat) : Int)).take j ++ (GA.rd_L1 rows ((r + 1 : Nat) : Int)).drop (j + 1) := by
  rw [h1.1, h2.1]
  unfold minorL
  simp [Nat.add_comm 1 r]
 rw [e1]
 exact take_skip _ j c (by rw [h2.2]; omega)
theorem own_is (l : List Int) (h : l.length ≤ 1000000) : spec_l1Own.f l = some l := by
 unfold spec_l1Own.f
 simp only [Option.bind_some, List.nil_append, List.length_nil, Nat.zero_add]
 rw [if_pos (by omega)]
theorem trDet_l1 {n : Nat} {rows : List (List Int)} (h : Sq (n + 1) rows) (hn : n ≤ 1000) (S sgn a len jj : Int) (row : List Int) {j : Nat} (hj : j < n + 1) (d : Nat) : ∀ (k i : Nat), i + d = n →
  spec_trDet.l1 (k + d + 1) rows S sgn (j : Int) a ((minorL j rows).take i) row len jj (rows.drop 1) (n : Int) (i : Int) = (spec_trDet.f k (minorL j rows)).bind fun t => spec_trDet.l0 k rows (wrap64 (S + (wrap64 ((wrap64 (sgn * a)) * t)))) (wrap64 (-sgn)) row len (wrap64 (jj + 1)) := by
 have hl := h.len
 induction d with
 | zero =>
  intro k i hi
  have hm : (minorL j rows).length = n := (sq_minor h hj).len
  unfold spec_trDet.l1
  rw [if_neg (by omega), List.take_of_length_le (by omega)]
 | succ d ih =>
  intro k i hi
  have hm : (minorL j rows).length = n := (sq_minor h hj).len
  have e0 : rd_L1 (rows.drop 1) (i : Int) = GA.rd_L1 rows ((i + 1 : Nat) : Int) := by
   rw [(h.at (i := i + 1) (by omega)).1]
   have := rdL_at (rows.drop 1) i (by simp; omega)
   show GA.rd_L1 _ _ = _
   rw [this]
   simp [Nat.add_comm 1 i]
  have hr := (h.at (i := i + 1) (by omega)).2
  have e1 : (GA.rd_L1 rows ((i + 1 : Nat) : Int)).take j ++ (GA.rd_L1 rows ((i + 1 : Nat) : Int)).drop (j + 1) = (minorL j rows)[i]'(by omega) := by
   rw [(h.at (i := i + 1) (by omega)).1]
   unfold minorL
   simp [Nat.add_comm 1 i]
  have ew : wrap64 ((j : Int) + 1) = ((j + 1 : Nat) : Int) := by rw [wrap_id (by omega) (by omega)]; omega
  have ei : wrap64 ((i : Int) + 1) = ((i + 1 : Nat) : Int) := by rw [wrap_id (by omega) (by omega)]; omega
  rw [show k + (d + 1) + 1 = (k + d + 1) + 1 by omega]
  unfold spec_trDet.l1
  rw [e0, ew, ei]
  generalize GA.rd_L1 rows ((i + 1 : Nat) : Int) = s at *
  rw [if_pos (by omega), if_pos (by omega), if_pos (by simp; omega), if_pos (by omega), if_pos (by omega), Int.toNat_natCast, own_is _ (by simp; omega), Option.bind_some, if_pos (by omega), if_pos (by omega), Int.toNat_natCast, if_pos (by simp; omega), if_pos (by simp; omega), e1, ← List.take_succ_eq_append_getElem]
  exact ih k (i + 1) (by omega)
theorem fact_pos (n : Nat) : 0 < fact n := by
 induction n with
 | zero => exact Nat.one_pos
 | succ n ih => exact Nat.mul_pos (by omega) ih
def KT : Nat → Nat
 | 0 => 1
 | n + 1 => KT n + (n + 1) * (n + 3) + 3
theorem sg_cases (j : Nat) : sg j = 1 ∨ sg j = -1 := by unfold sg; split <;> simp
def tm (n : Nat) (rows : List (List Int)) (i : Nat) : Int := sg i * matF rows 0 i * D n fun r c => matF rows (r + 1) (skip i c)
theorem wrap_abs {x : Int} {N : Nat} (h : x.natAbs ≤ N) (hN : N ≤ 1000000000000000) : wrap64 x = x := wrap_id (by omega) (by omega)
theorem sg_abs (j : Nat) : (sg j).natAbs = 1 := by rcases sg_cases j with q | q <;> rw [q] <;> rfl
theorem tm_wraps {n e B : Nat} {rows : List (List Int)} (hb : ∀ c, c < n + 1 → (matF rows 0 c).natAbs ≤ e) (hD : ∀ i, i < n + 1 → (D n fun r c => matF rows (r + 1) (skip i c)).natAbs ≤ B) (hM : (n + 1) * (e * B) ≤ 1000000000000000) (he1 : e ≤ 1000000000000000) (j : Nat) (hj : j < n + 1) :
  wrap64 (sg j * matF rows 0 j) = sg j * matF rows 0 j ∧ wrap64 (tm n rows j) = tm n rows j ∧ wrap64 (sumN j (tm n rows) + tm n rows j) = sumN (j + 1) (tm n rows) := by
 have hbt : ∀ i, i < n + 1 → (tm n rows i).natAbs ≤ e * B := fun i hi => by
  unfold tm
  rw [Int.natAbs_mul, Int.natAbs_mul, sg_abs, Nat.one_mul]
  exact Nat.mul_le_mul (hb i hi) (hD i hi)
 have h1 : 1 * (e * B) ≤ (n + 1) * (e * B) := Nat.mul_le_mul_right _ (Nat.succ_le_succ (Nat.zero_le n))
 rw [Nat.one_mul] at h1
 refine ⟨wrap_abs (N := e) ?_ he1, wrap_abs (hbt j hj) (Nat.le_trans h1 hM), ?_⟩
 ·rw [Int.natAbs_mul, sg_abs, Nat.one_mul]
  exact hb j hj
 ·exact wrap_abs (x := sumN (j + 1) (tm n rows)) (sumN_abs (K := e * B) (f := tm n rows) (fun i hi => hbt i (Nat.lt_of_lt_of_le hi hj))) (Nat.le_trans (Nat.mul_le_mul_right _ hj) hM)
theorem nat_up {j n : Nat} (hn : n ≤ 1000) (hj : j < n + 1) : wrap64 ((j : Int) + 1) = ((j + 1 : Nat) : Int) := by
 rw [wrap_id (by omega) (by omega)]
 omega
theorem trDet_l0 {n : Nat} {rows : List (List Int)} (h : Sq (n + 1) rows) (hn : n ≤ 1000)
  (hw : ∀ j, j < n + 1 → wrap64 (sg j * matF rows 0 j) = sg j * matF rows 0 j ∧ wrap64 (tm n rows j) = tm n rows j ∧ wrap64 (sumN j (tm n rows) + tm n rows j) = sumN (j + 1) (tm n rows))
  (ih : ∀ k, KT n ≤ k → ∀ j, j < n + 1 → spec_trDet.f k (minorL j rows) = some (D n (matF (minorL j rows)))) (d : Nat) : ∀ (k j : Nat), j + d = n + 1 → KT n + d * (n + 3) + 1 ≤ k →
  spec_trDet.l0 k rows (sumN j (tm n rows)) (sg j) (GA.rd_L1 rows 0) ((n + 1 : Nat) : Int) (j : Int) = some (D (n + 1) (matF rows)) := by
 have hl := h.len
 have hr0 : (GA.rd_L1 rows 0).length = n + 1 := (h.at (i := 0) (Nat.succ_pos n)).2
 induction d with
 | zero =>
  intro k j hj hk
  obtain rfl : j = n + 1 := by omega
  obtain ⟨k, rfl⟩ : ∃ m, k = m + 1 := ⟨k - 1, by omega⟩
  unfold spec_trDet.l0
  rw [if_neg (by omega)]
  rfl
 | succ d ihd =>
  intro k j hj hk
  have hjn : j < n + 1 := by omega
  rw [Nat.succ_mul] at hk
  generalize hdn : d * (n + 3) = dn at hk ihd
  generalize hKT : KT n = kt at hk ih ihd
  obtain ⟨k, rfl⟩ : ∃ m, k = m + 1 := ⟨k - 1, by omega⟩
  have i1 : (j : Int) < ((n + 1 : Nat) : Int) := by omega
  have i2 : (0 : Int) ≤ (j : Int) := by omega
  have i3 : (j : Int) < ((GA.rd_L1 rows 0).length : Int) := by rw [hr0]; exact i1
  have i4 : (1 : Int) ≤ (rows.length : Int) := by omega
  have g1 : kt + dn + 1 ≤ k := by omega
  obtain ⟨k2, hk2⟩ : ∃ m, k = m + n + 1 := ⟨k - n - 1, by omega⟩
  have g2 : kt ≤ k2 := by omega
  have g3 : kt + dn + 1 ≤ k2 := by omega
  have g4 : j + 1 + d = n + 1 := by omega
  have ej := nat_up hn hjn
  unfold spec_trDet.l0
  rw [if_pos i1, if_pos i2, if_pos i3, show rd (GA.rd_L1 rows 0) (j : Int) = matF rows 0 j from rfl, ej]
  have es : wrap64 (- sg j) = sg (j + 1) := by
   rw [sg_succ]
   rcases sg_cases j with q | q <;> rw [q] <;> exact wrap_id (by decide) (by decide)
  rw [es]
  by_cases hz : matF rows 0 j = 0
  ·rw [if_pos hz]
   have := ihd k (j + 1) g4 g1
   have e0 : tm n rows j = 0 := by unfold tm; rw [hz, Int.mul_zero, Int.zero_mul]
   rw [sumN, e0, Int.add_zero] at this
   exact this
  ·rw [if_neg hz, if_pos i4, Option.bind_some]
   subst hk2
   have hdl : ((rows.drop 1).length : Int) = (n : Int) := by simp [hl]
   have e1 := trDet_l1 h hn (sumN j (tm n rows)) (sg j) (matF rows 0 j) ((n + 1 : Nat) : Int) (j : Int) (GA.rd_L1 rows 0) hjn n k2 0 (Nat.zero_add n)
   rw [List.take_zero] at e1
   rw [hdl]
   rw [show ((0 : Nat) : Int) = 0 from rfl] at e1
   rw [e1, ih k2 g2 j hjn, Option.bind_some, ej, es]
   have e2 : D n (matF (minorL j rows)) = D n fun r c => matF rows (r + 1) (skip j c) := D_congr fun r c hr hc => minor_at h hjn hr hc
   rw [e2, (hw j hjn).1]
   have w3 := ihd k2 (j + 1) g4 g3
   have w2 : wrap64 (sg j * matF rows 0 j * D n fun r c => matF rows (r + 1) (skip j c)) = tm n rows j := (hw j hjn).2.1
   rw [w2, (hw j hjn).2.2]
   exact w3
theorem fe_mono {n e M : Nat} (h : fact (n + 1) * e ^ (n + 1) ≤ M) : fact n * e ^ n ≤ M ∨ e = 0 := by
 by_cases he : e = 0
 ·exact .inr he
 ·left
  have hfe : (n + 1) * (e * (fact n * e ^ n)) = fact (n + 1) * e ^ (n + 1) := by
   rw [fact, Nat.pow_succ]
   simp only [Nat.mul_assoc, Nat.mul_comm, Nat.mul_left_comm]
  have h1 : 1 * (fact n * e ^ n) ≤ e * (fact n * e ^ n) := Nat.mul_le_mul_right _ (by omega)
  have h2 : 1 * (e * (fact n * e ^ n)) ≤ (n + 1) * (e * (fact n * e ^ n)) := Nat.mul_le_mul_right _ (by omega)
  omega
theorem trDet_is (n : Nat) : ∀ (e : Nat) (rows : List (List Int)), 0 < e → Sq n rows → n ≤ 1000 → (∀ r c, r < n → c < n → (matF rows r c).natAbs ≤ e) → fact n * e ^ n ≤ 1000000000000000 → ∀ k, KT n ≤ k → spec_trDet.f k rows = some (D n (matF rows)) := by
 induction n with
 | zero =>
  intro e rows he h _ _ _ k hk
  obtain ⟨k, rfl⟩ : ∃ m, k = m + 1 := ⟨k - 1, by unfold KT at hk; omega⟩
  have := h.len
  unfold spec_trDet.f
  rw [if_pos (by omega)]
  rfl
 | succ n ih =>
  intro e rows he h hn hb hB k hk
  have hl := h.len
  unfold KT at hk
  obtain ⟨k, rfl⟩ : ∃ m, k = m + 1 := ⟨k - 1, by omega⟩
  have h0 : (GA.rd_L1 rows 0).length = n + 1 := (h.at (i := 0) (by omega)).2
  have hfn := (fe_mono hB).resolve_right (by omega)
  unfold spec_trDet.f
  rw [if_neg (by omega), if_pos (by omega)]
  have hfe : (n + 1) * (e * (fact n * e ^ n)) = fact (n + 1) * e ^ (n + 1) := by
   rw [fact, Nat.pow_succ]
   simp only [Nat.mul_assoc, Nat.mul_comm, Nat.mul_left_comm]
  have hD : ∀ i, i < n + 1 → (D n fun r c => matF rows (r + 1) (skip i c)).natAbs ≤ fact n * e ^ n := fun i hi => D_bound fun r c hr hc => hb (r + 1) (skip i c) (by omega) (skip_lt hi hc)
  have hM : (n + 1) * (e * (fact n * e ^ n)) ≤ 1000000000000000 := by rw [hfe]; exact hB
  have hrec : ∀ k, KT n ≤ k → ∀ j, j < n + 1 → spec_trDet.f k (minorL j rows) = some (D n (matF (minorL j rows))) := fun k hk j hj => ih e _ he (sq_minor h hj) (by omega) (fun r c hr hc => by
   rw [minor_at h hj hr hc]
   exact hb _ _ (by omega) (skip_lt hj hc)) hfn k hk
  have h1 : 0 < fact n * e ^ n := Nat.mul_pos (fact_pos n) (Nat.pow_pos he)
  clear hfe hB ih
  generalize fact n * e ^ n = B at *
  have he1 : e ≤ 1000000000000000 := by
   have q1 : e * 1 ≤ e * B := Nat.mul_le_mul_left _ h1
   have q2 : 1 * (e * B) ≤ (n + 1) * (e * B) := Nat.mul_le_mul_right _ (by omega)
   omega
  have := trDet_l0 h (by omega) (tm_wraps (fun c hc => hb 0 c (by omega) hc) hD hM he1) hrec (n + 1) k 0 (by omega) (by omega)
  have h1 : ((rd_L1 rows 0).length : Int) = ((n + 1 : Nat) : Int) := by
   show ((GA.rd_L1 rows 0).length : Int) = _
   rw [h0]
  rw [h1]
  exact this
end Go.Proofs.Ytnbnalbomflafaa.DT
namespace Go.Proofs.Ytnbnalbomflafaa.DT
open Go.RowKit YtnbnalbomflafaaW.PrintWords
open RA
theorem matF_at {rows : List (List Int)} {r c : Nat} (hr : r < rows.length) (hc : c < rows[r].length) : matF rows r c = rows[r][c] := by
 unfold matF
 rw [rdL_at rows r hr, rd_at _ c hc]
theorem rowsD_get {w : World} {N : Nat} {vc : Value} {rows : List (List Int)} (h : RowsD w N vc rows) (hn : 0 < rows.length) : ∃ g cap cur, vc = .slice (some ⟨g, 0, none⟩) rows.length cap ∧ N ≤ g ∧ w.heap[g]? = some (.cells cur 37 (0, 0)) ∧
  ∀ i (hi : i < rows.length), 0 < rows[i].length → ∃ gi ci curi, cur[i]? = some (.slice (some ⟨gi, 0, none⟩) rows[i].length ci) ∧ N ≤ gi ∧ gi ≠ g ∧ w.heap[gi]? = some (.cells curi 3 (0, 0)) ∧ ∀ j (hj : j < rows[i].length), curi[j]? = some (.int .i64 rows[i][j]) := by
 obtain ⟨L, ho, hL⟩ := h
 have hLn : L.length = rows.length := by have := own_len ho; omega
 rcases ho.2 with ⟨h1, h2⟩ | ⟨g, cap, cur, rfl, hb, hh, h3, h4, h5, h6⟩
 ·omega
 ·refine ⟨g, cap, cur, rfl, hb, hh, fun i hi hp => ?_⟩
  obtain ⟨v, hv, hvo⟩ := hL.1 i rows[i] (List.getElem?_eq_getElem hi)
  rcases hvo.2 with ⟨q1, q2⟩ | ⟨gi, ci, curi, rfl, qb, qh, q3, q4, q5, q6⟩
  ·omega
  ·refine ⟨gi, ci, curi, ?_, qb, ?_, qh, fun j hj => ?_⟩
   ·have := congrArg (fun x : List Value => x[i]?) h6
    rw [hv, Nat.mul_one, List.getElem?_take_of_lt hi, Array.getElem?_toList] at this
    exact this
   ·intro c
    rw [c, hh] at qh
    simp at qh
   ·have := congrArg (fun x : List Value => x[j]?) q6
    simp only [encI, List.getElem?_map, List.getElem?_eq_getElem hj, Option.map_some] at this
    rw [Nat.mul_one, List.getElem?_take_of_lt hj, Array.getElem?_toList] at this
    exact this
theorem rowsD_set {w : World} {N g cap : Nat} {n : Nat} {cur : Array Value} {rows : List (List Int)} (h : RowsD w N (.slice (some ⟨g, 0, none⟩) n cap) rows) (hn : n = rows.length) (hh : w.heap[g]? = some (.cells cur 37 (0, 0))) {i gi ci m : Nat} (hi : i < rows.length) (hc : cur[i]? = some (.slice (some ⟨gi, 0, none⟩) m ci)) (hm : m = rows[i].length) (j : Nat) (x : Int) :
  RowsD (w.setCell ⟨gi, j, none⟩ (.int .i64 x)) N (.slice (some ⟨g, 0, none⟩) n cap) (rows.set i (rows[i].set j x)) := by
 subst hn hm
 obtain ⟨L, ho, hL⟩ := h
 have hLn : L.length = rows.length := by have := own_len ho; omega
 rcases ho.2 with ⟨h1, h2⟩ | ⟨g2, cap2, cur2, e, hb, hh2, h3, h4, h5, h6⟩
 ·cases h1
 injection e with e1 _ e3
 injection e1 with e1
 injection e1 with e1
 subst e1
 rw [hh] at hh2
 simp only [Option.some.injEq, Obj.cells.injEq] at hh2
 obtain ⟨rfl, _, _⟩ := hh2
 obtain ⟨v, hv, hvo⟩ := hL.1 i rows[i] (List.getElem?_eq_getElem hi)
 have hve : v = .slice (some ⟨gi, 0, none⟩) rows[i].length ci := by
  have := congrArg (fun x : List Value => x[i]?) h6
  rw [hv, Nat.mul_one, List.getElem?_take_of_lt hi, Array.getElem?_toList, hc] at this
  exact (Option.some.inj this).symm
 subst hve
 have hs := (own_store hvo (j : Int) x).1
 rw [Int.toNat_natCast] at hs
 have hs2 : (w.setCell ⟨gi, j, none⟩ (.int .i64 x)).ownsRow N 3 1 (.slice (some ⟨gi, 0, none⟩) rows[i].length ci) (rows[i].set j x).length (encI (rows[i].set j x)) := by
  rw [List.length_set]
  exact hs
 obtain ⟨p1, p2⟩ := RowsD.put ho hL hv hs2 fun b _ hb => Below.heap_setCell _ _ _ _ fun c => hb (by rw [c]; rfl)
 refine ⟨L, ?_, p2⟩
 exact p1
theorem rowsD_swap {w : World} {N g cap n : Nat} {cur : Array Value} {rows : List (List Int)} (h : RowsD w N (.slice (some ⟨g, 0, none⟩) n cap) rows) (hn : n = rows.length) (hh : w.heap[g]? = some (.cells cur 37 (0, 0))) {k p : Nat} {vk vp : Value} (hk : k < rows.length) (hp : p < rows.length) (hkp : k ≠ p) (ck : cur[k]? = some vk) (cp : cur[p]? = some vp) :
  RowsD ((w.setCell ⟨g, p, none⟩ vk).setCell ⟨g, k, none⟩ vp) N (.slice (some ⟨g, 0, none⟩) n cap) ((rows.set p rows[k]).set k rows[p]) := by
 subst hn
 obtain ⟨L, ho, hL⟩ := h
 have hLn : L.length = rows.length := by have := own_len ho; omega
 rcases ho.2 with ⟨h1, h2⟩ | ⟨g2, cap2, cur2, e, hb, hh2, h3, h4, h5, h6⟩
 ·cases h1
 injection e with e1 _ e3
 injection e1 with e1
 injection e1 with e1
 subst e1 e3
 rw [hh] at hh2
 simp only [Option.some.injEq, Obj.cells.injEq] at hh2
 obtain ⟨rfl, _, _⟩ := hh2
 have hc2 : rows.length ≤ cur.size := by omega
 have atc : ∀ i, i < rows.length → L[i]? = cur[i]? := fun i hi => by
  have := congrArg (fun x : List Value => x[i]?) h6
  rw [Nat.mul_one, List.getElem?_take_of_lt hi, Array.getElem?_toList] at this
  exact this.symm
 have hLk : L[k]? = some vk := (atc k hk).trans ck
 have hLp : L[p]? = some vp := (atc p hp).trans cp
 have hg1 : (w.setCell ⟨g, p, none⟩ vk).heap[g]? = some (.cells (cur.setIfInBounds p vk) 37 (0, 0)) := blk_set hh p vk
 have hg2 := blk_set hg1 k vp
 have far : ∀ b, b ≠ g → ((w.setCell ⟨g, p, none⟩ vk).setCell ⟨g, k, none⟩ vp).heap[b]? = w.heap[b]? := fun b hbg => (Below.heap_setCell _ _ _ _ hbg).trans (Below.heap_setCell _ _ _ _ hbg)
 have move : ∀ {v : Value} {r : List Int}, w.ownsRow N 3 1 v r.length (encI r) → ((w.setCell ⟨g, p, none⟩ vk).setCell ⟨g, k, none⟩ vp).ownsRow N 3 1 v r.length (encI r) := fun {v r} hv => own_move hv fun b hb => far b fun c => by
  obtain ⟨cells, hc⟩ := own_typed hv b hb
  rw [c, hh] at hc
  simp at hc
 let s : Nat → Nat := fun i => if i = k then p else if i = p then k else i
 have hss : ∀ i j, s i = s j → i = j := fun i j e => by
  simp only [s] at e
  grind
 have hsl : ∀ i, i < rows.length → s i < rows.length := fun i hi => by
  simp only [s]
  grind
 have hL2 : ∀ i, i < rows.length → ((L.set p vk).set k vp)[i]? = L[s i]? := fun i hi => by
  simp only [s]
  by_cases h1 : i = k
  ·subst h1
   rw [List.getElem?_set_self (by simp; omega), if_pos rfl, hLp]
  ·rw [List.getElem?_set_ne (fun c => h1 c.symm), if_neg h1]
   by_cases h2 : i = p
   ·subst h2
    rw [List.getElem?_set_self (by omega), if_pos rfl, hLk]
   ·rw [List.getElem?_set_ne (fun c => h2 c.symm), if_neg h2]
 have hR2 : ∀ i, i < rows.length → ((rows.set p rows[k]).set k rows[p])[i]? = rows[s i]? := fun i hi => by
  simp only [s]
  by_cases h1 : i = k
  ·subst h1
   rw [List.getElem?_set_self (by simp; omega), if_pos rfl, List.getElem?_eq_getElem hp]
  ·rw [List.getElem?_set_ne (fun c => h1 c.symm), if_neg h1]
   by_cases h2 : i = p
   ·subst h2
    rw [List.getElem?_set_self (by omega), if_pos rfl, List.getElem?_eq_getElem hk]
   ·rw [List.getElem?_set_ne (fun c => h2 c.symm), if_neg h2]
 refine ⟨(L.set p vk).set k vp, ?_, fun i r hr => ?_, fun i j x y b hx hy hij hb1 => ?_⟩
 ·refine ⟨by simp [hLn], .inr ⟨g, cap, _, by simp, hb, hg2, by simpa using h3, h4, by simpa using h5, ?_⟩⟩
  apply List.ext_getElem?
  intro i
  by_cases hi : i < rows.length
  ·rw [List.getElem?_take_of_lt (by simpa using hi), Array.getElem?_toList, hL2 i hi]
   simp only [s]
   by_cases h1 : i = k
   ·subst h1
    rw [Array.getElem?_setIfInBounds_self_of_lt (by simp; omega), if_pos rfl, hLp]
   ·rw [Array.getElem?_setIfInBounds_ne (fun c => h1 c.symm), if_neg h1]
    by_cases h2 : i = p
    ·subst h2
     rw [Array.getElem?_setIfInBounds_self_of_lt (by omega), if_pos rfl, hLk]
    ·rw [Array.getElem?_setIfInBounds_ne (fun c => h2 c.symm), if_neg h2, atc i hi]
  ·rw [List.getElem?_take_eq_none (by simp; omega), List.getElem?_eq_none (by simp; omega)]
 ·have hi : i < rows.length := by
   have := (List.getElem?_eq_some_iff.1 hr).1
   simpa using this
  rw [hR2 i hi] at hr
  obtain ⟨v, q1, q2⟩ := hL.1 (s i) r hr
  exact ⟨v, (hL2 i hi).trans q1, move q2⟩
 ·have hi : i < rows.length := by
   have := (List.getElem?_eq_some_iff.1 hx).1
   simp at this
   omega
  have hj : j < rows.length := by
   have := (List.getElem?_eq_some_iff.1 hy).1
   simp at this
   omega
  rw [hL2 i hi] at hx
  rw [hL2 j hj] at hy
  exact hL.2 (s i) (s j) x y b hx hy (fun c => hij (hss i j c)) hb1
theorem sq_set {n i j : Nat} {rows : List (List Int)} {x : Int} (h : Sq n rows) (hi : i < rows.length) : Sq n (rows.set i (rows[i].set j x)) := by
 refine ⟨by simp [h.len], fun r hr => ?_⟩
 rcases List.mem_or_eq_of_mem_set hr with q | q
 ·exact h.row r q
 ·rw [q, List.length_set]
  exact h.row _ (List.getElem_mem _)
theorem sq_swap {n k p : Nat} {rows : List (List Int)} (h : Sq n rows) (hk : k < rows.length) (hp : p < rows.length) : Sq n ((rows.set p rows[k]).set k rows[p]) := by
 refine ⟨by simp [h.len], fun r hr => ?_⟩
 rcases List.mem_or_eq_of_mem_set hr with q | q
 ·rcases List.mem_or_eq_of_mem_set q with q | q
  ·exact h.row r q
  ·rw [q]; exact h.row _ (List.getElem_mem _)
 ·rw [q]; exact h.row _ (List.getElem_mem _)
theorem sq_row {n r : Nat} {rows : List (List Int)} (h : Sq n rows) (hr : r < rows.length) : rows[r].length = n := h.row _ (List.getElem_mem _)
theorem matF_set {n i j : Nat} {rows : List (List Int)} {x : Int} (h : Sq n rows) (hi : i < rows.length) (hj : j < n) {r c : Nat} (hr : r < n) (hc : c < n) : matF (rows.set i (rows[i].set j x)) r c = if r = i ∧ c = j then x else matF rows r c := by
 have hl := h.len
 have h2 := sq_set (j := j) (x := x) h hi
 have hl2 := h2.len
 rw [matF_at (by omega) (by rw [sq_row h2 (by omega)]; exact hc), matF_at (by omega) (by rw [sq_row h (by omega)]; exact hc)]
 by_cases hri : r = i
 ·subst hri
  simp only [List.getElem_set_self]
  by_cases hcj : c = j
  ·subst hcj
   simp
  ·rw [if_neg (fun q => hcj q.2), List.getElem_set_ne (fun q => hcj q.symm)]
 ·rw [if_neg (fun q => hri q.1)]
  simp only [List.getElem_set_ne (fun q => hri q.symm)]
theorem matF_swap {n k p : Nat} {rows : List (List Int)} (h : Sq n rows) (hk : k < rows.length) (hp : p < rows.length) {r c : Nat} (hr : r < n) (hc : c < n) : matF ((rows.set p rows[k]).set k rows[p]) r c = matF rows (sw k p r) c := by
 have hl := h.len
 have h2 := sq_swap h hk hp
 have hl2 := h2.len
 have hsr : sw k p r < n := by unfold sw; grind
 rw [matF_at (by omega) (by rw [sq_row h2 (by omega)]; exact hc), matF_at (by omega) (by rw [sq_row h (by omega)]; exact hc)]
 unfold sw
 by_cases h1 : r = k
 ·subst h1
  simp only [List.getElem_set_self, if_true]
 ·simp only [if_neg h1]
  by_cases h3 : r = p
  ·subst h3
   simp only [List.getElem_set_ne (fun q => h1 q.symm), List.getElem_set_self, if_true]
  ·simp only [List.getElem_set_ne (fun q => h1 q.symm), List.getElem_set_ne (fun q => h3 q.symm), if_neg h3]
def setM (rs : List (List Int)) (i j : Nat) (x : Int) : List (List Int) := rs.set i ((GA.rd_L1 rs (i : Int)).set j x)
def swM (rs : List (List Int)) (k p : Nat) : List (List Int) := (rs.set p (GA.rd_L1 rs (k : Int))).set k (GA.rd_L1 rs (p : Int))
theorem sq_setM {n i j : Nat} {rs : List (List Int)} {x : Int} (h : Sq n rs) (hi : i < n) : Sq n (setM rs i j x) := by
 unfold setM
 rw [(h.at hi).1]
 exact sq_set h _
theorem sq_swM {n k p : Nat} {rs : List (List Int)} (h : Sq n rs) (hk : k < n) (hp : p < n) : Sq n (swM rs k p) := by
 unfold swM
 rw [(h.at hk).1, (h.at hp).1]
 exact sq_swap h _ _
theorem matF_setM {n i j : Nat} {rs : List (List Int)} {x : Int} (h : Sq n rs) (hi : i < n) (hj : j < n) {r c : Nat} (hr : r < n) (hc : c < n) : matF (setM rs i j x) r c = if r = i ∧ c = j then x else matF rs r c := by
 unfold setM
 rw [(h.at hi).1]
 exact matF_set h _ hj hr hc
theorem matF_swM {n k p : Nat} {rs : List (List Int)} (h : Sq n rs) (hk : k < n) (hp : p < n) {r c : Nat} (hr : r < n) (hc : c < n) : matF (swM rs k p) r c = matF rs (sw k p r) c := by
 unfold swM
 rw [(h.at hk).1, (h.at hp).1]
 exact matF_swap h _ _ hr hc
theorem cells_of {w : World} {N g cap n : Nat} {rs : List (List Int)} (h : RowsD w N (.slice (some ⟨g, 0, none⟩) n cap) rs) (hs : Sq n rs) {i : Nat} (hi : i < n) : N ≤ g ∧ w.frozen? ⟨g, i, none⟩ = false ∧ ∃ gi ci, w.cell? ⟨g, i, none⟩ = some (.slice (some ⟨gi, 0, none⟩) n ci) ∧ N ≤ gi ∧ gi ≠ g ∧ (∀ j, j < n → w.cell? ⟨gi, j, none⟩ = some (.int .i64 (matF rs i j)) ∧ w.frozen? ⟨gi, j, none⟩ = false) ∧
  ∀ j x, RowsD (w.setCell ⟨gi, j, none⟩ (.int .i64 x)) N (.slice (some ⟨g, 0, none⟩) n cap) (setM rs i j x) := by
 have hl := hs.len
 obtain ⟨g2, cap2, cur, e, hgN, hgh, hget⟩ := rowsD_get h (by omega)
 injection e with e1 _ e3
 injection e1 with e1
 injection e1 with e1
 subst e1 e3
 have hrl := sq_row hs (r := i) (by omega)
 obtain ⟨gi, ci, curi, h1, h2, h3, h4, h5⟩ := hget i (by omega) (by omega)
 refine ⟨hgN, kF_ hgh i, gi, ci, (blk_cell hgh i).trans (by rw [h1, hrl]), h2, h3, fun j hj => ⟨(blk_cell h4 j).trans (by rw [h5 j (by omega), matF_at (by omega) (by omega)]), kF_ h4 j⟩, fun j x => ?_⟩
 unfold setM
 rw [(hs.at hi).1]
 exact rowsD_set h hl.symm hgh (by omega) h1 rfl j x
theorem swap_of {w : World} {N g cap n : Nat} {rs : List (List Int)} (h : RowsD w N (.slice (some ⟨g, 0, none⟩) n cap) rs) (hs : Sq n rs) {k p : Nat} (hk : k < n) (hp : p < n) (hkp : k ≠ p) {vk vp : Value} (ck : w.cell? ⟨g, k, none⟩ = some vk) (cp : w.cell? ⟨g, p, none⟩ = some vp) :
  RowsD ((w.setCell ⟨g, p, none⟩ vk).setCell ⟨g, k, none⟩ vp) N (.slice (some ⟨g, 0, none⟩) n cap) (swM rs k p) := by
 have hl := hs.len
 obtain ⟨g2, cap2, cur, e, hgN, hgh, hget⟩ := rowsD_get h (by omega)
 injection e with e1 _ e3
 injection e1 with e1
 injection e1 with e1
 subst e1 e3
 unfold swM
 rw [(hs.at hk).1, (hs.at hp).1]
 exact rowsD_swap h hl.symm hgh _ _ hkp ((blk_cell hgh k).symm.trans ck) ((blk_cell hgh p).symm.trans cp)
end Go.Proofs.Ytnbnalbomflafaa.DT
namespace Go.Proofs.Ytnbnalbomflafaa.KA
open Go.RowKit YtnbnalbomflafaaW.PrintWords YtnbnalbomflafaaW.PrintLast YtnbnalbomflafaaW.PrintMore
open GA
def filled (k : Int) (N n : Nat) : List Value := List.replicate n (.int .i64 k) ++ List.replicate (N - n) (.int .i64 0)
theorem filled_length {k : Int} {N n : Nat} (h : n ≤ N) : (filled k N n).length = N := by simp [filled]; omega
theorem filled_all (k : Int) (N : Nat) : filled k N N = nums .i64 (List.replicate N k) := by simp [filled, nums]
theorem filled_get {k : Int} {N n j : Nat} (hj : j < n) : (filled k N n)[j]? = some (.int .i64 k) := by
 unfold filled
 rw [List.getElem?_append_left (by simpa using hj)]
 simp [hj]
theorem filled_splice {k : Int} {N n m : Nat} (h : n + m ≤ N) : splice (filled k N n) n (List.replicate m (.int .i64 k)) = filled k N (n + m) := by
 unfold splice filled
 rw [List.take_append_of_le_length (by simp), List.take_of_length_le (by simp), List.drop_append]
 simp only [List.length_replicate, List.drop_replicate]
 rw [show n - (n + m) = 0 by omega, show n + m - n = m by omega, show N - n - m = N - (n + m) by omega]
 simp [List.replicate_append_replicate, ← List.append_assoc]
theorem filled_made (k : Int) (N : Nat) : (madeCells #[.int .i64 0] N).toList = filled k N 0 := by
 simp only [filled, madeCells]
 apply List.ext_getElem
 ·simp
 ·intro i h1 h2
  simp [Nat.mod_one]
theorem filled_own {W : World} {base g N : Nat} {k : Int} (hb : base ≤ g) (hN : N ≤ 100000) (h : W.heap[g]? = some (.cells (filled k N N).toArray 3 (0, 0))) :
  W.ownsRow base 3 1 (.slice (some ⟨g, 0, none⟩) N N) N (nums .i64 (List.replicate N k)) := by
 refine ⟨by simp [nums], .inr ⟨g, N, _, rfl, hb, h, Nat.le_refl _, by unfold maxLen; omega, by simp [filled], ?_⟩⟩
 rw [← filled_all]
 exact List.take_of_length_le (by simp [filled])
def R9.T : Bool × List (List Nat × List Nat) := (true, [([], []), ([], []), ([], []), ([1, 2], [1, 2]), ([], []), ([], []), ([4, 5], [4, 5]), ([3, 6], [3, 6]), ([0, 7], [0, 7]), ([8, 7, 0, 1, 2, 3, 4, 5, 6, 7, 8], [0, 2, 5, 8])])
def R9.B : List Nat := [0, 0, 0, 6, 0, 0, 48, 126, 255, 511]
theorem R9.tab : rtab .any (opsOf Try.f128 9) = R9.T := by kernel_rfl
theorem R9.bits : waitsOk R9.T.2 R9.B = true := by kernel_rfl
set_option maxHeartbeats 1000000 in
set_option maxRecDepth 100000 in
theorem repeat_calls (gx ox c0 : Nat) (k : Int) (N : Nat) (w : World) (h1 : 1 ≤ N) (h2 : N ≤ 130) (hx : w.cell? ⟨gx, ox, none⟩ = some (.int .i64 k)) (hgx : gx < w.heap.size) :
  Calls Try.prog 128 #[.slice (some ⟨gx, ox, none⟩) 1 c0, .int .i64 (N : Int)] w fun e' w' => ∃ v, e' = .returned v ∧ w'.ownsRow w.heap.size 3 1 v N (nums .i64 (List.replicate N k)) ∧ Below w.heap.size w w' := by
 have HM : ∀ W, Calls Try.prog 132 #[.int .u64 1, .int .u64 (N : Int)] W fun e w' => e = .returned (.tuple #[.int .u64 0, .int .u64 (N : Int)]) ∧ w' = W := fun W => by
  have := Try.bits_Mul 1 N (by decide) (by omega) W
  rw [show 1 * N / 18446744073709551616 = 0 by omega, show 1 * N % 18446744073709551616 = N by omega] at this
  exact this
 have HM := Aside0.mk HM
 have hmk := print_make (P := Try.prog) 37 3 .i64 8 Try.underlying37 info3 (by decide) N (by omega)
 have hw1 : IntKind.u64.wrap (N : Int) = (N : Int) := by unfold IntKind.wrap; simp [IntKind.bits, IntKind.signed]; omega
 have hw2 : IntKind.i64.wrap (N : Int) = (N : Int) := IntWalk.i64_in _ (by omega)
 have hM0 : ∀ W : World, (W.alloc (.cells (madeCells #[.int .i64 0] N) 3)).heap[W.heap.size]? = some (.cells (filled k N 0).toArray 3 (0, 0)) := fun W => by
  have h := blk_new W (.cells (madeCells #[.int .i64 0] N) 3)
  rw [← filled_made]
  simpa using h
 have hM0 := Aside0.mk hM0
 have hX := Aside0.mk hx
 have hlen := Aside0.mk (filled_length (k := k) (Nat.zero_le N))
 clear hx
 generalize hF0 : filled k N 0 = F0 at hM0 hlen
 have hF0 := Aside0.mk hF0
 have hP : ∀ j v, [Value.int .i64 (k : Int)][j]? = some v → (w.alloc (.cells (madeCells #[.int .i64 0] N) 3)).cell? ((⟨gx, ox, none⟩ : Addr).add j) = some v := fun j v hj => by
  match j, hj with
  | 0, hj =>
   simp at hj
   subst hj
   exact (World.cell?_alloc_lt _ _ _ hgx).trans hX.out
 have hP := Aside0.mk hP
 go_enter Try.func128, Try.ntmps128
 go_upto_region 7 with (go_at_call 132; refine (HM.out _).mono ?_; rintro e w' ⟨rfl, hw'⟩; subst w')
 go_wp2_with (refine wpList_copy_splice (o := ⟨some 33, _, _, _, _, _⟩) rfl (.tmp 31) (.tmp 32) 37 37 rfl 3 Try.underlying37 (by rfl) _ _ _ _ _ _ rfl rfl w.heap.size 0 F0 3 (hM0.out w) [.int .i64 (k : Int)] (by show 1 = min 1 N; omega) (fun _ => ⟨rfl, _, rfl, hP.out⟩) (by rw [hlen.out]; show 0 + 1 ≤ N; omega) (by intro v hv; simp at hv; subst hv; rfl) w.heap.size w (bA_ (Below.refl _ _) _) (Nat.le_refl _) ?_; intro w1 hG1 hB1)
 have G1 : w1.heap[w.heap.size]? = some (.cells (filled k N 1).toArray 3 (0, 0)) := by
  have := hG1.out
  rw [← hF0.out] at this
  rw [show [Value.int .i64 (k : Int)] = List.replicate 1 (Value.int .i64 k) from rfl, filled_splice (by omega)] at this
  simpa using this
 have G1 := Aside0.mk G1
 have B1 := Aside0.mk hB1
 clear hG1 hB1 hP hM0 hX hlen hF0 HM hmk
 go_loopg [8] N (fun kq v8 wr => ∃ n : Nat, v8 = .int .i64 (n : Int) ∧ Aside0 (1 ≤ n ∧ n ≤ N ∧ N - n ≤ kq) ∧ Aside0 (wr.heap[w.heap.size]? = some (.cells (filled k N n).toArray 3 (0, 0))) ∧ Aside0 (Below w.heap.size w wr))
 case atStart => exact ⟨1, rfl, ⟨by omega⟩, G1, B1⟩
 case round =>
  clear G1 B1
  obtain ⟨n, rfl, hn, hG, hB⟩ := hrel
  have hn0 := hn.out
  clear hn
  obtain ⟨hn1, hn2, hn3⟩ := hn0
  by_cases hlt : n < N
  ·have hc : (n : Int) < (N : Int) := by omega
   obtain ⟨m, hm⟩ : ∃ m, m = min n (N - n) := ⟨_, rfl⟩
   have hS : ∀ j v, (List.replicate m (Value.int .i64 k))[j]? = some v → wr.cell? ((⟨w.heap.size, 0, none⟩ : Addr).add j) = some v := fun j v hj => by
    rw [List.getElem?_replicate] at hj
    split at hj
    ·rename_i hjm
     have h := (blk_cell hG.out j).trans (show _ from (by simpa using filled_get (k := k) (N := N) (n := n) (j := j) (by omega)))
     rw [← Option.some.inj hj]
     unfold Addr.add
     split
     ·rename_i h0; subst h0; exact h
     ·simpa using h
    ·cases hj
   have hS := Aside0.mk hS
   have hNn : ¬ N = n := by omega
   have hfl := Aside0.mk (filled_length (k := k) hn2)
   have hsp := Aside0.mk (filled_splice (k := k) (N := N) (n := n) (m := m) (by omega))
   have hwn : IntKind.i64.wrap ((n : Int) + (m : Int)) = (n : Int) + (m : Int) := IntWalk.i64_in _ (by omega)
   have hmm := Aside0.mk hm
   clear hm
   go_upto_region 9 with (fail)
   refine start_ (n := 10) (S := fun w' => True) (ds := []) #[false, false, false, false, false, false, false, false, false, false] (by kernel_rfl) rfl rfl trivial (fun hHeld => ?_)
   refine with_tabW R9.tab R9.bits (fun HT_ HW_ => ?_)
   generalize hwd : wr.drew = W9
   have hG9 : W9.heap[w.heap.size]? = some (.cells (filled k N n).toArray 3 (0, 0)) := by rw [← hwd]; exact hG.out
   have hB9 : Below w.heap.size w W9 := by rw [← hwd]; exact bN_ hB.out 1
   have hS9 : ∀ j v, (List.replicate m (Value.int .i64 k))[j]? = some v → W9.cell? ((⟨w.heap.size, 0, none⟩ : Addr).add j) = some v := by rw [← hwd]; exact hS.out
   have hG9 := Aside0.mk hG9
   have hB9 := Aside0.mk hB9
   have hS9 := Aside0.mk hS9
   clear hwd hG hB hS
   refine pu_ (i := 0) (N := some 38) (v := ?_) (a' := ?_) HT_.out rfl rfl (Or.inl ⟨by rfl, ?_⟩) ?_ ?_
   rotate_left
   ·intro w'
    go_simp
    with_reducible rfl
   rotate_left
   ·simp only [sp_]
    rfl
   refine pu_ (i := 1) (N := some 39) (v := ?_) (a' := ?_) HT_.out rfl rfl (Or.inl ⟨by rfl, ?_⟩) ?_ ?_
   rotate_left
   ·intro w'
    go_simp
    with_reducible rfl
   rotate_left
   ·simp only [sp_]
    rfl
   refine pu_ (i := 2) (N := some 40) (v := ?_) (a' := ?_) HT_.out rfl rfl (Or.inl ⟨by rfl, ?_⟩) ?_ ?_
   rotate_left
   ·intro w'
    go_simp
    with_reducible rfl
   rotate_left
   ·simp only [sp_]
    rfl
   refine pu_ (i := 3) (N := some 41) (v := ?_) (a' := ?_) HT_.out rfl rfl (Or.inl ⟨by rfl, ?_⟩) ?_ ?_
   rotate_left
   ·intro w'
    go_simp
    with_reducible rfl
   rotate_left
   ·simp only [sp_]
    rfl
   refine pu_ (i := 4) (N := some 42) (v := ?_) (a' := ?_) HT_.out rfl rfl (Or.inl ⟨by rfl, ?_⟩) ?_ ?_
   rotate_left
   ·intro w'
    go_simp
    with_reducible rfl
   rotate_left
   ·simp only [sp_]
    rfl
   refine pu_ (i := 5) (N := some 43) (v := ?_) (a' := ?_) HT_.out rfl rfl (Or.inl ⟨by rfl, ?_⟩) ?_ ?_
   rotate_left
   ·intro w'
    go_simp
    with_reducible rfl
   rotate_left
   ·simp only [sp_]
    rfl
   refine pu_ (i := 6) (N := some 44) (v := ?_) (a' := ?_) HT_.out rfl rfl (Or.inl ⟨by rfl, ?_⟩) ?_ ?_
   rotate_left
   ·intro w'
    go_simp
    with_reducible rfl
   rotate_left
   ·simp only [sp_]
    rfl
   refine one_ (i := 7) (N := some 45) #[true, true, true, true, true, true, true, true, false, false] rfl rfl (one_of HT_.out (by kernel_rfl)) (by decide) (fun K hK => ?_)
   refine step_copy_splice rfl (.tmp 41) (.tmp 44) 37 37 rfl 3 Try.underlying37 (by rfl) _ _ _ _ _ _ rfl rfl w.heap.size n (filled k N n) 3 hG9.out (List.replicate m (.int .i64 k)) (by rw [List.length_replicate]; show m = min n (N - n); exact hmm.out) (fun _ => ⟨rfl, _, rfl, hS9.out⟩) (by have := hmm.out; rw [hfl.out, List.length_replicate]; omega) (by intro v hv; rw [List.eq_of_mem_replicate hv]; rfl) w.heap.size w hB9.out (Nat.le_refl _) ?_
   intro w2 hG2 hB2
   rw [List.length_replicate]
   have hG3 := hG2.out
   rw [hsp.out] at hG3
   have hG3 := Aside0.mk hG3
   have hB3 := Aside0.mk hB2
   clear hG2 hB2 hS9 hG9 hB9
   refine hK.out (Act.put _ (some 45) _) _ trivial (fun hHeld => ?_)
   clear hK K
   (try simp only [Act.put, List.setIfInBounds_toArray, List.set_cons_zero, List.set_cons_succ])
   refine pu_ (i := 8) (N := some 46) (v := ?_) (a' := ?_) HT_.out rfl rfl (Or.inl ⟨by rfl, ?_⟩) ?_ ?_
   rotate_left
   ·intro w'
    go_simp
    first | with_reducible rfl | (trace_state; fail)
   rotate_left
   ·simp only [sp_]
    rfl
   refine pu_ (i := 9) (N := some 8) (v := ?_) (a' := ?_) HT_.out rfl rfl (Or.inl ⟨by rfl, ?_⟩) ?_ ?_
   rotate_left
   ·intro w'
    go_simp
    with_reducible rfl
   rotate_left
   ·simp only [sp_]
    rfl
   refine done_ (done_of HT_.out (by kernel_rfl)) ?_
   try go_wp2_with (fail)
   go_roundg (gk - 1)
   case measure => omega
   case rel => exact ⟨n + m, by go_num, ⟨by have := hmm.out; omega⟩, hG3, hB3⟩
  ·have hc : ¬ ((n : Int) < (N : Int)) := by omega
   obtain rfl : n = N := by omega
   go_wp2_with (fail)
   go_ret
   exact ⟨_, rfl, filled_own (Nat.le_refl _) (by omega) hG.out, hB.out⟩
theorem clone_calls (A : Option Addr) (c : Nat) (l : List Int) (w : World) (hl : l.length ≤ 17592186044415) (hr : Kd.C (Kd.int .i64) w A l.length l) :
  Calls Try.prog 114 #[.slice A l.length c] w fun e w' => ∃ v, e = .returned v ∧ Kd.R (Kd.int .i64) 3 w' w.heap.size (fun _ => True) v l ∧ Below w.heap.size w w' := by
 rcases Nat.eq_zero_or_pos l.length with h0 | h0
 ·obtain rfl : l = [] := List.eq_nil_of_length_eq_zero h0
  cases A with
  | none =>
   refine (Try.slices_Clone_int_nil 0 c w).mono ?_
   rintro e w' ⟨rfl, rfl⟩
   exact ⟨_, rfl, Kd.R_nil _ _ _ _ _, Below.refl _ _⟩
  | some a =>
   refine (Try.slices_Clone_int_zero a c w).mono ?_
   rintro e w' ⟨v, rfl, ho, _, hB⟩
   exact ⟨v, rfl, Kd.R_of_own ho (fun _ _ => trivial), hB⟩
 ·have hcell : ∀ j, j < l.length → ∃ ad, A = some ad ∧ w.cell? (ad.add j) = some (.int .i64 (l.getD j 0)) := fun j hj => by
   obtain ⟨ad, e, hc⟩ := Kd.at_int hr (j : Int) (by omega) (by omega)
   rw [Int.toNat_natCast] at hc
   exact ⟨ad, e, by simpa [rd] using hc⟩
  obtain ⟨ad, rfl, hc0⟩ := hcell 0 h0
  have hpl : ad = ⟨ad.block, ad.off, none⟩ := addr_plain (by simpa [Addr.add] using hc0)
  have hc : ∀ j, j < l.length → w.cell? ⟨ad.block, ad.off + j, none⟩ = some (.int .i64 (l.getD j 0)) := fun j hj => by
   obtain ⟨ad', e, hc⟩ := hcell j hj
   injection e with e
   subst e
   rw [← hc]
   congr 1
   unfold Addr.add
   split
   ·rename_i h; subst h; exact hpl.symm
   ·rfl
  rw [hpl]
  refine (Try.slices_Clone_int ad.block ad.off l.length c l w (Nat.le_refl _) (by omega) hc).mono ?_
  rintro e w' ⟨v, rfl, ho, _, hB⟩
  rw [List.take_of_length_le (Nat.le_refl _)] at ho
  exact ⟨v, rfl, Kd.R_of_own ho (fun _ _ => trivial), hB⟩
def slices_Repeat_int_int.f : List Int → Int → Option (List Int)
 | [v], n => if 1 ≤ n ∧ n ≤ 130 then some (List.replicate n.toNat v) else none
 | _, _ => none
theorem slices_Repeat_int_int.calls (A0 : Option Addr) (c0 : Nat) (l0 : List Int) (a1 : Int) (r : List Int) (w : World) (hr0 : Kd.C (Kd.int .i64) w A0 l0.length l0) (hc0 : l0.length ≤ c0) (h : slices_Repeat_int_int.f l0 a1 = some r) :
  Calls Try.prog 128 #[.slice A0 l0.length c0, .int .i64 a1] w fun e w' => ∃ v0_ : Value, e = .returned (v0_) ∧ Kd.R (Kd.int .i64) 3 w' w.heap.size (fun _ => True) v0_ r ∧ Below w.heap.size w w' := by
 unfold slices_Repeat_int_int.f at h
 split at h
 ·rename_i v0 v
  split at h
  ·rename_i hn
   obtain rfl := Option.some.inj h
   obtain ⟨ad, rfl, hc⟩ := Kd.at_int hr0 0 (by decide) (by simp)
   have hc' : w.cell? ad = some (.int .i64 v) := by simpa [Addr.add, rd] using hc
   obtain ⟨gb, go, hpl⟩ : ∃ b o, ad = ⟨b, o, none⟩ := ⟨_, _, addr_plain hc'⟩
   subst hpl
   obtain ⟨N, rfl⟩ := Int.eq_ofNat_of_zero_le (show 0 ≤ a1 by omega)
   refine (repeat_calls gb go c0 v N w (by omega) (by omega) hc' (World.block_lt_of_cell? w _ hc')).mono ?_
   rintro e w' ⟨u, rfl, ho, hB⟩
   have hl : N = (List.replicate N v).length := by simp
   rw [Int.toNat_natCast]
   exact ⟨u, rfl, Kd.R_of_own (by rw [← hl]; exact ho) (fun _ _ => trivial), hB⟩
  ·cases h
 ·cases h
end Go.Proofs.Ytnbnalbomflafaa.KA
namespace Go.Proofs.Ytnbnalbomflafaa.HB
open Go.RowKit YtnbnalbomflafaaW.PrintWords YtnbnalbomflafaaW.PrintLast YtnbnalbomflafaaW.PrintMore
open GA GB KA
attribute [local go_sem] max2_int min2_int max_two min_two max_three min_three max_four min_four
def errW : Option Int → Value
 | none => .nilIface
 | some c => .iface 0 (.int .i64 c)
theorem errW_none : errW none = .nilIface := rfl
theorem errW_some (c : Int) : errW (some c) = .iface 0 (.int .i64 c) := rfl
theorem info3 : (Try.prog.info? 3).map (fun i => (i.zero, i.size, i.bytes)) = some (some (.int .i64 0), 1, 8) := by kernel_rfl
def rd_L1 (xs : List (List Int)) (i : Int) : (List Int) := xs.getD i.toNat ([] : List Int)
theorem at_L1 {w : World} {A : Option Addr} {n : Nat} {xs : List (List Int)} (h : Kd.C (Kd.slice 3 (Kd.int .i64)) w A n xs) (i : Int) (h0 : 0 ≤ i) (h1 : i < n) : ∃ ad A0 c0, A = some ad ∧ w.cell? (ad.add i.toNat) = some (.slice A0 (rd_L1 xs i).length c0) ∧ (rd_L1 xs i).length ≤ c0 ∧ (Kd.int .i64).C w A0 (rd_L1 xs i).length (rd_L1 xs i) := by
 obtain ⟨ad, c, e, _, hK, hc0⟩ := Kd.C_get h ([] : List Int) i h0 h1
 have hc : ∀ j u, c[j]? = some u → w.cell? (ad.add (i.toNat * 1 + j)) = some u := hc0
 obtain ⟨A0, c0, rfl, l0, g0⟩ := hK
 exact ⟨ad, A0, c0, e, by have hq := hc 0 _ rfl; rwa [Nat.mul_one, Nat.add_zero] at hq, l0, g0⟩
end Go.Proofs.Ytnbnalbomflafaa.HB
