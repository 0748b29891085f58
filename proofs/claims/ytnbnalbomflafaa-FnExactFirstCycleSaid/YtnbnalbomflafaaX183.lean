/-
  Texts of the seat, merged (part 3).
-/
import Derived.Laws.Cover3
import Derived.Test.YtnbnalbomflafaaProg
import Derived.Below
import Derived.Deep.Draws
import Derived.Deep.AppendLies
import Derived.Maps.AppendAt
import Derived.OwnWalk
import Derived.Laws.BytesArg
import Derived.Laws.MakeOwn
import Derived.Laws.OwnMore
import Derived.Deep.OwnRows
import Derived.Tactics
import Derived.Lib.ConvBytes
import Derived.Laws.Slices
import Derived.WalkKit
import Derived.KernelRfl
import Derived.RowKit3
import Derived.Deep.LoopGhost
import Derived.Deep.QuietTactic
import Derived.BigQuiet
import Derived.WideLaws
import Derived.Deep.DeepCutAuto
import Derived.Deep.CutBlock
import Derived.Deep.RegionHeld3
import Derived.Laws.Rows
import Derived.Lib.AppendStr
import Derived.ArgAppend
import Derived.Laws.IdiomCopy
import Derived.OrdersHeld
import Derived.Laws.BitsLemmas
import Derived.RowKit
import Derived.Test.YtnbnalbomflafaaWWords
import Derived.Test.YtnbnalbomflafaaWLast
import Derived.Test.YtnbnalbomflafaaWTab
import Derived.Test.YtnbnalbomflafaaWFour
import Derived.Test.YtnbnalbomflafaaWQPut
import Derived.Test.YtnbnalbomflafaaWApart
import Derived.Test.YtnbnalbomflafaaWArr
import Derived.Test.YtnbnalbomflafaaWZeros
import Derived.Test.YtnbnalbomflafaaWFoot
import Derived.Test.YtnbnalbomflafaaWKept
import Derived.Test.YtnbnalbomflafaaWShare
import Derived.Test.YtnbnalbomflafaaWN
import Derived.Test.YtnbnalbomflafaaWFootNe
import Derived.Test.YtnbnalbomflafaaWAt
import Derived.Test.YtnbnalbomflafaaWEqStruct
import Derived.Test.YtnbnalbomflafaaWRepsOne
import Derived.Test.YtnbnalbomflafaaWInv
import Derived.Test.YtnbnalbomflafaaWInvWords
import Derived.Test.YtnbnalbomflafaaWGuard
import Derived.Test.YtnbnalbomflafaaWNEv
import Derived.Test.YtnbnalbomflafaaWMore
import Derived.Deep.Matrix
import Derived.Lib.SmallJoins
import Derived.ProofKit
import Derived.OpenShut
import Derived.ChangeSame
import Derived.Test.YtnbnalbomflafaaX182
/-! ## GX2 -/
namespace Go.Proofs.Ytnbnalbomflafaa.GX
open Go.RowKit Go.Proofs.YtnbnalbomflafaaW.PrintWords Go.Proofs.YtnbnalbomflafaaW.PrintLast Go.Proofs.YtnbnalbomflafaaW.PrintMore
open Go.Proofs.Ytnbnalbomflafaa.GA Go.Proofs.Ytnbnalbomflafaa.GZ Go.Proofs.Ytnbnalbomflafaa.RA
attribute [local go_sem] max2_int min2_int max_two min_two max_three min_three max_four min_four   -- for this text's walks alone
set_option linter.unusedVariables false
set_option linter.unusedSimpArgs false
mutual
def impl_Stacks_cycleOf.l0 : Nat → Int → List Int → Int → List (List Int) → List (List Int) → Option (List Int)
  | 0, _, _, _, _, _ => none
  | k + 1, x2, x7, x8, x103000, x104000 => if 0 ≤ x8 then (if x8 < (x103000.length : Int) then (if ((rd_L1 x103000 x8).length : Int) = 0 then (impl_Stacks_cycleOf.j1 k x2 x7 x8 true x103000 x104000) else (impl_Stacks_cycleOf.j1 k x2 x7 x8 (decide ((x7.length : Int) > (x104000.length : Int))) x103000 x104000)) else (none)) else (none)
def impl_Stacks_cycleOf.j1 : Nat → Int → List Int → Int → Bool → List (List Int) → List (List Int) → Option (List Int)
  | 0, _, _, _, _, _, _ => none
  | k + 1, x2, x7, x8, x26, x103000, x104000 => if x26 = true then (some ([] : List Int)) else (if x7.length < 17592186044416 then ((some (x7 ++ [x8] : List Int)).bind fun y108 => (if 0 ≤ x8 then (if x8 < (x104000.length : Int) then (if x8 < (x103000.length : Int) then (if 0 < ((rd_L1 x103000 x8).length : Int) then (if 0 ≤ (rd (rd_L1 x103000 x8) 0) then (if (rd (rd_L1 x103000 x8) 0) < ((rd_L1 x104000 x8).length : Int) then (if (rd (rd_L1 x104000 x8) (rd (rd_L1 x103000 x8) 0)) = x2 then ((slices_Min_int_int.f y108).bind fun t115 => ((slices_Index_int_int.f k y108 t115).bind fun t116 => (if 0 ≤ t116 then (if t116 ≤ (y108.length : Int) then ((slices_Concat_int_int.f k (([(y108.drop (t116 : Int).toNat), (y108.take (t116 : Int).toNat)] : List (List Int)))).bind fun t130 => (some t130)) else (none)) else (none)))) else (impl_Stacks_cycleOf.l0 k x2 y108 (rd (rd_L1 x104000 x8) (rd (rd_L1 x103000 x8) 0)) x103000 x104000)) else (none)) else (none)) else (none)) else (none)) else (none)) else (none))) else (none))
end
def impl_Stacks_cycleOf.f (k : Nat) (l0_0 : List (List Int)) (l1_0 : List (List Int)) (a2 : Int) : Option (List Int) := impl_Stacks_cycleOf.l0 k a2 (([] : List Int)) a2 l0_0 l1_0
def impl_Stacks_cycleOf.T6 : Bool × List (List Nat × List Nat) := (true, [([], []), ([0], [0]), ([], []), ([1, 2], [1, 2]), ([3], [3]), ([], []), ([5], [5]), ([], []), ([6, 7], [6, 7]), ([8], [8]), ([9], [9]), ([10], [10]), ([4, 11], [4, 11]), ([12], [12]), ([13, 0, 1, 2, 3, 4, 5, 6, 7, 8, 9, 10, 11, 12, 13], [2, 7, 13])])
def impl_Stacks_cycleOf.B6 : List Nat := [0, 1, 0, 7, 15, 0, 32, 0, 224, 480, 992, 2016, 4095, 8191, 16383]
theorem impl_Stacks_cycleOf.tab6 : rtab .any (opsOf Try.f125 6) = impl_Stacks_cycleOf.T6 := by kernel_rfl
theorem impl_Stacks_cycleOf.bits6 : waitsOk impl_Stacks_cycleOf.T6.2 impl_Stacks_cycleOf.B6 = true := by kernel_rfl
def impl_Stacks_cycleOf.T9 : Bool × List (List Nat × List Nat) := (true, [([], []), ([], []), ([0, 1], [0, 1]), ([], []), ([], []), ([3, 4], [3, 4]), ([2, 5], [2, 5]), ([6], [6]), ([7, 7, 0, 1, 2, 3, 4, 5, 6, 7], [7])])
def impl_Stacks_cycleOf.B9 : List Nat := [0, 0, 3, 0, 0, 24, 63, 127, 255]
theorem impl_Stacks_cycleOf.tab9 : rtab .any (opsOf Try.f125 9) = impl_Stacks_cycleOf.T9 := by kernel_rfl
theorem impl_Stacks_cycleOf.bits9 : waitsOk impl_Stacks_cycleOf.T9.2 impl_Stacks_cycleOf.B9 = true := by kernel_rfl
set_option maxHeartbeats 8000000 in
set_option maxRecDepth 100000 in
theorem impl_Stacks_cycleOf.calls (k : Nat) (A0_0 : Option Addr) (c0_0 : Nat) (l0_0 : List (List Int)) (A1_0 : Option Addr) (c1_0 : Nat) (l1_0 : List (List Int)) (a2 : Int) (r : List Int) (w : World) (hr0_0 : Kd.C (Kd.slice 3 (Kd.int .i64)) w A0_0 l0_0.length l0_0) (hc0_0 : l0_0.length ≤ c0_0) (hr1_0 : Kd.C (Kd.slice 3 (Kd.int .i64)) w A1_0 l1_0.length l1_0) (hc1_0 : l1_0.length ≤ c1_0) (h : impl_Stacks_cycleOf.f k l0_0 l1_0 a2 = some r) :
    Calls Try.prog 125 #[.agg #[.slice A0_0 l0_0.length c0_0], .agg #[.slice A1_0 l1_0.length c1_0], .int .i64 a2] w fun e w' => ∃ v0_ : Value, e = .returned (v0_) ∧ Kd.R (Kd.int .i64) 3 w' w.heap.size (fun _ => True) v0_ r ∧ Below w.heap.size w w' ∧ Aside0 (r = [] → v0_ = .slice none 0 0) := by
  have hu59 := Try.underlying59
  have hu30 := Try.underlying30
  have HR0_0 := Aside0.mk hr0_0
  have HC0_0 := Aside0.mk hc0_0
  clear hr0_0 hc0_0
  have HR1_0 := Aside0.mk hr1_0
  have HC1_0 := Aside0.mk hc1_0
  clear hr1_0 hc1_0
  have HB := Aside0.mk (Below.refl w.heap.size w)
  have H : (impl_Stacks_cycleOf.l0 k a2 (([] : List Int)) a2 l0_0 l1_0) = some r := h
  clear h
  obtain ⟨y104, hy104⟩ : ∃ y_ : List Int, y_ = (([] : List Int)) := ⟨_, rfl⟩
  replace H : (impl_Stacks_cycleOf.l0 k a2 y104 a2 l0_0 l1_0) = some r := by first | (rw [hy104]; with_reducible exact H) | (have H2_ := (Option.bind_some _ _).symm.trans H; rw [hy104]; with_reducible exact H2_) | (have H2_ := (Option.bind_some _ _).symm.trans H; with_reducible exact H2_) | with_reducible exact H | (rw [hy104]; exact H) | exact H
  have Ny104 := Aside0.mk hy104
  clear hy104
  have H' := Aside0.mk H
  clear H
  go_enter Try.func125, Try.ntmps125
  go_wp2_with (first | ((with_reducible refine gate_dst (N := 3) rfl ?_); (try (refine gate_guard (by rfl) ?_; dsimp only)); refine box_event ?hg (N := 3) ?hd (cs := #[.slice A0_0 l0_0.length c0_0]) (t := 59) ?hr ?_; (case hd => rfl); (case hg => rfl); (case hr => first | (go_simp; done) | (go_simp; rfl)); intro gb102 hg w4 hbox hb; have n0_ := Aside0.mk (below_step (by repeat (first | (with_reducible first | exact HB.out | apply below_alloc | apply pw_below_drewN | apply below_drew1) | exact HB.out)) hb); have n1_ := Aside0.mk (hbox); have n2_ := Aside0.mk ((by rw [hg]; exact (below_size (by repeat (first | (with_reducible first | exact HB.out | apply below_alloc | apply pw_below_drewN | apply below_drew1) | exact HB.out))) : w.heap.size ≤ gb102)); have n3_ := Aside0.mk ((by rw [hg]; exact (below_size (by repeat (first | (with_reducible first | exact HB.out | apply below_alloc | apply pw_below_drewN | apply below_drew1) | exact HB.out))) : w.heap.size ≤ gb102)); clear HB; have HB := n0_; have BK102 := n1_; have GW102 := n2_; have GE102 := n3_; clear n0_ n1_ n2_ n3_; clear hb hbox hg) | ((with_reducible refine gate_dst (N := 4) rfl ?_); (try (refine gate_guard (by rfl) ?_; dsimp only)); refine box_event ?hg (N := 4) ?hd (cs := #[.slice A1_0 l1_0.length c1_0]) (t := 30) ?hr ?_; (case hd => rfl); (case hg => rfl); (case hr => first | (go_simp; done) | (go_simp; rfl)); intro gb103 hg w5 hbox hb; have n0_ := Aside0.mk (blk_below (g := gb102) (o := .cells #[.slice A0_0 l0_0.length c0_0] 59 (0, 0)) (by (with_reducible repeat (first | refine blk_drewN ?_ _ | refine blk_drew ?_ | refine blk_alloc ?_ _)); exact BK102.out) hb); have n1_ := Aside0.mk (below_step (by repeat (first | (with_reducible first | exact HB.out | apply below_alloc | apply pw_below_drewN | apply below_drew1 | refine below_set ?_ GE102.out) | exact HB.out)) hb); have n2_ := Aside0.mk (hbox); have n3_ := Aside0.mk ((by rw [hg]; exact (below_size (by repeat (first | (with_reducible first | exact HB.out | apply below_alloc | apply pw_below_drewN | apply below_drew1 | refine below_set ?_ GE102.out) | exact HB.out))) : w.heap.size ≤ gb103)); have n4_ := Aside0.mk ((by rw [hg]; exact (below_size (by repeat (first | (with_reducible first | exact HB.out | apply below_alloc | apply pw_below_drewN | apply below_drew1 | refine below_set ?_ GE102.out) | exact HB.out))) : w.heap.size ≤ gb103)); have n5_ := Aside0.mk ((by rw [hg]; exact Nat.ne_of_lt (blk_lt (g := gb102) (o := .cells #[.slice A0_0 l0_0.length c0_0] 59 (0, 0)) (by (with_reducible repeat (first | refine blk_drewN ?_ _ | refine blk_drew ?_ | refine blk_alloc ?_ _)); exact BK102.out)) : gb102 ≠ gb103)); have n6_ := Aside0.mk ((by rw [hg]; exact Nat.ne_of_gt (blk_lt (g := gb102) (o := .cells #[.slice A0_0 l0_0.length c0_0] 59 (0, 0)) (by (with_reducible repeat (first | refine blk_drewN ?_ _ | refine blk_drew ?_ | refine blk_alloc ?_ _)); exact BK102.out)) : gb103 ≠ gb102)); clear BK102; clear HB; have BK102 := n0_; have HB := n1_; have BK103 := n2_; have GW103 := n3_; have GE103 := n4_; have NB102_103 := n5_; have NB103_102 := n6_; clear n0_ n1_ n2_ n3_ n4_ n5_ n6_; clear hb hbox hg) | ((with_reducible refine gate_dst (N := 10) rfl ?_); (try (refine gate_guard (by rfl) ?_; dsimp only)); refine Kd.R_lit (Kd.int .i64) _ 3 ?hg (N := 10) ?hd (xs := ([] : List Int)) (inner := []) (ok := fun _ => True) (okp := fun _ => True) ?hr ?hp (fun _ hk => hk) trivial (Below.refl _ _) (Nat.le_refl _) (by simp) ?_; (case hd => rfl); (case hg => rfl); (case hr => first | (go_simp; done) | (go_simp; rfl)); (case hp => exact (Reps.none _ _)); intro v105 w6 ho7 hb hg_ hnew_; clear hg_ hnew_; (first | rw [← Ny104.out] at ho7 | (simp only [Int.reduceToNat] at ho7; rw [← Ny104.out] at ho7)); have n0_ := Aside0.mk (Kd.R_lower ho7 (below_size (by repeat (first | (with_reducible first | exact HB.out | apply below_alloc | apply pw_below_drewN | apply below_drew1 | refine below_set ?_ GE102.out | refine below_set ?_ GE103.out) | exact HB.out)))); have n1_ := Aside0.mk (blk_below (g := gb102) (o := .cells #[.slice A0_0 l0_0.length c0_0] 59 (0, 0)) (by (with_reducible repeat (first | refine blk_drewN ?_ _ | refine blk_drew ?_ | refine blk_alloc ?_ _)); exact BK102.out) hb); have n2_ := Aside0.mk (blk_below (g := gb103) (o := .cells #[.slice A1_0 l1_0.length c1_0] 30 (0, 0)) (by (with_reducible repeat (first | refine blk_drewN ?_ _ | refine blk_drew ?_ | refine blk_alloc ?_ _)); exact BK103.out) hb); have n3_ := Aside0.mk (below_step (by repeat (first | (with_reducible first | exact HB.out | apply below_alloc | apply pw_below_drewN | apply below_drew1 | refine below_set ?_ GE102.out | refine below_set ?_ GE103.out) | exact HB.out)) hb); clear BK102; clear BK103; clear HB; have HO106 := n0_; have BK102 := n1_; have BK103 := n2_; have HB := n3_; clear n0_ n1_ n2_ n3_; clear hb ho7))
  go_loopg [7, 8] k (fun kq v7 v8 w' => ∃ (x7_1 : List Int) (x8_1 : Int), v8 = .int .i64 x8_1 ∧ Aside0 (impl_Stacks_cycleOf.l0 kq a2 x7_1 x8_1 l0_0 l1_0 = some r) ∧ Aside0 (kq ≤ k) ∧ Aside0 (Kd.R (Kd.int .i64) 3 w' w.heap.size (fun _ => True) v7 x7_1) ∧ Aside0 (w'.heap[gb102]? = some (.cells #[(.slice A0_0 l0_0.length c0_0)] 59 (0, 0))) ∧ Aside0 (w'.heap[gb103]? = some (.cells #[(.slice A1_0 l1_0.length c1_0)] 30 (0, 0))) ∧ Aside0 (Below w.heap.size w w'))
  case atStart => exact ⟨(y104), (a2), (by first | rfl | (simp; done) | (simp [*]; done)), H', ⟨Nat.le_refl _⟩, ⟨by (with_reducible repeat (first | apply Kd.R_alloc | apply Kd.R_drewN | apply Kd.R_drew)); exact HO106.out⟩, ⟨by (with_reducible repeat (first | refine blk_drewN ?_ _ | refine blk_drew ?_ | refine blk_alloc ?_ _)); exact BK102.out⟩, ⟨by (with_reducible repeat (first | refine blk_drewN ?_ _ | refine blk_drew ?_ | refine blk_alloc ?_ _)); exact BK103.out⟩, ⟨by repeat (first | (with_reducible first | exact HB.out | apply below_alloc | apply pw_below_drewN | apply below_drew1 | refine below_set ?_ GE102.out | refine below_set ?_ GE103.out) | exact HB.out)⟩⟩
  case round =>
    clear H'
    try clear c1
    try clear p2
    obtain ⟨x7_1, x8_1, rfl, HA, HK1, HO_7, BK102, BK103, HB⟩ := hrel
    cases gk with
    | zero => exact absurd HA.out (by simp [impl_Stacks_cycleOf.l0])
    | succ k1 =>
      have H := HA.out
      clear HA
      simp only [impl_Stacks_cycleOf.l0] at H
      have HC8 := Aside0.mk H
      clear H
      go_upto_region 3 with (fail)
      go_cut [26] (fun v26 wc => ∃ (kq : Nat) (x26_7 : Bool), v26 = .bool x26_7 ∧ Aside0 (impl_Stacks_cycleOf.j1 kq a2 x7_1 x8_1 x26_7 l0_0 l1_0 = some r) ∧ Aside0 (kq ≤ k1) ∧ Aside0 (Kd.R (Kd.int .i64) 3 wc w.heap.size (fun _ => True) u7 x7_1) ∧ Aside0 (wc.heap[gb102]? = some (.cells #[(.slice A0_0 l0_0.length c0_0)] 59 (0, 0))) ∧ Aside0 (wc.heap[gb103]? = some (.cells #[(.slice A1_0 l1_0.length c1_0)] 30 (0, 0))) ∧ Aside0 (Below w.heap.size w wc))
      case first =>
        have H := HC8.out
        clear HC8
        by_cases c9 : 0 ≤ x8_1
        · rw [if_pos c9] at H
          have c9b0 : decide (0 ≤ x8_1) = true := decide_eq_true c9
          clear c9
          (first | rw [c9b0] | (simp only [i64_w, i32_w]; rw [c9b0]) | skip)
          by_cases c10 : x8_1 < (l0_0.length : Int)
          · rw [if_pos c10] at H
            have c10b0 : decide (x8_1 < (l0_0.length : Int)) = true := decide_eq_true c10
            clear c10
            by_cases c11 : ((rd_L1 l0_0 x8_1).length : Int) = 0
            · rw [if_pos c11] at H
              have c11b0 : (((rd_L1 l0_0 x8_1).length : Int) == 0) = true := beq_iff_eq.mpr c11
              have c11b1 : (((rd_L1 l0_0 x8_1).length : Int) != 0) = false := bne_eq_false_iff_eq.mpr c11
              clear c11
              have H' := Aside0.mk H
              clear H
              have hnb12 := NB102_103.out
              have hnc12 := NB103_102.out
              have hcz13_0 : wr.cell? ⟨gb102, 0, none⟩ = some (.slice A0_0 l0_0.length c0_0) := (blk_cell BK102.out 0).trans rfl
              have hfz13_0 := blk_frozen BK102.out 0
              have p107 : 0 ≤ (x8_1 : Int) := of_decide_eq_true (by first | (with_reducible assumption) | assumption)
              have q107 : x8_1 < (l0_0.length : Int) := of_decide_eq_true (by first | (with_reducible assumption) | assumption)
              obtain ⟨ad107, A107_0, c107_0, e107, hx107_0, hl107_0, hi107_0⟩ := at_L1 HR0_0.out x8_1 p107 q107
              cases e107
              replace hx107_0 := (HB.out.cell (World.block_lt_of_cell? w _ hx107_0)).trans hx107_0
              have HR107_0 := Aside0.mk hi107_0
              have HC107_0 := Aside0.mk hl107_0
              clear hi107_0 hl107_0
              replace p107 := eq_true p107
              replace q107 := eq_true q107
              go_wp2
              go_meet
              case rel => exact ⟨_, (true), (by first | rfl | (simp; done) | (simp [*]; done)), H', ⟨by have := HK1.out; first | omega | exact Nat.le_refl _⟩, ⟨by (with_reducible repeat (first | apply Kd.R_alloc | apply Kd.R_drewN | apply Kd.R_drew)); exact HO_7.out⟩, ⟨by (with_reducible repeat (first | refine blk_drewN ?_ _ | refine blk_drew ?_ | refine blk_alloc ?_ _)); exact BK102.out⟩, ⟨by (with_reducible repeat (first | refine blk_drewN ?_ _ | refine blk_drew ?_ | refine blk_alloc ?_ _)); exact BK103.out⟩, ⟨by repeat (first | (with_reducible first | exact HB.out | apply below_alloc | apply pw_below_drewN | apply below_drew1 | refine below_set ?_ GE102.out | refine below_set ?_ GE103.out) | exact HB.out)⟩⟩
            · rw [if_neg c11] at H
              have c11b0 : (((rd_L1 l0_0 x8_1).length : Int) == 0) = false := beq_eq_false_iff_ne.mpr c11
              have c11b1 : (((rd_L1 l0_0 x8_1).length : Int) != 0) = true := bne_iff_ne.mpr c11
              have c11b2 : ¬ ((rd_L1 l0_0 x8_1) = []) := fun h_ => c11 (by rw [h_]; rfl)
              have H' := Aside0.mk H
              clear H
              have hnb14 := NB102_103.out
              have hnc14 := NB103_102.out
              have hcz15_0 : wr.cell? ⟨gb102, 0, none⟩ = some (.slice A0_0 l0_0.length c0_0) := (blk_cell BK102.out 0).trans rfl
              have hfz15_0 := blk_frozen BK102.out 0
              have p107 : 0 ≤ (x8_1 : Int) := of_decide_eq_true (by first | (with_reducible assumption) | assumption)
              have q107 : x8_1 < (l0_0.length : Int) := of_decide_eq_true (by first | (with_reducible assumption) | assumption)
              obtain ⟨ad107, A107_0, c107_0, e107, hx107_0, hl107_0, hi107_0⟩ := at_L1 HR0_0.out x8_1 p107 q107
              cases e107
              replace hx107_0 := (HB.out.cell (World.block_lt_of_cell? w _ hx107_0)).trans hx107_0
              have HR107_0 := Aside0.mk hi107_0
              have HC107_0 := Aside0.mk hl107_0
              clear hi107_0 hl107_0
              replace p107 := eq_true p107
              replace q107 := eq_true q107
              obtain ⟨Ao16, co16, eo16⟩ := Kd.R_slice HO_7.out
              subst eo16
              have hcz17_0 : wr.cell? ⟨gb103, 0, none⟩ = some (.slice A1_0 l1_0.length c1_0) := (blk_cell BK103.out 0).trans rfl
              have hfz17_0 := blk_frozen BK103.out 0
              go_wp2
              go_meet
              case rel => exact ⟨_, (decide ((x7_1.length : Int) > (l1_0.length : Int))), (by first | rfl | (simp; done) | (simp [*]; done)), H', ⟨by have := HK1.out; first | omega | exact Nat.le_refl _⟩, ⟨by (with_reducible repeat (first | apply Kd.R_alloc | apply Kd.R_drewN | apply Kd.R_drew)); exact HO_7.out⟩, ⟨by (with_reducible repeat (first | refine blk_drewN ?_ _ | refine blk_drew ?_ | refine blk_alloc ?_ _)); exact BK102.out⟩, ⟨by (with_reducible repeat (first | refine blk_drewN ?_ _ | refine blk_drew ?_ | refine blk_alloc ?_ _)); exact BK103.out⟩, ⟨by repeat (first | (with_reducible first | exact HB.out | apply below_alloc | apply pw_below_drewN | apply below_drew1 | refine below_set ?_ GE102.out | refine below_set ?_ GE103.out) | exact HB.out)⟩⟩
          · rw [if_neg c10] at H
            exact absurd H (by simp)
        · rw [if_neg c9] at H
          exact absurd H (by simp)
      case rest =>
        clear HC8
        try clear c1
        try clear p1
        try clear q1
        try clear hx1
        try clear p2
        try clear c9
        try clear c9b0
        try clear c10
        try clear c10b0
        try clear p10
        try clear q10
        try clear hx10
        try clear c11
        try clear c11b0
        try clear c11b1
        try clear c11b2
        try clear c12
        try clear c14
        try clear hcz13_0
        try clear hcz15_0
        try clear hcz17_0
        try clear hfz13_0
        try clear hfz15_0
        try clear hfz17_0
        try clear hx107_0
        try clear p107
        try clear p2
        try clear q107
        obtain ⟨kq, x26_7, rfl, HA, HJ7, HO_7, BK102, BK103, HB⟩ := hcut
        cases kq with
        | zero => exact absurd HA.out (by simp [impl_Stacks_cycleOf.j1])
        | succ kj7 =>
          have H := HA.out
          clear HA
          simp only [impl_Stacks_cycleOf.j1] at H
          by_cases c18 : x26_7 = true
          · subst c18
            have H1 : (some ([] : List Int)) = some r := by rw [if_pos rfl] at H; exact H
            clear H
            have H := H1
            clear H1
            obtain rfl := Option.some.inj H
            go_wp2
            go_ret
            exact ⟨_, by first | rfl | (simp [errW_none, errW_some] <;> rfl) | (simp [*, errW_none, errW_some] <;> rfl), by first | exact Kd.R_nil _ _ _ _ _ | exact Kd.N_nil _ _ _ _ _ | exact Kd.V_nil _ _ _ _ _ | exact Kd.Q_nil _ _ _ _ _ | exact Kd.S_nil _ _ _ _ _, by repeat (first | (with_reducible first | exact HB.out | apply below_alloc | apply pw_below_drewN | apply below_drew1 | refine below_set ?_ GE102.out | refine below_set ?_ GE103.out) | exact HB.out), ⟨by first | rfl | exact fun _ => rfl⟩⟩
          · replace c18 := Bool.eq_false_iff.mpr c18
            subst c18
            have H1 : (if x7_1.length < 17592186044416 then ((some (x7_1 ++ [x8_1] : List Int)).bind fun y108 => (if 0 ≤ x8_1 then (if x8_1 < (l1_0.length : Int) then (if x8_1 < (l0_0.length : Int) then (if 0 < ((rd_L1 l0_0 x8_1).length : Int) then (if 0 ≤ (rd (rd_L1 l0_0 x8_1) 0) then (if (rd (rd_L1 l0_0 x8_1) 0) < ((rd_L1 l1_0 x8_1).length : Int) then (if (rd (rd_L1 l1_0 x8_1) (rd (rd_L1 l0_0 x8_1) 0)) = a2 then ((slices_Min_int_int.f y108).bind fun t115 => ((slices_Index_int_int.f kj7 y108 t115).bind fun t116 => (if 0 ≤ t116 then (if t116 ≤ (y108.length : Int) then ((slices_Concat_int_int.f kj7 (([(y108.drop (t116 : Int).toNat), (y108.take (t116 : Int).toNat)] : List (List Int)))).bind fun t130 => (some t130)) else (none)) else (none)))) else (impl_Stacks_cycleOf.l0 kj7 a2 y108 (rd (rd_L1 l1_0 x8_1) (rd (rd_L1 l0_0 x8_1) 0)) l0_0 l1_0)) else (none)) else (none)) else (none)) else (none)) else (none)) else (none))) else (none)) = some r := by rw [if_neg (show ¬ (false = true) by decide)] at H; exact H
            clear H
            have H := H1
            clear H1
            by_cases c19 : x7_1.length < 17592186044416
            · rw [if_pos c19] at H
              have LMc19 := Aside0.mk c19
              clear c19
              obtain ⟨y108, hy108⟩ : ∃ y_ : List Int, y_ = (x7_1 ++ [x8_1]) := ⟨_, rfl⟩
              replace H : (if 0 ≤ x8_1 then (if x8_1 < (l1_0.length : Int) then (if x8_1 < (l0_0.length : Int) then (if 0 < ((rd_L1 l0_0 x8_1).length : Int) then (if 0 ≤ (rd (rd_L1 l0_0 x8_1) 0) then (if (rd (rd_L1 l0_0 x8_1) 0) < ((rd_L1 l1_0 x8_1).length : Int) then (if (rd (rd_L1 l1_0 x8_1) (rd (rd_L1 l0_0 x8_1) 0)) = a2 then ((slices_Min_int_int.f y108).bind fun t115 => ((slices_Index_int_int.f kj7 y108 t115).bind fun t116 => (if 0 ≤ t116 then (if t116 ≤ (y108.length : Int) then ((slices_Concat_int_int.f kj7 (([(y108.drop (t116 : Int).toNat), (y108.take (t116 : Int).toNat)] : List (List Int)))).bind fun t130 => (some t130)) else (none)) else (none)))) else (impl_Stacks_cycleOf.l0 kj7 a2 y108 (rd (rd_L1 l1_0 x8_1) (rd (rd_L1 l0_0 x8_1) 0)) l0_0 l1_0)) else (none)) else (none)) else (none)) else (none)) else (none)) else (none)) = some r := by first | (rw [hy108]; with_reducible exact H) | (have H2_ := (Option.bind_some _ _).symm.trans H; rw [hy108]; with_reducible exact H2_) | (have H2_ := (Option.bind_some _ _).symm.trans H; with_reducible exact H2_) | with_reducible exact H | (rw [hy108]; exact H) | exact H
              have Ny108 := Aside0.mk hy108
              clear hy108
              by_cases c20 : 0 ≤ x8_1
              · rw [if_pos c20] at H
                have c20b0 : decide (0 ≤ x8_1) = true := decide_eq_true c20
                clear c20
                by_cases c21 : x8_1 < (l1_0.length : Int)
                · rw [if_pos c21] at H
                  have c21b0 : decide (x8_1 < (l1_0.length : Int)) = true := decide_eq_true c21
                  clear c21
                  by_cases c22 : x8_1 < (l0_0.length : Int)
                  · rw [if_pos c22] at H
                    have c22b0 : decide (x8_1 < (l0_0.length : Int)) = true := decide_eq_true c22
                    clear c22
                    by_cases c23 : 0 < ((rd_L1 l0_0 x8_1).length : Int)
                    · rw [if_pos c23] at H
                      have c23b0 : decide (0 < ((rd_L1 l0_0 x8_1).length : Int)) = true := decide_eq_true c23
                      have c23b1 : decide (0 < (rd_L1 l0_0 x8_1).length) = true := decide_eq_true (by omega)
                      clear c23
                      by_cases c24 : 0 ≤ (rd (rd_L1 l0_0 x8_1) 0)
                      · rw [if_pos c24] at H
                        have c24b0 : decide (0 ≤ (rd (rd_L1 l0_0 x8_1) 0)) = true := decide_eq_true c24
                        clear c24
                        by_cases c25 : (rd (rd_L1 l0_0 x8_1) 0) < ((rd_L1 l1_0 x8_1).length : Int)
                        · rw [if_pos c25] at H
                          have c25b0 : decide ((rd (rd_L1 l0_0 x8_1) 0) < ((rd_L1 l1_0 x8_1).length : Int)) = true := decide_eq_true c25
                          clear c25
                          by_cases c26 : (rd (rd_L1 l1_0 x8_1) (rd (rd_L1 l0_0 x8_1) 0)) = a2
                          · rw [if_pos c26] at H
                            have c26b0 : ((rd (rd_L1 l1_0 x8_1) (rd (rd_L1 l0_0 x8_1) 0)) == a2) = true := beq_iff_eq.mpr c26
                            have c26b1 : ((rd (rd_L1 l1_0 x8_1) (rd (rd_L1 l0_0 x8_1) 0)) != a2) = false := bne_eq_false_iff_eq.mpr c26
                            clear c26
                            replace H := Option.bind_eq_some_iff.mp H
                            obtain ⟨t115, A270, H⟩ := H
                            replace H : ((slices_Index_int_int.f kj7 y108 t115).bind fun t116 => (if 0 ≤ t116 then (if t116 ≤ (y108.length : Int) then ((slices_Concat_int_int.f kj7 (([(y108.drop (t116 : Int).toNat), (y108.take (t116 : Int).toNat)] : List (List Int)))).bind fun t130 => (some t130)) else (none)) else (none))) = some r := H
                            have A27 := Aside0.mk A270
                            clear A270
                            replace H := Option.bind_eq_some_iff.mp H
                            obtain ⟨t116, A280, H⟩ := H
                            replace H : (if 0 ≤ t116 then (if t116 ≤ (y108.length : Int) then ((slices_Concat_int_int.f kj7 (([(y108.drop (t116 : Int).toNat), (y108.take (t116 : Int).toNat)] : List (List Int)))).bind fun t130 => (some t130)) else (none)) else (none)) = some r := H
                            have A28 := Aside0.mk A280
                            clear A280
                            by_cases c29 : 0 ≤ t116
                            · rw [if_pos c29] at H
                              have c29b0 := eq_true c29
                              have c29b1 : decide (0 ≤ t116) = true := decide_eq_true c29
                              clear c29
                              by_cases c30 : t116 ≤ (y108.length : Int)
                              · rw [if_pos c30] at H
                                have c30b0 := eq_true c30
                                have c30b1 : decide (t116 ≤ (y108.length : Int)) = true := decide_eq_true c30
                                clear c30
                                obtain ⟨y117, hy117⟩ : ∃ y_ : List Int, y_ = (y108.drop (t116 : Int).toNat) := ⟨_, rfl⟩
                                replace H : ((slices_Concat_int_int.f kj7 (([y117, (y108.take (t116 : Int).toNat)] : List (List Int)))).bind fun t130 => (some t130)) = some r := by first | (rw [hy117]; with_reducible exact H) | (have H2_ := (Option.bind_some _ _).symm.trans H; rw [hy117]; with_reducible exact H2_) | (have H2_ := (Option.bind_some _ _).symm.trans H; with_reducible exact H2_) | with_reducible exact H | (rw [hy117]; exact H) | exact H
                                have Ny117 := Aside0.mk hy117
                                clear hy117
                                have c31b0 := eq_true (of_decide_eq_true (by first | (with_reducible assumption) | assumption) : 0 ≤ t116)
                                have c32b0 := eq_true (of_decide_eq_true (by first | (with_reducible assumption) | assumption) : t116 ≤ (y108.length : Int))
                                obtain ⟨y122, hy122⟩ : ∃ y_ : List Int, y_ = (y108.take (t116 : Int).toNat) := ⟨_, rfl⟩
                                replace H : ((slices_Concat_int_int.f kj7 (([y117, y122] : List (List Int)))).bind fun t130 => (some t130)) = some r := by first | (rw [hy122]; with_reducible exact H) | (have H2_ := (Option.bind_some _ _).symm.trans H; rw [hy122]; with_reducible exact H2_) | (have H2_ := (Option.bind_some _ _).symm.trans H; with_reducible exact H2_) | with_reducible exact H | (rw [hy122]; exact H) | exact H
                                have Ny122 := Aside0.mk hy122
                                clear hy122
                                obtain ⟨y127, hy127⟩ : ∃ y_ : List (List Int), y_ = (([y117, y122] : List (List Int))) := ⟨_, rfl⟩
                                replace H : ((slices_Concat_int_int.f kj7 y127).bind fun t130 => (some t130)) = some r := by first | (rw [hy127]; with_reducible exact H) | (have H2_ := (Option.bind_some _ _).symm.trans H; rw [hy127]; with_reducible exact H2_) | (have H2_ := (Option.bind_some _ _).symm.trans H; with_reducible exact H2_) | with_reducible exact H | (rw [hy127]; exact H) | exact H
                                have Ny127 := Aside0.mk hy127
                                clear hy127
                                replace H := Option.bind_eq_some_iff.mp H
                                obtain ⟨t130, A330, H⟩ := H
                                replace H : (some t130) = some r := H
                                have NE_ := Aside0.mk (concat_ne A330 Ny127.out Ny117.out Ny122.out A27.out); have A33 := Aside0.mk A330
                                clear A330
                                obtain rfl := Option.some.inj H
                                try go_wp2_with (first | ((with_reducible refine gate_builtin (b := .append) (xs := #[.tmp 27, .tmp 29]) rfl ?_); (try (refine gate_guard (by rfl) ?_; dsimp only)); at_builtin; refine Kd.R_append (Kd.int .i64) (w0 := w) w.heap.size rfl (.tmp 27) (.tmp 29) 37 3 (.int .i64 0) 8 rfl Try.underlying37 info3 rfl (by decide) (by omega) u7 x7_1 x8_1 [.int .i64 x8_1] (fun _ => True) (fun _ => False) rfl rfl ?aP (fun _ hk => hk.elim) ?aF ?aO ?aB ?aS ?aL ?_; (case aP => exact rfl); (case aB => exact (by repeat (first | (with_reducible first | exact HB.out | apply below_alloc | apply pw_below_drewN | apply below_drew1 | refine below_set ?_ GE102.out | refine below_set ?_ GE103.out) | exact HB.out))); (case aF => exact (fun _ _ => trivial)); (case aO => exact (by (with_reducible repeat (first | apply Kd.R_alloc | apply Kd.R_drewN | apply Kd.R_drew)); exact HO_7.out)); (case aS => exact (below_size (by repeat (first | (with_reducible first | exact HB.out | apply below_alloc | apply pw_below_drewN | apply below_drew1 | refine below_set ?_ GE102.out | refine below_set ?_ GE103.out) | exact HB.out)))); (case aL => have := LMc19.out; omega); intro v109 w34 ho hb hg hat; rw [← Ny108.out] at ho; have n0_ := Aside0.mk (blk_grown (g := gb102) (o := .cells #[.slice A0_0 l0_0.length c0_0] 59 (0, 0)) (by (with_reducible repeat (first | refine blk_drewN ?_ _ | refine blk_drew ?_ | refine blk_alloc ?_ _)); exact BK102.out) hg (Kd.R_ne HO_7.out BK102.out (by decide))); have n1_ := Aside0.mk (blk_grown (g := gb103) (o := .cells #[.slice A1_0 l1_0.length c1_0] 30 (0, 0)) (by (with_reducible repeat (first | refine blk_drewN ?_ _ | refine blk_drew ?_ | refine blk_alloc ?_ _)); exact BK103.out) hg (Kd.R_ne HO_7.out BK103.out (by decide))); have n2_ := Aside0.mk (hb); have n3_ := Aside0.mk (ho); clear BK102; clear BK103; clear HB; clear HO_7; have BK102 := n0_; have BK103 := n1_; have HB := n2_; have HO110 := n3_; clear n0_ n1_ n2_ n3_; clear ho hb hg hat))
                                have n0_ := Aside0.mk (Kd.R_drew HO110.out)
                                have n1_ := Aside0.mk (blk_drew BK102.out)
                                have n2_ := Aside0.mk (blk_drew BK103.out)
                                have n3_ := Aside0.mk (below_drew1 HB.out)
                                clear HO110
                                clear BK102
                                clear BK103
                                clear HB
                                have HO110 := n0_
                                have BK102 := n1_
                                have BK103 := n2_
                                have HB := n3_
                                clear n0_ n1_ n2_ n3_
                                have p111 : 0 ≤ (x8_1 : Int) := of_decide_eq_true (by first | (with_reducible assumption) | assumption)
                                have q111 : x8_1 < (l1_0.length : Int) := of_decide_eq_true (by first | (with_reducible assumption) | assumption)
                                obtain ⟨ad111, A111_0, c111_0, e111, hx111_0, hl111_0, hi111_0⟩ := at_L1 HR1_0.out x8_1 p111 q111
                                have hw111_0 := hx111_0
                                cases e111
                                replace hx111_0 := (HB.out.cell (World.block_lt_of_cell? w _ hx111_0)).trans hx111_0
                                have HR111_0 := Aside0.mk hi111_0
                                have HC111_0 := Aside0.mk hl111_0
                                clear hi111_0 hl111_0
                                replace p111 := eq_true p111
                                replace q111 := eq_true q111
                                have p112 : 0 ≤ (x8_1 : Int) := of_decide_eq_true (by first | (with_reducible assumption) | assumption)
                                have q112 : x8_1 < (l0_0.length : Int) := of_decide_eq_true (by first | (with_reducible assumption) | assumption)
                                obtain ⟨ad112, A112_0, c112_0, e112, hx112_0, hl112_0, hi112_0⟩ := at_L1 HR0_0.out x8_1 p112 q112
                                have hw112_0 := hx112_0
                                cases e112
                                replace hx112_0 := (HB.out.cell (World.block_lt_of_cell? w _ hx112_0)).trans hx112_0
                                have HR112_0 := Aside0.mk hi112_0
                                have HC112_0 := Aside0.mk hl112_0
                                clear hi112_0 hl112_0
                                replace p112 := eq_true p112
                                replace q112 := eq_true q112
                                have p113 : 0 ≤ (0 : Int) := (by omega)
                                have q113 : 0 < ((rd_L1 l0_0 x8_1).length : Int) := of_decide_eq_true (by first | (with_reducible assumption) | assumption)
                                obtain ⟨ad113, e113, hx113_0⟩ := Kd.at_int HR112_0.out 0 p113 q113
                                have hw113_0 := hx113_0
                                (try rw [show ((0 : Int)).toNat = 0 from rfl] at hw113_0)
                                (try rw [show 0 * 1 = 0 from rfl] at hw113_0)
                                (try rw [Addr.add_zero'] at hw113_0)
                                cases e113
                                have qi113 : (0 < (rd_L1 l0_0 x8_1).length) = True := eq_true (by omega)
                                (try rw [show ((0 : Int)).toNat = 0 from rfl] at hx113_0)
                                (try rw [Addr.add_zero'] at hx113_0)
                                replace hx113_0 := (HB.out.cell (World.block_lt_of_cell? w _ hx113_0)).trans hx113_0
                                replace p113 := eq_true p113
                                replace q113 := eq_true q113
                                have p114 : 0 ≤ ((rd (rd_L1 l0_0 x8_1) 0) : Int) := of_decide_eq_true (by first | (with_reducible assumption) | assumption)
                                have q114 : (rd (rd_L1 l0_0 x8_1) 0) < ((rd_L1 l1_0 x8_1).length : Int) := of_decide_eq_true (by first | (with_reducible assumption) | assumption)
                                obtain ⟨ad114, e114, hx114_0⟩ := Kd.at_int HR111_0.out (rd (rd_L1 l0_0 x8_1) 0) p114 q114
                                have hw114_0 := hx114_0
                                cases e114
                                replace hx114_0 := (HB.out.cell (World.block_lt_of_cell? w _ hx114_0)).trans hx114_0
                                replace p114 := eq_true p114
                                replace q114 := eq_true q114
                                refine start_ (n := 15) (S := fun w' => w'.cell? ⟨gb103, 0, none⟩ = some (.slice (some ad111) l1_0.length c1_0) ∧ w'.cell? ⟨gb102, 0, none⟩ = some (.slice (some ad112) l0_0.length c0_0) ∧ w'.cell? (ad111.add (x8_1).toNat) = some (.slice (some ad114) (rd_L1 l1_0 x8_1).length c111_0) ∧ w'.cell? (ad112.add (x8_1).toNat) = some (.slice (some ad113) (rd_L1 l0_0 x8_1).length c112_0) ∧ w'.cell? ad113 = some (.int .i64 (rd (rd_L1 l0_0 x8_1) 0)) ∧ w'.cell? (ad114.add ((rd (rd_L1 l0_0 x8_1) 0)).toNat) = some (.int .i64 (rd (rd_L1 l1_0 x8_1) (rd (rd_L1 l0_0 x8_1) 0)))) (ds := []) #[false, false, false, false, false, false, false, false, false, false, false, false, false, false, false] (by kernel_rfl) rfl rfl ⟨(blk_cell BK103.out 0).trans rfl, (blk_cell BK102.out 0).trans rfl, ((HB.out.cell (World.block_lt_of_cell? w _ hw111_0)).trans hw111_0), ((HB.out.cell (World.block_lt_of_cell? w _ hw112_0)).trans hw112_0), ((HB.out.cell (World.block_lt_of_cell? w _ hw113_0)).trans hw113_0), ((HB.out.cell (World.block_lt_of_cell? w _ hw114_0)).trans hw114_0)⟩ (fun hHeld => ?_); refine with_tabW impl_Stacks_cycleOf.tab6 impl_Stacks_cycleOf.bits6 (fun HT_ HW_ => ?_)
                                generalize w34.drew = w35 at HO110 BK102 BK103 HB HR111_0 HR112_0 hx111_0 hx112_0 hx113_0 hx114_0 hHeld ⊢
                                refine pure_ (i := 0) (N := some 31) (v := ?_) (a' := ?_) #[true, false, false, false, false, false, false, false, false, false, false, false, false, false, false] rfl rfl (any_of HT_.out (by kernel_rfl)) (fun _ _ _ h => h) (Or.inl ⟨by rfl, ?_⟩) ?_ ?_
                                rotate_left
                                · intro w'
                                  go_simp
                                  with_reducible rfl
                                rotate_left
                                · simp only [Act.put, List.setIfInBounds_toArray, List.set_cons_zero, List.set_cons_succ, i64_w, i32_w]
                                  rfl
                                refine pure_ (i := 2) (N := some 33) (v := ?_) (a' := ?_) #[true, false, true, false, false, false, false, false, false, false, false, false, false, false, false] rfl rfl (any_of HT_.out (by kernel_rfl)) (fun _ _ _ h => h) (Or.inl ⟨by rfl, ?_⟩) ?_ ?_
                                rotate_left
                                · intro w'
                                  go_simp
                                  with_reducible rfl
                                rotate_left
                                · simp only [Act.put, List.setIfInBounds_toArray, List.set_cons_zero, List.set_cons_succ, i64_w, i32_w]
                                  rfl
                                refine pure_ (i := 5) (N := some 36) (v := ?_) (a' := ?_) #[true, false, true, false, false, true, false, false, false, false, false, false, false, false, false] rfl rfl (any_of HT_.out (by kernel_rfl)) (fun _ _ _ h => h) (Or.inl ⟨by rfl, ?_⟩) ?_ ?_
                                rotate_left
                                · intro w'
                                  go_simp
                                  with_reducible rfl
                                rotate_left
                                · simp only [Act.put, List.setIfInBounds_toArray, List.set_cons_zero, List.set_cons_succ, i64_w, i32_w]
                                  rfl
                                refine pure_ (i := 7) (N := some 38) (v := ?_) (a' := ?_) #[true, false, true, false, false, true, false, true, false, false, false, false, false, false, false] rfl rfl (any_of HT_.out (by kernel_rfl)) (fun _ _ _ h => h) (Or.inl ⟨by rfl, ?_⟩) ?_ ?_
                                rotate_left
                                · intro w'
                                  go_simp
                                  with_reducible rfl
                                rotate_left
                                · simp only [Act.put, List.setIfInBounds_toArray, List.set_cons_zero, List.set_cons_succ, i64_w, i32_w]
                                  rfl
                                refine take_ (i := 1) (N := some 32) (v := ?_) (a' := ?_) #[true, true, true, false, false, true, false, true, false, false, false, false, false, false, false] rfl rfl (take_ofW HT_.out HW_.out (by kernel_rfl)) (fun _ _ _ h => h) (Or.inl ⟨by rfl, ?_⟩) hHeld ?_ ?_
                                rotate_left
                                · rintro w' ⟨s0, s1, s2, s3, s4, s5⟩
                                  go_simp
                                  with_reducible rfl
                                rotate_left
                                · simp only [Act.put, List.setIfInBounds_toArray, List.set_cons_zero, List.set_cons_succ, i64_w, i32_w]
                                  rfl
                                refine pure_ (i := 3) (N := some 34) (v := ?_) (a' := ?_) #[true, true, true, true, false, true, false, true, false, false, false, false, false, false, false] rfl rfl (any_of HT_.out (by kernel_rfl)) (fun _ _ _ h => h) (Or.inl ⟨by rfl, ?_⟩) ?_ ?_
                                rotate_left
                                · intro w'
                                  go_simp
                                  with_reducible rfl
                                rotate_left
                                · simp only [Act.put, List.setIfInBounds_toArray, List.set_cons_zero, List.set_cons_succ, i64_w, i32_w]
                                  rfl
                                refine take_ (i := 4) (N := some 35) (v := ?_) (a' := ?_) #[true, true, true, true, true, true, false, true, false, false, false, false, false, false, false] rfl rfl (take_ofW HT_.out HW_.out (by kernel_rfl)) (fun _ _ _ h => h) (Or.inl ⟨by rfl, ?_⟩) hHeld ?_ ?_
                                rotate_left
                                · rintro w' ⟨s0, s1, s2, s3, s4, s5⟩
                                  go_simp
                                  with_reducible rfl
                                rotate_left
                                · simp only [Act.put, List.setIfInBounds_toArray, List.set_cons_zero, List.set_cons_succ, i64_w, i32_w]
                                  rfl
                                refine take_ (i := 6) (N := some 37) (v := ?_) (a' := ?_) #[true, true, true, true, true, true, true, true, false, false, false, false, false, false, false] rfl rfl (take_ofW HT_.out HW_.out (by kernel_rfl)) (fun _ _ _ h => h) (Or.inl ⟨by rfl, ?_⟩) hHeld ?_ ?_
                                rotate_left
                                · rintro w' ⟨s0, s1, s2, s3, s4, s5⟩
                                  go_simp
                                  with_reducible rfl
                                rotate_left
                                · simp only [Act.put, List.setIfInBounds_toArray, List.set_cons_zero, List.set_cons_succ, i64_w, i32_w]
                                  rfl
                                refine pure_ (i := 8) (N := some 39) (v := ?_) (a' := ?_) #[true, true, true, true, true, true, true, true, true, false, false, false, false, false, false] rfl rfl (any_of HT_.out (by kernel_rfl)) (fun _ _ _ h => h) (Or.inl ⟨by rfl, ?_⟩) ?_ ?_
                                rotate_left
                                · intro w'
                                  go_simp
                                  with_reducible rfl
                                rotate_left
                                · simp only [Act.put, List.setIfInBounds_toArray, List.set_cons_zero, List.set_cons_succ, i64_w, i32_w]
                                  rfl
                                refine take_ (i := 9) (N := some 40) (v := ?_) (a' := ?_) #[true, true, true, true, true, true, true, true, true, true, false, false, false, false, false] rfl rfl (take_ofW HT_.out HW_.out (by kernel_rfl)) (fun _ _ _ h => h) (Or.inl ⟨by rfl, ?_⟩) hHeld ?_ ?_
                                rotate_left
                                · rintro w' ⟨s0, s1, s2, s3, s4, s5⟩
                                  go_simp
                                  with_reducible rfl
                                rotate_left
                                · simp only [Act.put, List.setIfInBounds_toArray, List.set_cons_zero, List.set_cons_succ, i64_w, i32_w]
                                  rfl
                                refine pure_ (i := 10) (N := some 41) (v := ?_) (a' := ?_) #[true, true, true, true, true, true, true, true, true, true, true, false, false, false, false] rfl rfl (any_of HT_.out (by kernel_rfl)) (fun _ _ _ h => h) (Or.inl ⟨by rfl, ?_⟩) ?_ ?_
                                rotate_left
                                · intro w'
                                  go_simp
                                  with_reducible rfl
                                rotate_left
                                · simp only [Act.put, List.setIfInBounds_toArray, List.set_cons_zero, List.set_cons_succ, i64_w, i32_w]
                                  rfl
                                refine take_ (i := 11) (N := some 42) (v := ?_) (a' := ?_) #[true, true, true, true, true, true, true, true, true, true, true, true, false, false, false] rfl rfl (take_ofW HT_.out HW_.out (by kernel_rfl)) (fun _ _ _ h => h) (Or.inl ⟨by rfl, ?_⟩) hHeld ?_ ?_
                                rotate_left
                                · rintro w' ⟨s0, s1, s2, s3, s4, s5⟩
                                  go_simp
                                  with_reducible rfl
                                rotate_left
                                · simp only [Act.put, List.setIfInBounds_toArray, List.set_cons_zero, List.set_cons_succ, i64_w, i32_w]
                                  rfl
                                refine pure_ (i := 12) (N := some 43) (v := ?_) (a' := ?_) #[true, true, true, true, true, true, true, true, true, true, true, true, true, false, false] rfl rfl (any_of HT_.out (by kernel_rfl)) (fun _ _ _ h => h) (Or.inl ⟨by rfl, ?_⟩) ?_ ?_
                                rotate_left
                                · intro w'
                                  go_simp
                                  with_reducible rfl
                                rotate_left
                                · simp only [Act.put, List.setIfInBounds_toArray, List.set_cons_zero, List.set_cons_succ, i64_w, i32_w]
                                  rfl
                                refine take_ (i := 13) (N := some 44) (v := ?_) (a' := ?_) #[true, true, true, true, true, true, true, true, true, true, true, true, true, true, false] rfl rfl (take_ofW HT_.out HW_.out (by kernel_rfl)) (fun _ _ _ h => h) (Or.inl ⟨by rfl, ?_⟩) hHeld ?_ ?_
                                rotate_left
                                · rintro w' ⟨s0, s1, s2, s3, s4, s5⟩
                                  go_simp
                                  with_reducible rfl
                                rotate_left
                                · simp only [Act.put, List.setIfInBounds_toArray, List.set_cons_zero, List.set_cons_succ, i64_w, i32_w]
                                  rfl
                                refine pure_ (i := 14) (N := some 8) (v := ?_) (a' := ?_) #[true, true, true, true, true, true, true, true, true, true, true, true, true, true, true] rfl rfl (any_of HT_.out (by kernel_rfl)) (fun _ _ _ h => h) (Or.inl ⟨by rfl, ?_⟩) ?_ ?_
                                rotate_left
                                · intro w'
                                  go_simp
                                  with_reducible rfl
                                rotate_left
                                · simp only [Act.put, List.setIfInBounds_toArray, List.set_cons_zero, List.set_cons_succ, i64_w, i32_w]
                                  rfl
                                refine done_ (done_of HT_.out (by kernel_rfl)) ?_
                                obtain ⟨Ao36, co36, eo36⟩ := Kd.R_slice HO110.out
                                subst eo36
                                try go_wp2_with (first | ((with_reducible refine gate_callee (f := 130) rfl ?_); refine goesL_ (some 50) rfl rfl Try.func130 (by kernel_rfl) rfl #[.slice Ao36 y108.length co36] rfl (by (try simp only [List.map_toArray, List.map_cons, List.map_nil]); first | done | rfl | (simp only [List.length_drop, List.length_take]; rfl)) ?_; (with_reducible refine (slices_Min_int_int.calls _ _ y108 t115 _ ?side1 ?side2 A27.out).mono ?_); (case side1 => repeat (first | exact (Kd.R_reads' HO110.out).2.2 | (with_reducible refine Kd.C_alloc ?_ _) | (with_reducible refine Kd.C_drewN ?_ _) | (with_reducible refine Kd.C_drew ?_))); (case side2 => exact (Kd.R_reads' HO110.out).2.1); rintro e w' ⟨rfl, ⟨nd, rfl⟩⟩; refine ⟨_, rfl, ?_⟩) | ((with_reducible refine gate_callee (f := 117) rfl ?_); refine goesL_ (some 51) rfl rfl Try.func117 (by kernel_rfl) rfl #[.slice Ao36 y108.length co36, .int .i64 t115] rfl (by (try simp only [List.map_toArray, List.map_cons, List.map_nil]); first | done | rfl | (simp only [List.length_drop, List.length_take]; rfl)) ?_; (with_reducible refine (slices_Index_int_int.calls kj7 _ _ y108 t115 t116 _ ?side1 ?side2 A28.out).mono ?_); (case side1 => repeat (first | exact (Kd.R_reads' HO110.out).2.2 | (with_reducible refine Kd.C_alloc ?_ _) | (with_reducible refine Kd.C_drewN ?_ _) | (with_reducible refine Kd.C_drew ?_))); (case side2 => exact (Kd.R_reads' HO110.out).2.1); rintro e w' ⟨rfl, ⟨nd, rfl⟩⟩; refine ⟨_, rfl, ?_⟩))
                                (try (rw [drewN_self w35]; generalize hq_ : World.drewN w35 _ = w35; have n0_ : Aside0 (Kd.R (Kd.int .i64) 3 w35 w.heap.size (fun _ => True) (.slice Ao36 y108.length co36) y108) := ⟨by rw [← hq_]; exact (by (with_reducible repeat (first | apply Kd.R_alloc | apply Kd.R_drewN | apply Kd.R_drew)); exact HO110.out)⟩; have n1_ : Aside0 (w35.heap[gb102]? = some (.cells #[.slice (some ad112) l0_0.length c0_0] 59 (0, 0))) := ⟨by rw [← hq_]; exact (by (with_reducible repeat (first | refine blk_drewN ?_ _ | refine blk_drew ?_ | refine blk_alloc ?_ _)); exact BK102.out)⟩; have n2_ : Aside0 (w35.heap[gb103]? = some (.cells #[.slice (some ad111) l1_0.length c1_0] 30 (0, 0))) := ⟨by rw [← hq_]; exact (by (with_reducible repeat (first | refine blk_drewN ?_ _ | refine blk_drew ?_ | refine blk_alloc ?_ _)); exact BK103.out)⟩; have n3_ : Aside0 (Below w.heap.size w w35) := ⟨by rw [← hq_]; exact (by repeat (first | (with_reducible first | exact HB.out | apply below_alloc | apply pw_below_drewN | apply below_drew1 | refine below_set ?_ GE102.out | refine below_set ?_ GE103.out) | exact HB.out))⟩; clear HO110 BK102 BK103 HB hq_; have HO110 := n0_; have BK102 := n1_; have BK103 := n2_; have HB := n3_; clear n0_ n1_ n2_ n3_))
                                have n0_ := Aside0.mk (Kd.R_drew HO110.out)
                                have n1_ := Aside0.mk (blk_drew BK102.out)
                                have n2_ := Aside0.mk (blk_drew BK103.out)
                                have n3_ := Aside0.mk (below_drew1 HB.out)
                                clear HO110
                                clear BK102
                                clear BK103
                                clear HB
                                have HO110 := n0_
                                have BK102 := n1_
                                have BK103 := n2_
                                have HB := n3_
                                clear n0_ n1_ n2_ n3_
                                have q38 : (t116 : Int) ≤ ((y108.length : Int) : Int) := of_decide_eq_true (by first | (with_reducible assumption) | assumption)
                                obtain ⟨i038, hi038, _, hsz38, _⟩ := info_parts info3
                                have hroom38 : y108.length ≤ co36 := (Kd.R_reads' HO110.out).2.1
                                have hC38 : Kd.F (Kd.int .i64) _ _ Ao36 y108.length y108 := (Kd.V_at (base := w.heap.size) (Kd.R_V (Kd.R_types (Kd.R_types (HO110.out) BK102.out (by decide)) BK103.out (by decide)))).2.2
                                have q038 : (0 : Int) ≤ (t116 : Int) := of_decide_eq_true (by first | (with_reducible assumption) | assumption)
                                have hcut38 := cut_from (P := Try.prog) 37 3 .i64 Try.underlying37 hi038 1 hsz38 Ao36 y108.length co36 t116 q038 q38
                                have hr38 := Kd.F_cut (m := (t116 : Int).toNat) (c := co36) hC38 (by omega) hroom38
                                obtain ⟨A38, hA38⟩ : ∃ A1, A1 = (if co36 = (t116 : Int).toNat then Ao36 else (Ao36 : Option Addr).map (·.add ((t116 : Int).toNat * 1))) := ⟨_, rfl⟩
                                obtain ⟨c38, hc38⟩ : ∃ c1, c1 = co36 - (t116 : Int).toNat := ⟨_, rfl⟩
                                have hy38 : y117.length = y108.length - (t116 : Int).toNat := (by rw [Ny117.out, List.length_drop] <;> omega)
                                rw [show (y108).drop (t116 : Int).toNat = y117 from Ny117.out.symm] at hr38
                                replace hr38 : Kd.F (Kd.int .i64) _ _ A38 y117.length y117 := (by rw [hA38]; exact hr38)
                                rw [← hy38, ← hA38, ← hc38] at hcut38
                                have HO121 := Aside0.mk (show Kd.V (Kd.int .i64) 3 _ w.heap.size _ (.slice A38 y117.length c38) y117 from Kd.V_mk (by rw [hy38, hc38]; exact Nat.sub_le_sub_right hroom38 _) hr38)
                                have HC121 := Aside0.mk (show y117.length ≤ c38 from by rw [hy38, hc38]; exact Nat.sub_le_sub_right hroom38 _)
                                clear hr38 hC38 hroom38 hi038 hsz38 hc38
                                have KY38 := Aside0.mk hy38
                                have KA38 := Aside0.mk hA38
                                clear hy38 hA38
                                replace q38 := eq_true q38
                                have q39 : (t116 : Int) ≤ ((y108.length : Int) : Int) := of_decide_eq_true (by first | (with_reducible assumption) | assumption)
                                obtain ⟨i039, hi039, _, hsz39, _⟩ := info_parts info3
                                have hroom39 : y108.length ≤ co36 := (Kd.R_reads' HO110.out).2.1
                                have hC39 : Kd.F (Kd.int .i64) _ _ Ao36 y108.length y108 := (Kd.V_at (base := w.heap.size) (Kd.R_V (Kd.R_types (Kd.R_types (HO110.out) BK102.out (by decide)) BK103.out (by decide)))).2.2
                                have hcut39 := cut_to (P := Try.prog) 37 3 .i64 Try.underlying37 hi039 Ao36 y108.length co36 t116 (of_decide_eq_true (by first | (with_reducible assumption) | assumption)) q39 hroom39
                                have hr39 := Kd.F_take (m := (t116 : Int).toNat) hC39 (by omega)
                                have hy39 : y122.length = (t116 : Int).toNat := (by rw [Ny122.out, List.length_take]; omega)
                                rw [← Ny122.out] at hr39
                                rw [← hy39] at hcut39
                                have HO126 := Aside0.mk (show Kd.V (Kd.int .i64) 3 _ w.heap.size _ (.slice Ao36 y122.length co36) y122 from Kd.V_mk (by omega) hr39)
                                have HC126 := Aside0.mk (show y122.length ≤ co36 from by omega)
                                clear hr39 hC39 hroom39 hi039 hsz39
                                have KY39 := Aside0.mk hy39
                                clear hy39
                                replace q39 := eq_true q39
                                refine start_ (n := 9) (S := fun w' => True) (ds := []) #[false, false, false, false, false, false, false, false, false] (by kernel_rfl) rfl rfl trivial (fun hHeld => ?_); refine with_tabW impl_Stacks_cycleOf.tab9 impl_Stacks_cycleOf.bits9 (fun HT_ HW_ => ?_)
                                generalize w35.drew = w37 at HO110 BK102 BK103 HB HO121 HO126 hHeld ⊢
                                refine pure_ (i := 0) (N := some 52) (v := ?_) (a' := ?_) #[true, false, false, false, false, false, false, false, false] rfl rfl (any_of HT_.out (by kernel_rfl)) (fun _ _ _ h => h) (Or.inl ⟨by rfl, ?_⟩) ?_ ?_
                                rotate_left
                                · intro w'
                                  go_simp
                                  with_reducible rfl
                                rotate_left
                                · simp only [Act.put, List.setIfInBounds_toArray, List.set_cons_zero, List.set_cons_succ, i64_w, i32_w]
                                  rfl
                                refine pure_ (i := 1) (N := some 53) (v := ?_) (a' := ?_) #[true, true, false, false, false, false, false, false, false] rfl rfl (any_of HT_.out (by kernel_rfl)) (fun _ _ _ h => h) (Or.inl ⟨by rfl, ?_⟩) ?_ ?_
                                rotate_left
                                · intro w'
                                  go_simp
                                  with_reducible rfl
                                rotate_left
                                · simp only [Act.put, List.setIfInBounds_toArray, List.set_cons_zero, List.set_cons_succ, i64_w, i32_w]
                                  rfl
                                refine pure_ (i := 2) (N := some 54) (v := ?_) (a' := ?_) #[true, true, true, false, false, false, false, false, false] rfl rfl (any_of HT_.out (by kernel_rfl)) (fun _ _ _ h => h) (Or.inl ⟨by rfl, ?_⟩) ?_ ?_
                                rotate_left
                                · intro w'
                                  go_simp
                                  with_reducible rfl
                                rotate_left
                                · simp only [Act.put, List.setIfInBounds_toArray, List.set_cons_zero, List.set_cons_succ, i64_w, i32_w]
                                  rfl
                                refine pure_ (i := 3) (N := some 55) (v := ?_) (a' := ?_) #[true, true, true, true, false, false, false, false, false] rfl rfl (any_of HT_.out (by kernel_rfl)) (fun _ _ _ h => h) (Or.inl ⟨by rfl, ?_⟩) ?_ ?_
                                rotate_left
                                · intro w'
                                  go_simp
                                  with_reducible rfl
                                rotate_left
                                · simp only [Act.put, List.setIfInBounds_toArray, List.set_cons_zero, List.set_cons_succ, i64_w, i32_w]
                                  rfl
                                refine pure_ (i := 4) (N := some 56) (v := ?_) (a' := ?_) #[true, true, true, true, true, false, false, false, false] rfl rfl (any_of HT_.out (by kernel_rfl)) (fun _ _ _ h => h) (Or.inl ⟨by rfl, ?_⟩) ?_ ?_
                                rotate_left
                                · intro w'
                                  go_simp
                                  with_reducible rfl
                                rotate_left
                                · simp only [Act.put, List.setIfInBounds_toArray, List.set_cons_zero, List.set_cons_succ, i64_w, i32_w]
                                  rfl
                                refine pure_ (i := 5) (N := some 57) (v := ?_) (a' := ?_) #[true, true, true, true, true, true, false, false, false] rfl rfl (any_of HT_.out (by kernel_rfl)) (fun _ _ _ h => h) (Or.inl ⟨by rfl, ?_⟩) ?_ ?_
                                rotate_left
                                · intro w'
                                  go_simp
                                  with_reducible rfl
                                rotate_left
                                · simp only [Act.put, List.setIfInBounds_toArray, List.set_cons_zero, List.set_cons_succ, i64_w, i32_w]
                                  rfl
                                refine one_ (i := 6) (N := some 58) #[true, true, true, true, true, true, true, false, false] rfl rfl (one_of HT_.out (by kernel_rfl)) (by decide) (fun K hK => ?_)
                                refine Kd.N_lit_step (Kd.slice 3 (Kd.int .i64)) _ 37 ?hg (N' := 58) ?hd (xs := ([y117, y122] : List (List Int))) (inner := [.slice A38 y117.length c38, .slice Ao36 y122.length co36]) (ok := (fun k_ => k_ ≠ gb102 ∧ k_ ≠ gb103)) (okp := (fun k_ => k_ ≠ gb102 ∧ k_ ≠ gb103)) ?hr ?hp (fun _ hk => hk) ((show ∀ k_, w37.heap.size ≤ k_ → (fun k_ => k_ ≠ gb102 ∧ k_ ≠ gb103) k_ from fun k_ hk => ⟨Kd.freshB (g := gb102) (o := .cells #[.slice (some ad112) l0_0.length c0_0] 59 (0, 0)) (by (with_reducible repeat (first | refine blk_drewN ?_ _ | refine blk_drew ?_ | refine blk_alloc ?_ _)); exact BK102.out) k_ hk, Kd.freshB (g := gb103) (o := .cells #[.slice (some ad111) l1_0.length c1_0] 30 (0, 0)) (by (with_reducible repeat (first | refine blk_drewN ?_ _ | refine blk_drew ?_ | refine blk_alloc ?_ _)); exact BK103.out) k_ hk⟩) _ (Nat.le_refl _)) (Below.refl _ _) (Nat.le_refl _) (by simp) ?_; (case hd => rfl); (case hg => rfl); (case hr => first | (go_simp; done) | (go_simp; rfl)); (case hp => exact (Reps.one (show Kd.FK (Kd.slice 3 (Kd.int .i64)) _ _ y117 [.slice A38 y117.length c38] from (Kd.FK_slice_mk (Kd.V_reads' (Kd.V_mono (ok' := (fun k_ => k_ ≠ gb102 ∧ k_ ≠ gb103)) (HO121.out) (fun k_ hk => ⟨hk.1.2, hk.2⟩))).2.1 (Kd.V_F (Kd.V_mono (ok' := (fun k_ => k_ ≠ gb102 ∧ k_ ≠ gb103)) (HO121.out) (fun k_ hk => ⟨hk.1.2, hk.2⟩))))) (Reps.one (show Kd.FK (Kd.slice 3 (Kd.int .i64)) _ _ y122 [.slice Ao36 y122.length co36] from (Kd.FK_slice_mk (Kd.V_reads' (Kd.V_mono (ok' := (fun k_ => k_ ≠ gb102 ∧ k_ ≠ gb103)) (HO126.out) (fun k_ hk => ⟨hk.1.2, hk.2⟩))).2.1 (Kd.V_F (Kd.V_mono (ok' := (fun k_ => k_ ≠ gb102 ∧ k_ ≠ gb103)) (HO126.out) (fun k_ hk => ⟨hk.1.2, hk.2⟩))))) (Reps.none _ _))))
                                intro v128 w40 ho41 hb hg_ hnew_
                                clear hg_ hnew_
                                (first | rw [← Ny127.out] at ho41 | (simp only [Int.reduceToNat] at ho41; rw [← Ny127.out] at ho41))
                                have n0_ := Aside0.mk (Kd.R_below (by (with_reducible repeat (first | apply Kd.R_alloc | apply Kd.R_drewN | apply Kd.R_drew)); exact HO110.out) hb)
                                have n1_ := Aside0.mk (Kd.V_elder' (by (with_reducible repeat (first | apply Kd.V_alloc | apply Kd.V_drewN | apply Kd.V_drew)); exact HO121.out) (Kd.N_base ho41) hb)
                                have n2_ := Aside0.mk (Kd.V_elder' (by (with_reducible repeat (first | apply Kd.V_alloc | apply Kd.V_drewN | apply Kd.V_drew)); exact HO126.out) (Kd.N_base ho41) hb)
                                have n3_ := Aside0.mk (Kd.N_lower ho41 (below_size (by repeat (first | (with_reducible first | exact HB.out | apply below_alloc | apply pw_below_drewN | apply below_drew1 | refine below_set ?_ GE102.out | refine below_set ?_ GE103.out) | exact HB.out))))
                                have n4_ := Aside0.mk (blk_below (g := gb102) (o := .cells #[.slice (some ad112) l0_0.length c0_0] 59 (0, 0)) (by (with_reducible repeat (first | refine blk_drewN ?_ _ | refine blk_drew ?_ | refine blk_alloc ?_ _)); exact BK102.out) hb)
                                have n5_ := Aside0.mk (blk_below (g := gb103) (o := .cells #[.slice (some ad111) l1_0.length c1_0] 30 (0, 0)) (by (with_reducible repeat (first | refine blk_drewN ?_ _ | refine blk_drew ?_ | refine blk_alloc ?_ _)); exact BK103.out) hb)
                                have n6_ := Aside0.mk (below_step (by repeat (first | (with_reducible first | exact HB.out | apply below_alloc | apply pw_below_drewN | apply below_drew1 | refine below_set ?_ GE102.out | refine below_set ?_ GE103.out) | exact HB.out)) hb)
                                clear HO110
                                clear HO121
                                clear HO126
                                clear BK102
                                clear BK103
                                clear HB
                                have HO110 := n0_
                                have HO121 := n1_
                                have HO126 := n2_
                                have HO129 := n3_
                                have BK102 := n4_
                                have BK103 := n5_
                                have HB := n6_
                                clear n0_ n1_ n2_ n3_ n4_ n5_ n6_
                                clear hb ho41
                                obtain ⟨Ao42, co42, eo42⟩ := Kd.N_slice HO129.out
                                (first | subst eo42 | (injection eo42 with f1_ f2_ f3_; have f4_ := f1_.symm; have f5_ := f3_.symm; clear f1_ f2_ f3_; subst f4_; subst f5_))
                                refine hK.out _ _ trivial (fun hHeld => ?_)
                                clear hK K
                                refine norm_ (a' := ?_) ?_ ?_
                                rotate_left
                                · show Act.put _ (some 58) _ = _
                                  simp only [Act.put, List.setIfInBounds_toArray, List.set_cons_zero, List.set_cons_succ, i64_w, i32_w]
                                  rfl
                                refine one_ (i := 7) (N := some 59) #[true, true, true, true, true, true, true, true, false] rfl rfl (one_of HT_.out (by kernel_rfl)) (by decide) (fun K hK => ?_)
                                refine goes_ Try.func131 (by kernel_rfl) rfl #[.slice Ao42 y127.length co42] (by rfl) rfl rfl (by (try simp only [List.map_toArray, List.map_cons, List.map_nil]); first | done | rfl | (simp only [List.length_drop, List.length_take]; rfl)) ?_
                                with_reducible refine (slices_Concat_int_int.calls kj7 _ _ y127 t130 _ ?side1 ?side2 A33.out).mono ?_
                                (case side1 => repeat (first | exact (Kd.N_reads' HO129.out).2.2 | (with_reducible refine Kd.C_alloc ?_ _) | (with_reducible refine Kd.C_drewN ?_ _) | (with_reducible refine Kd.C_drew ?_)))
                                (case side2 => exact (Kd.N_reads' HO129.out).2.1)
                                rintro e w43 ⟨v131, rfl, ho0, hb⟩
                                refine ⟨_, rfl, ?_⟩
                                have n0_ := Aside0.mk (Kd.R_elder' (by (with_reducible repeat (first | apply Kd.R_alloc | apply Kd.R_drewN | apply Kd.R_drew)); exact HO110.out) (Kd.R_base ho0) hb)
                                have n1_ := Aside0.mk (Kd.V_elder' (by (with_reducible repeat (first | apply Kd.V_alloc | apply Kd.V_drewN | apply Kd.V_drew)); exact HO121.out) (Kd.R_base ho0) hb)
                                have n2_ := Aside0.mk (Kd.V_elder' (by (with_reducible repeat (first | apply Kd.V_alloc | apply Kd.V_drewN | apply Kd.V_drew)); exact HO126.out) (Kd.R_base ho0) hb)
                                have n3_ := Aside0.mk (Kd.N_elder' (by (with_reducible repeat (first | apply Kd.N_alloc | apply Kd.N_drewN | apply Kd.N_drew)); exact HO129.out) (Kd.R_base ho0) hb)
                                have n4_ := Aside0.mk (Kd.R_lower (Kd.R_new' ho0 (Kd.R_lt (by (with_reducible repeat (first | apply Kd.R_alloc | apply Kd.R_drewN | apply Kd.R_drew)); exact HO110.out))) (below_size (by repeat (first | (with_reducible first | exact HB.out | apply below_alloc | apply pw_below_drewN | apply below_drew1 | refine below_set ?_ GE102.out | refine below_set ?_ GE103.out) | exact HB.out))))
                                have n5_ := Aside0.mk (blk_below (g := gb102) (o := .cells #[.slice (some ad112) l0_0.length c0_0] 59 (0, 0)) (by (with_reducible repeat (first | refine blk_drewN ?_ _ | refine blk_drew ?_ | refine blk_alloc ?_ _)); exact BK102.out) hb)
                                have n6_ := Aside0.mk (blk_below (g := gb103) (o := .cells #[.slice (some ad111) l1_0.length c1_0] 30 (0, 0)) (by (with_reducible repeat (first | refine blk_drewN ?_ _ | refine blk_drew ?_ | refine blk_alloc ?_ _)); exact BK103.out) hb)
                                have n7_ := Aside0.mk (below_step (by repeat (first | (with_reducible first | exact HB.out | apply below_alloc | apply pw_below_drewN | apply below_drew1 | refine below_set ?_ GE102.out | refine below_set ?_ GE103.out) | exact HB.out)) hb)
                                clear HO110
                                clear HO121
                                clear HO126
                                clear HO129
                                clear BK102
                                clear BK103
                                clear HB
                                have HO110 := n0_
                                have HO121 := n1_
                                have HO126 := n2_
                                have HO129 := n3_
                                have HO132 := n4_
                                have BK102 := n5_
                                have BK103 := n6_
                                have HB := n7_
                                clear n0_ n1_ n2_ n3_ n4_ n5_ n6_ n7_
                                (try clear hb)
                                (try clear hb2)
                                (try clear hk)
                                (try clear hi)
                                (try clear ho0)
                                refine hK.out _ _ trivial (fun hHeld => ?_)
                                clear hK K
                                refine norm_ (a' := ?_) ?_ ?_
                                rotate_left
                                · show Act.put _ (some 59) _ = _
                                  simp only [Act.put, List.setIfInBounds_toArray, List.set_cons_zero, List.set_cons_succ, i64_w, i32_w]
                                  rfl
                                refine pure_ (i := 8) (N := some 6) (v := ?_) (a' := ?_) #[true, true, true, true, true, true, true, true, true] rfl rfl (any_of HT_.out (by kernel_rfl)) (fun _ _ _ h => h) (Or.inl ⟨by rfl, ?_⟩) ?_ ?_
                                rotate_left
                                · intro w'
                                  go_simp
                                  with_reducible rfl
                                rotate_left
                                · simp only [Act.put, List.setIfInBounds_toArray, List.set_cons_zero, List.set_cons_succ, i64_w, i32_w]
                                  rfl
                                refine done_ (done_of HT_.out (by kernel_rfl)) ?_
                                try go_wp2
                                go_ret
                                exact ⟨_, by first | rfl | (simp [errW_none, errW_some] <;> rfl) | (simp [*, errW_none, errW_some] <;> rfl), by (with_reducible repeat (first | apply Kd.R_alloc | apply Kd.R_drewN | apply Kd.R_drew)); exact Kd.R_mono HO132.out (fun _ hk => trivial), by repeat (first | (with_reducible first | exact HB.out | apply below_alloc | apply pw_below_drewN | apply below_drew1 | refine below_set ?_ GE102.out | refine below_set ?_ GE103.out) | exact HB.out), ⟨fun h_ => absurd h_ NE_.out⟩⟩
                              · rw [if_neg c30] at H
                                exact absurd H (by simp)
                            · rw [if_neg c29] at H
                              exact absurd H (by simp)
                          · rw [if_neg c26] at H
                            have c26b0 : ((rd (rd_L1 l1_0 x8_1) (rd (rd_L1 l0_0 x8_1) 0)) == a2) = false := beq_eq_false_iff_ne.mpr c26
                            have c26b1 : ((rd (rd_L1 l1_0 x8_1) (rd (rd_L1 l0_0 x8_1) 0)) != a2) = true := bne_iff_ne.mpr c26
                            have H' := Aside0.mk H
                            clear H
                            try go_wp2_with (first | ((with_reducible refine gate_builtin (b := .append) (xs := #[.tmp 27, .tmp 29]) rfl ?_); (try (refine gate_guard (by rfl) ?_; dsimp only)); at_builtin; refine Kd.R_append (Kd.int .i64) (w0 := w) w.heap.size rfl (.tmp 27) (.tmp 29) 37 3 (.int .i64 0) 8 rfl Try.underlying37 info3 rfl (by decide) (by omega) u7 x7_1 x8_1 [.int .i64 x8_1] (fun _ => True) (fun _ => False) rfl rfl ?aP (fun _ hk => hk.elim) ?aF ?aO ?aB ?aS ?aL ?_; (case aP => exact rfl); (case aB => exact (by repeat (first | (with_reducible first | exact HB.out | apply below_alloc | apply pw_below_drewN | apply below_drew1 | refine below_set ?_ GE102.out | refine below_set ?_ GE103.out) | exact HB.out))); (case aF => exact (fun _ _ => trivial)); (case aO => exact (by (with_reducible repeat (first | apply Kd.R_alloc | apply Kd.R_drewN | apply Kd.R_drew)); exact HO_7.out)); (case aS => exact (below_size (by repeat (first | (with_reducible first | exact HB.out | apply below_alloc | apply pw_below_drewN | apply below_drew1 | refine below_set ?_ GE102.out | refine below_set ?_ GE103.out) | exact HB.out)))); (case aL => have := LMc19.out; omega); intro v109 w44 ho hb hg hat; rw [← Ny108.out] at ho; have n0_ := Aside0.mk (blk_grown (g := gb102) (o := .cells #[.slice A0_0 l0_0.length c0_0] 59 (0, 0)) (by (with_reducible repeat (first | refine blk_drewN ?_ _ | refine blk_drew ?_ | refine blk_alloc ?_ _)); exact BK102.out) hg (Kd.R_ne HO_7.out BK102.out (by decide))); have n1_ := Aside0.mk (blk_grown (g := gb103) (o := .cells #[.slice A1_0 l1_0.length c1_0] 30 (0, 0)) (by (with_reducible repeat (first | refine blk_drewN ?_ _ | refine blk_drew ?_ | refine blk_alloc ?_ _)); exact BK103.out) hg (Kd.R_ne HO_7.out BK103.out (by decide))); have n2_ := Aside0.mk (hb); have n3_ := Aside0.mk (ho); clear BK102; clear BK103; clear HB; clear HO_7; have BK102 := n0_; have BK103 := n1_; have HB := n2_; have HO110 := n3_; clear n0_ n1_ n2_ n3_; clear ho hb hg hat))
                            have n0_ := Aside0.mk (Kd.R_drew HO110.out)
                            have n1_ := Aside0.mk (blk_drew BK102.out)
                            have n2_ := Aside0.mk (blk_drew BK103.out)
                            have n3_ := Aside0.mk (below_drew1 HB.out)
                            clear HO110
                            clear BK102
                            clear BK103
                            clear HB
                            have HO110 := n0_
                            have BK102 := n1_
                            have BK103 := n2_
                            have HB := n3_
                            clear n0_ n1_ n2_ n3_
                            have p111 : 0 ≤ (x8_1 : Int) := of_decide_eq_true (by first | (with_reducible assumption) | assumption)
                            have q111 : x8_1 < (l1_0.length : Int) := of_decide_eq_true (by first | (with_reducible assumption) | assumption)
                            obtain ⟨ad111, A111_0, c111_0, e111, hx111_0, hl111_0, hi111_0⟩ := at_L1 HR1_0.out x8_1 p111 q111
                            have hw111_0 := hx111_0
                            cases e111
                            replace hx111_0 := (HB.out.cell (World.block_lt_of_cell? w _ hx111_0)).trans hx111_0
                            have HR111_0 := Aside0.mk hi111_0
                            have HC111_0 := Aside0.mk hl111_0
                            clear hi111_0 hl111_0
                            replace p111 := eq_true p111
                            replace q111 := eq_true q111
                            have p112 : 0 ≤ (x8_1 : Int) := of_decide_eq_true (by first | (with_reducible assumption) | assumption)
                            have q112 : x8_1 < (l0_0.length : Int) := of_decide_eq_true (by first | (with_reducible assumption) | assumption)
                            obtain ⟨ad112, A112_0, c112_0, e112, hx112_0, hl112_0, hi112_0⟩ := at_L1 HR0_0.out x8_1 p112 q112
                            have hw112_0 := hx112_0
                            cases e112
                            replace hx112_0 := (HB.out.cell (World.block_lt_of_cell? w _ hx112_0)).trans hx112_0
                            have HR112_0 := Aside0.mk hi112_0
                            have HC112_0 := Aside0.mk hl112_0
                            clear hi112_0 hl112_0
                            replace p112 := eq_true p112
                            replace q112 := eq_true q112
                            have p113 : 0 ≤ (0 : Int) := (by omega)
                            have q113 : 0 < ((rd_L1 l0_0 x8_1).length : Int) := of_decide_eq_true (by first | (with_reducible assumption) | assumption)
                            obtain ⟨ad113, e113, hx113_0⟩ := Kd.at_int HR112_0.out 0 p113 q113
                            have hw113_0 := hx113_0
                            (try rw [show ((0 : Int)).toNat = 0 from rfl] at hw113_0)
                            (try rw [show 0 * 1 = 0 from rfl] at hw113_0)
                            (try rw [Addr.add_zero'] at hw113_0)
                            cases e113
                            have qi113 : (0 < (rd_L1 l0_0 x8_1).length) = True := eq_true (by omega)
                            (try rw [show ((0 : Int)).toNat = 0 from rfl] at hx113_0)
                            (try rw [Addr.add_zero'] at hx113_0)
                            replace hx113_0 := (HB.out.cell (World.block_lt_of_cell? w _ hx113_0)).trans hx113_0
                            replace p113 := eq_true p113
                            replace q113 := eq_true q113
                            have p114 : 0 ≤ ((rd (rd_L1 l0_0 x8_1) 0) : Int) := of_decide_eq_true (by first | (with_reducible assumption) | assumption)
                            have q114 : (rd (rd_L1 l0_0 x8_1) 0) < ((rd_L1 l1_0 x8_1).length : Int) := of_decide_eq_true (by first | (with_reducible assumption) | assumption)
                            obtain ⟨ad114, e114, hx114_0⟩ := Kd.at_int HR111_0.out (rd (rd_L1 l0_0 x8_1) 0) p114 q114
                            have hw114_0 := hx114_0
                            cases e114
                            replace hx114_0 := (HB.out.cell (World.block_lt_of_cell? w _ hx114_0)).trans hx114_0
                            replace p114 := eq_true p114
                            replace q114 := eq_true q114
                            refine start_ (n := 15) (S := fun w' => w'.cell? ⟨gb103, 0, none⟩ = some (.slice (some ad111) l1_0.length c1_0) ∧ w'.cell? ⟨gb102, 0, none⟩ = some (.slice (some ad112) l0_0.length c0_0) ∧ w'.cell? (ad111.add (x8_1).toNat) = some (.slice (some ad114) (rd_L1 l1_0 x8_1).length c111_0) ∧ w'.cell? (ad112.add (x8_1).toNat) = some (.slice (some ad113) (rd_L1 l0_0 x8_1).length c112_0) ∧ w'.cell? ad113 = some (.int .i64 (rd (rd_L1 l0_0 x8_1) 0)) ∧ w'.cell? (ad114.add ((rd (rd_L1 l0_0 x8_1) 0)).toNat) = some (.int .i64 (rd (rd_L1 l1_0 x8_1) (rd (rd_L1 l0_0 x8_1) 0)))) (ds := []) #[false, false, false, false, false, false, false, false, false, false, false, false, false, false, false] (by kernel_rfl) rfl rfl ⟨(blk_cell BK103.out 0).trans rfl, (blk_cell BK102.out 0).trans rfl, ((HB.out.cell (World.block_lt_of_cell? w _ hw111_0)).trans hw111_0), ((HB.out.cell (World.block_lt_of_cell? w _ hw112_0)).trans hw112_0), ((HB.out.cell (World.block_lt_of_cell? w _ hw113_0)).trans hw113_0), ((HB.out.cell (World.block_lt_of_cell? w _ hw114_0)).trans hw114_0)⟩ (fun hHeld => ?_); refine with_tabW impl_Stacks_cycleOf.tab6 impl_Stacks_cycleOf.bits6 (fun HT_ HW_ => ?_)
                            generalize w44.drew = w45 at HO110 BK102 BK103 HB HR111_0 HR112_0 hx111_0 hx112_0 hx113_0 hx114_0 hHeld ⊢
                            refine pure_ (i := 0) (N := some 31) (v := ?_) (a' := ?_) #[true, false, false, false, false, false, false, false, false, false, false, false, false, false, false] rfl rfl (any_of HT_.out (by kernel_rfl)) (fun _ _ _ h => h) (Or.inl ⟨by rfl, ?_⟩) ?_ ?_
                            rotate_left
                            · intro w'
                              go_simp
                              with_reducible rfl
                            rotate_left
                            · simp only [Act.put, List.setIfInBounds_toArray, List.set_cons_zero, List.set_cons_succ, i64_w, i32_w]
                              rfl
                            refine pure_ (i := 2) (N := some 33) (v := ?_) (a' := ?_) #[true, false, true, false, false, false, false, false, false, false, false, false, false, false, false] rfl rfl (any_of HT_.out (by kernel_rfl)) (fun _ _ _ h => h) (Or.inl ⟨by rfl, ?_⟩) ?_ ?_
                            rotate_left
                            · intro w'
                              go_simp
                              with_reducible rfl
                            rotate_left
                            · simp only [Act.put, List.setIfInBounds_toArray, List.set_cons_zero, List.set_cons_succ, i64_w, i32_w]
                              rfl
                            refine pure_ (i := 5) (N := some 36) (v := ?_) (a' := ?_) #[true, false, true, false, false, true, false, false, false, false, false, false, false, false, false] rfl rfl (any_of HT_.out (by kernel_rfl)) (fun _ _ _ h => h) (Or.inl ⟨by rfl, ?_⟩) ?_ ?_
                            rotate_left
                            · intro w'
                              go_simp
                              with_reducible rfl
                            rotate_left
                            · simp only [Act.put, List.setIfInBounds_toArray, List.set_cons_zero, List.set_cons_succ, i64_w, i32_w]
                              rfl
                            refine pure_ (i := 7) (N := some 38) (v := ?_) (a' := ?_) #[true, false, true, false, false, true, false, true, false, false, false, false, false, false, false] rfl rfl (any_of HT_.out (by kernel_rfl)) (fun _ _ _ h => h) (Or.inl ⟨by rfl, ?_⟩) ?_ ?_
                            rotate_left
                            · intro w'
                              go_simp
                              with_reducible rfl
                            rotate_left
                            · simp only [Act.put, List.setIfInBounds_toArray, List.set_cons_zero, List.set_cons_succ, i64_w, i32_w]
                              rfl
                            refine take_ (i := 1) (N := some 32) (v := ?_) (a' := ?_) #[true, true, true, false, false, true, false, true, false, false, false, false, false, false, false] rfl rfl (take_ofW HT_.out HW_.out (by kernel_rfl)) (fun _ _ _ h => h) (Or.inl ⟨by rfl, ?_⟩) hHeld ?_ ?_
                            rotate_left
                            · rintro w' ⟨s0, s1, s2, s3, s4, s5⟩
                              go_simp
                              with_reducible rfl
                            rotate_left
                            · simp only [Act.put, List.setIfInBounds_toArray, List.set_cons_zero, List.set_cons_succ, i64_w, i32_w]
                              rfl
                            refine pure_ (i := 3) (N := some 34) (v := ?_) (a' := ?_) #[true, true, true, true, false, true, false, true, false, false, false, false, false, false, false] rfl rfl (any_of HT_.out (by kernel_rfl)) (fun _ _ _ h => h) (Or.inl ⟨by rfl, ?_⟩) ?_ ?_
                            rotate_left
                            · intro w'
                              go_simp
                              with_reducible rfl
                            rotate_left
                            · simp only [Act.put, List.setIfInBounds_toArray, List.set_cons_zero, List.set_cons_succ, i64_w, i32_w]
                              rfl
                            refine take_ (i := 4) (N := some 35) (v := ?_) (a' := ?_) #[true, true, true, true, true, true, false, true, false, false, false, false, false, false, false] rfl rfl (take_ofW HT_.out HW_.out (by kernel_rfl)) (fun _ _ _ h => h) (Or.inl ⟨by rfl, ?_⟩) hHeld ?_ ?_
                            rotate_left
                            · rintro w' ⟨s0, s1, s2, s3, s4, s5⟩
                              go_simp
                              with_reducible rfl
                            rotate_left
                            · simp only [Act.put, List.setIfInBounds_toArray, List.set_cons_zero, List.set_cons_succ, i64_w, i32_w]
                              rfl
                            refine take_ (i := 6) (N := some 37) (v := ?_) (a' := ?_) #[true, true, true, true, true, true, true, true, false, false, false, false, false, false, false] rfl rfl (take_ofW HT_.out HW_.out (by kernel_rfl)) (fun _ _ _ h => h) (Or.inl ⟨by rfl, ?_⟩) hHeld ?_ ?_
                            rotate_left
                            · rintro w' ⟨s0, s1, s2, s3, s4, s5⟩
                              go_simp
                              with_reducible rfl
                            rotate_left
                            · simp only [Act.put, List.setIfInBounds_toArray, List.set_cons_zero, List.set_cons_succ, i64_w, i32_w]
                              rfl
                            refine pure_ (i := 8) (N := some 39) (v := ?_) (a' := ?_) #[true, true, true, true, true, true, true, true, true, false, false, false, false, false, false] rfl rfl (any_of HT_.out (by kernel_rfl)) (fun _ _ _ h => h) (Or.inl ⟨by rfl, ?_⟩) ?_ ?_
                            rotate_left
                            · intro w'
                              go_simp
                              with_reducible rfl
                            rotate_left
                            · simp only [Act.put, List.setIfInBounds_toArray, List.set_cons_zero, List.set_cons_succ, i64_w, i32_w]
                              rfl
                            refine take_ (i := 9) (N := some 40) (v := ?_) (a' := ?_) #[true, true, true, true, true, true, true, true, true, true, false, false, false, false, false] rfl rfl (take_ofW HT_.out HW_.out (by kernel_rfl)) (fun _ _ _ h => h) (Or.inl ⟨by rfl, ?_⟩) hHeld ?_ ?_
                            rotate_left
                            · rintro w' ⟨s0, s1, s2, s3, s4, s5⟩
                              go_simp
                              with_reducible rfl
                            rotate_left
                            · simp only [Act.put, List.setIfInBounds_toArray, List.set_cons_zero, List.set_cons_succ, i64_w, i32_w]
                              rfl
                            refine pure_ (i := 10) (N := some 41) (v := ?_) (a' := ?_) #[true, true, true, true, true, true, true, true, true, true, true, false, false, false, false] rfl rfl (any_of HT_.out (by kernel_rfl)) (fun _ _ _ h => h) (Or.inl ⟨by rfl, ?_⟩) ?_ ?_
                            rotate_left
                            · intro w'
                              go_simp
                              with_reducible rfl
                            rotate_left
                            · simp only [Act.put, List.setIfInBounds_toArray, List.set_cons_zero, List.set_cons_succ, i64_w, i32_w]
                              rfl
                            refine take_ (i := 11) (N := some 42) (v := ?_) (a' := ?_) #[true, true, true, true, true, true, true, true, true, true, true, true, false, false, false] rfl rfl (take_ofW HT_.out HW_.out (by kernel_rfl)) (fun _ _ _ h => h) (Or.inl ⟨by rfl, ?_⟩) hHeld ?_ ?_
                            rotate_left
                            · rintro w' ⟨s0, s1, s2, s3, s4, s5⟩
                              go_simp
                              with_reducible rfl
                            rotate_left
                            · simp only [Act.put, List.setIfInBounds_toArray, List.set_cons_zero, List.set_cons_succ, i64_w, i32_w]
                              rfl
                            refine pure_ (i := 12) (N := some 43) (v := ?_) (a' := ?_) #[true, true, true, true, true, true, true, true, true, true, true, true, true, false, false] rfl rfl (any_of HT_.out (by kernel_rfl)) (fun _ _ _ h => h) (Or.inl ⟨by rfl, ?_⟩) ?_ ?_
                            rotate_left
                            · intro w'
                              go_simp
                              with_reducible rfl
                            rotate_left
                            · simp only [Act.put, List.setIfInBounds_toArray, List.set_cons_zero, List.set_cons_succ, i64_w, i32_w]
                              rfl
                            refine take_ (i := 13) (N := some 44) (v := ?_) (a' := ?_) #[true, true, true, true, true, true, true, true, true, true, true, true, true, true, false] rfl rfl (take_ofW HT_.out HW_.out (by kernel_rfl)) (fun _ _ _ h => h) (Or.inl ⟨by rfl, ?_⟩) hHeld ?_ ?_
                            rotate_left
                            · rintro w' ⟨s0, s1, s2, s3, s4, s5⟩
                              go_simp
                              with_reducible rfl
                            rotate_left
                            · simp only [Act.put, List.setIfInBounds_toArray, List.set_cons_zero, List.set_cons_succ, i64_w, i32_w]
                              rfl
                            refine pure_ (i := 14) (N := some 8) (v := ?_) (a' := ?_) #[true, true, true, true, true, true, true, true, true, true, true, true, true, true, true] rfl rfl (any_of HT_.out (by kernel_rfl)) (fun _ _ _ h => h) (Or.inl ⟨by rfl, ?_⟩) ?_ ?_
                            rotate_left
                            · intro w'
                              go_simp
                              with_reducible rfl
                            rotate_left
                            · simp only [Act.put, List.setIfInBounds_toArray, List.set_cons_zero, List.set_cons_succ, i64_w, i32_w]
                              rfl
                            refine done_ (done_of HT_.out (by kernel_rfl)) ?_
                            try go_wp2
                            go_roundg kj7
                            case measure => have := HK1.out; have := HJ7.out; omega
                            case rel => exact ⟨(y108), (rd (rd_L1 l1_0 x8_1) (rd (rd_L1 l0_0 x8_1) 0)), (by first | rfl | (simp; done) | (simp [*]; done)), H', ⟨by have := HK1.out; have := HJ7.out; omega⟩, ⟨by (with_reducible repeat (first | apply Kd.R_alloc | apply Kd.R_drewN | apply Kd.R_drew)); exact HO110.out⟩, ⟨by (with_reducible repeat (first | refine blk_drewN ?_ _ | refine blk_drew ?_ | refine blk_alloc ?_ _)); exact BK102.out⟩, ⟨by (with_reducible repeat (first | refine blk_drewN ?_ _ | refine blk_drew ?_ | refine blk_alloc ?_ _)); exact BK103.out⟩, ⟨by repeat (first | (with_reducible first | exact HB.out | apply below_alloc | apply pw_below_drewN | apply below_drew1 | refine below_set ?_ GE102.out | refine below_set ?_ GE103.out) | exact HB.out)⟩⟩
                        · rw [if_neg c25] at H
                          exact absurd H (by simp)
                      · rw [if_neg c24] at H
                        exact absurd H (by simp)
                    · rw [if_neg c23] at H
                      exact absurd H (by simp)
                  · rw [if_neg c22] at H
                    exact absurd H (by simp)
                · rw [if_neg c21] at H
                  exact absurd H (by simp)
              · rw [if_neg c20] at H
                exact absurd H (by simp)
            · rw [if_neg c19] at H
              exact absurd H (by simp)
end Go.Proofs.Ytnbnalbomflafaa.GX
/-! ## Y3 -/
namespace Go.Proofs.Ytnbnalbomflafaa.RA
open Go.RowKit Go.Proofs.YtnbnalbomflafaaW.PrintWords Go.Proofs.YtnbnalbomflafaaW.PrintLast Go.Proofs.YtnbnalbomflafaaW.PrintMore
set_option linter.unusedVariables false
set_option linter.unusedSimpArgs false
def NilOr (v : Value) (r : List Int) : Prop := (0 < r.length ∧ ∃ a n c, v = .slice (some a) n c) ∨ (¬ 0 < r.length ∧ v = .slice none 0 0)
theorem nilOr_of {w : World} {b : Nat} {ok : Nat → Prop} {v : Value} {r : List Int} (h : Kd.R (Kd.int .i64) 3 w b ok v r) (hn : Aside0 (r = [] → v = .slice none 0 0)) : NilOr v r := by
  rcases Nat.eq_zero_or_pos r.length with h0 | h0
  · exact Or.inr ⟨by omega, hn.out (List.eq_nil_of_length_eq_zero h0)⟩
  · refine Or.inl ⟨h0, ?_⟩
    obtain ⟨_, inner, ho, _⟩ := h
    rcases ho.2 with ⟨_, h2⟩ | ⟨g, cap, cur, hv, _⟩
    · omega
    · exact ⟨_, _, _, hv⟩
theorem nilOr_none {A : Option Addr} {n c : Nat} {r : List Int} (h : NilOr (.slice A n c) r) (hd : decide (0 < r.length) = false) : A = none := by
  have h0 := of_decide_eq_false hd
  rcases h with ⟨h1, _⟩ | ⟨_, h2⟩
  · exact absurd h1 h0
  · cases h2; rfl
end Go.Proofs.Ytnbnalbomflafaa.RA
/-! ## GY0 -/
namespace Go.Proofs.Ytnbnalbomflafaa.GY
open Go.RowKit Go.Proofs.YtnbnalbomflafaaW.PrintWords Go.Proofs.YtnbnalbomflafaaW.PrintLast Go.Proofs.YtnbnalbomflafaaW.PrintMore
open Go.Proofs.Ytnbnalbomflafaa.GA Go.Proofs.Ytnbnalbomflafaa.GB Go.Proofs.Ytnbnalbomflafaa.GD Go.Proofs.Ytnbnalbomflafaa.KA Go.Proofs.Ytnbnalbomflafaa.GX Go.Proofs.Ytnbnalbomflafaa.RA
attribute [local go_sem] max2_int min2_int max_two min_two max_three min_three max_four min_four   -- for this text's walks alone
set_option linter.unusedVariables false
set_option linter.unusedSimpArgs false
def errW : Option Int → Value
  | none => .nilIface
  | some c => .iface 0 (.int .i64 c)
theorem errW_none : errW none = .nilIface := rfl
theorem errW_some (c : Int) : errW (some c) = .iface 0 (.int .i64 c) := rfl
theorem info37 : (Try.prog.info? 37).map (fun i => (i.zero, i.size, i.bytes)) = some (some (.slice none 0 0), 1, 24) := by kernel_rfl
def rd_L1 (xs : List (List Int)) (i : Int) : (List Int) := xs.getD i.toNat ([] : List Int)
theorem at_L1 {w : World} {A : Option Addr} {n : Nat} {xs : List (List Int)} (h : Kd.C (Kd.slice 3 (Kd.int .i64)) w A n xs) (i : Int) (h0 : 0 ≤ i) (h1 : i < n) : ∃ ad A0 c0, A = some ad ∧ w.cell? (ad.add i.toNat) = some (.slice A0 (rd_L1 xs i).length c0) ∧ (rd_L1 xs i).length ≤ c0 ∧ (Kd.int .i64).C w A0 (rd_L1 xs i).length (rd_L1 xs i) := by
  obtain ⟨ad, c, e, _, hK, hc0⟩ := Kd.C_get h ([] : List Int) i h0 h1
  have hc : ∀ j u, c[j]? = some u → w.cell? (ad.add (i.toNat * 1 + j)) = some u := hc0
  obtain ⟨A0, c0, rfl, l0, g0⟩ := hK
  exact ⟨ad, A0, c0, e, by have hq := hc 0 _ rfl; rwa [Nat.mul_one, Nat.add_zero] at hq, l0, g0⟩
end Go.Proofs.Ytnbnalbomflafaa.GY
/-! ## GY1 -/
namespace Go.Proofs.Ytnbnalbomflafaa.GY
open Go.RowKit Go.Proofs.YtnbnalbomflafaaW.PrintWords Go.Proofs.YtnbnalbomflafaaW.PrintLast Go.Proofs.YtnbnalbomflafaaW.PrintMore
open Go.Proofs.Ytnbnalbomflafaa.GA Go.Proofs.Ytnbnalbomflafaa.GB Go.Proofs.Ytnbnalbomflafaa.GD Go.Proofs.Ytnbnalbomflafaa.KA Go.Proofs.Ytnbnalbomflafaa.GX Go.Proofs.Ytnbnalbomflafaa.RA
attribute [local go_sem] max2_int min2_int max_two min_two max_three min_three max_four min_four   -- for this text's walks alone
set_option linter.unusedVariables false
set_option linter.unusedSimpArgs false
def impl_Stacks_cycles.l0 : Nat → List (List Int) → Int → Int → List (List Int) → List (List Int) → Option ((List (List Int)))
  | 0, _, _, _, _, _ => none
  | k + 1, x5, x11, x12, x103000, x104000 => if x12 < x11 then ((impl_Stacks_cycleOf.f k x103000 x104000 x12).bind fun t107 => (if (t107.length : Int) > 0 then (if 0 < (t107.length : Int) then (if (rd t107 0) = x12 then (if x5.length < 5864062014805 then (impl_Stacks_cycles.l0 k (x5 ++ [t107]) x11 (wrap64 (x12 + 1)) x103000 x104000) else (none)) else (impl_Stacks_cycles.l0 k x5 x11 (wrap64 (x12 + 1)) x103000 x104000)) else (none)) else (impl_Stacks_cycles.l0 k x5 x11 (wrap64 (x12 + 1)) x103000 x104000))) else (some x5)
def impl_Stacks_cycles.f (k : Nat) (l0_0 : List (List Int)) (l1_0 : List (List Int)) : Option ((List (List Int))) := impl_Stacks_cycles.l0 k (([] : List (List Int))) (l1_0.length : Int) 0 l0_0 l1_0
set_option maxHeartbeats 8000000 in
set_option maxRecDepth 100000 in
theorem impl_Stacks_cycles.calls (k : Nat) (A0_0 : Option Addr) (c0_0 : Nat) (l0_0 : List (List Int)) (A1_0 : Option Addr) (c1_0 : Nat) (l1_0 : List (List Int)) (r : List (List Int)) (w : World) (hr0_0 : Kd.C (Kd.slice 3 (Kd.int .i64)) w A0_0 l0_0.length l0_0) (hc0_0 : l0_0.length ≤ c0_0) (hr1_0 : Kd.C (Kd.slice 3 (Kd.int .i64)) w A1_0 l1_0.length l1_0) (hc1_0 : l1_0.length ≤ c1_0) (h : impl_Stacks_cycles.f k l0_0 l1_0 = some r) :
    Calls Try.prog 104 #[.agg #[.slice A0_0 l0_0.length c0_0], .agg #[.slice A1_0 l1_0.length c1_0]] w fun e w' => ∃ v0_ : Value, e = .returned (v0_) ∧ Kd.S (Kd.slice 3 (Kd.int .i64)) 37 w' w.heap.size (fun _ => True) v0_ r ∧ Below w.heap.size w w' := by
  have hu59 := Try.underlying59
  have hu30 := Try.underlying30
  have HR0_0 := Aside0.mk hr0_0
  have HC0_0 := Aside0.mk hc0_0
  clear hr0_0 hc0_0
  have HR1_0 := Aside0.mk hr1_0
  have HC1_0 := Aside0.mk hc1_0
  clear hr1_0 hc1_0
  have HB := Aside0.mk (Below.refl w.heap.size w)
  have H : (impl_Stacks_cycles.l0 k (([] : List (List Int))) (l1_0.length : Int) 0 l0_0 l1_0) = some r := h
  clear h
  obtain ⟨y104, hy104⟩ : ∃ y_ : List (List Int), y_ = (([] : List (List Int))) := ⟨_, rfl⟩
  replace H : (impl_Stacks_cycles.l0 k y104 (l1_0.length : Int) 0 l0_0 l1_0) = some r := by first | (rw [hy104]; with_reducible exact H) | (have H2_ := (Option.bind_some _ _).symm.trans H; rw [hy104]; with_reducible exact H2_) | (have H2_ := (Option.bind_some _ _).symm.trans H; with_reducible exact H2_) | with_reducible exact H | (rw [hy104]; exact H) | exact H
  have Ny104 := Aside0.mk hy104
  clear hy104
  have H' := Aside0.mk H
  clear H
  go_enter Try.func104, Try.ntmps104
  go_wp2_with (first | ((with_reducible refine gate_dst (N := 2) rfl ?_); refine box_event ?hg (N := 2) ?hd (cs := #[.slice A0_0 l0_0.length c0_0]) (t := 59) ?hr ?_; (case hd => rfl); (case hg => rfl); (case hr => first | (go_simp; done) | (go_simp; rfl)); intro gb102 hg w3 hbox hb; have n0_ := Aside0.mk (below_step (by repeat (first | (with_reducible first | exact HB.out | apply below_alloc | apply pw_below_drewN | apply below_drew1) | exact HB.out)) hb); have n1_ := Aside0.mk (hbox); have n2_ := Aside0.mk ((by rw [hg]; exact (below_size (by repeat (first | (with_reducible first | exact HB.out | apply below_alloc | apply pw_below_drewN | apply below_drew1) | exact HB.out))) : w.heap.size ≤ gb102)); have n3_ := Aside0.mk ((by rw [hg]; exact (below_size (by repeat (first | (with_reducible first | exact HB.out | apply below_alloc | apply pw_below_drewN | apply below_drew1) | exact HB.out))) : w.heap.size ≤ gb102)); clear HB; have HB := n0_; have BK102 := n1_; have GW102 := n2_; have GE102 := n3_; clear n0_ n1_ n2_ n3_; clear hb hbox hg) | ((with_reducible refine gate_dst (N := 3) rfl ?_); refine box_event ?hg (N := 3) ?hd (cs := #[.slice A1_0 l1_0.length c1_0]) (t := 30) ?hr ?_; (case hd => rfl); (case hg => rfl); (case hr => first | (go_simp; done) | (go_simp; rfl)); intro gb103 hg w4 hbox hb; have n0_ := Aside0.mk (blk_below (g := gb102) (o := .cells #[.slice A0_0 l0_0.length c0_0] 59 (0, 0)) (by (with_reducible repeat (first | refine blk_drewN ?_ _ | refine blk_drew ?_ | refine blk_alloc ?_ _)); exact BK102.out) hb); have n1_ := Aside0.mk (below_step (by repeat (first | (with_reducible first | exact HB.out | apply below_alloc | apply pw_below_drewN | apply below_drew1 | refine below_set ?_ GE102.out) | exact HB.out)) hb); have n2_ := Aside0.mk (hbox); have n3_ := Aside0.mk ((by rw [hg]; exact (below_size (by repeat (first | (with_reducible first | exact HB.out | apply below_alloc | apply pw_below_drewN | apply below_drew1 | refine below_set ?_ GE102.out) | exact HB.out))) : w.heap.size ≤ gb103)); have n4_ := Aside0.mk ((by rw [hg]; exact (below_size (by repeat (first | (with_reducible first | exact HB.out | apply below_alloc | apply pw_below_drewN | apply below_drew1 | refine below_set ?_ GE102.out) | exact HB.out))) : w.heap.size ≤ gb103)); have n5_ := Aside0.mk ((by rw [hg]; exact Nat.ne_of_lt (blk_lt (g := gb102) (o := .cells #[.slice A0_0 l0_0.length c0_0] 59 (0, 0)) (by (with_reducible repeat (first | refine blk_drewN ?_ _ | refine blk_drew ?_ | refine blk_alloc ?_ _)); exact BK102.out)) : gb102 ≠ gb103)); have n6_ := Aside0.mk ((by rw [hg]; exact Nat.ne_of_gt (blk_lt (g := gb102) (o := .cells #[.slice A0_0 l0_0.length c0_0] 59 (0, 0)) (by (with_reducible repeat (first | refine blk_drewN ?_ _ | refine blk_drew ?_ | refine blk_alloc ?_ _)); exact BK102.out)) : gb103 ≠ gb102)); clear BK102; clear HB; have BK102 := n0_; have HB := n1_; have BK103 := n2_; have GW103 := n3_; have GE103 := n4_; have NB102_103 := n5_; have NB103_102 := n6_; clear n0_ n1_ n2_ n3_ n4_ n5_ n6_; clear hb hbox hg) | ((with_reducible refine gate_dst (N := 8) rfl ?_); refine Kd.S_lit (Kd.slice 3 (Kd.int .i64)) _ 37 ?hg (N := 8) ?hd (xs := ([] : List (List Int))) (inner := []) (ok := fun _ => True) (okp := fun _ => True) ?hr ?hp (fun _ hk => hk) trivial (Below.refl _ _) (Nat.le_refl _) (by simp) ?_; (case hd => rfl); (case hg => rfl); (case hr => first | (go_simp; done) | (go_simp; rfl)); (case hp => exact (Reps.none _ _)); intro v105 w5 ho6 hb hg_ hnew_; clear hg_ hnew_; (first | rw [← Ny104.out] at ho6 | (simp only [Int.reduceToNat] at ho6; rw [← Ny104.out] at ho6)); have n0_ := Aside0.mk (Kd.S_lower ho6 (below_size (by repeat (first | (with_reducible first | exact HB.out | apply below_alloc | apply pw_below_drewN | apply below_drew1 | refine below_set ?_ GE102.out | refine below_set ?_ GE103.out) | exact HB.out)))); have n1_ := Aside0.mk (blk_below (g := gb102) (o := .cells #[.slice A0_0 l0_0.length c0_0] 59 (0, 0)) (by (with_reducible repeat (first | refine blk_drewN ?_ _ | refine blk_drew ?_ | refine blk_alloc ?_ _)); exact BK102.out) hb); have n2_ := Aside0.mk (blk_below (g := gb103) (o := .cells #[.slice A1_0 l1_0.length c1_0] 30 (0, 0)) (by (with_reducible repeat (first | refine blk_drewN ?_ _ | refine blk_drew ?_ | refine blk_alloc ?_ _)); exact BK103.out) hb); have n3_ := Aside0.mk (below_step (by repeat (first | (with_reducible first | exact HB.out | apply below_alloc | apply pw_below_drewN | apply below_drew1 | refine below_set ?_ GE102.out | refine below_set ?_ GE103.out) | exact HB.out)) hb); clear BK102; clear BK103; clear HB; have HO106 := n0_; have BK102 := n1_; have BK103 := n2_; have HB := n3_; clear n0_ n1_ n2_ n3_; clear hb ho6; have hnb7 := NB103_102.out; have hnc7 := NB102_103.out; have hcz8_0 : w5.cell? ⟨gb103, 0, none⟩ = some (.slice A1_0 l1_0.length c1_0) := (blk_cell BK103.out 0).trans rfl; have hfz8_0 := blk_frozen BK103.out 0))
  go_loopg [5, 12] k (fun kq v5 v12 w' => ∃ (x5_1 : List (List Int)) (x12_1 : Int), v12 = .int .i64 x12_1 ∧ Aside0 (impl_Stacks_cycles.l0 kq x5_1 (l1_0.length : Int) x12_1 l0_0 l1_0 = some r) ∧ Aside0 (kq ≤ k) ∧ Aside0 (Kd.S (Kd.slice 3 (Kd.int .i64)) 37 w' w.heap.size (fun _ => True) v5 x5_1) ∧ Aside0 (w'.heap[gb102]? = some (.cells #[(.slice A0_0 l0_0.length c0_0)] 59 (0, 0))) ∧ Aside0 (w'.heap[gb103]? = some (.cells #[(.slice A1_0 l1_0.length c1_0)] 30 (0, 0))) ∧ Aside0 (Below w.heap.size w w'))
  case atStart => exact ⟨(y104), (0), (by first | rfl | (simp; done) | (simp [*]; done)), H', ⟨Nat.le_refl _⟩, ⟨by (with_reducible repeat (first | apply Kd.S_alloc | apply Kd.S_drewN | apply Kd.S_drew)); exact HO106.out⟩, ⟨by (with_reducible repeat (first | refine blk_drewN ?_ _ | refine blk_drew ?_ | refine blk_alloc ?_ _)); exact BK102.out⟩, ⟨by (with_reducible repeat (first | refine blk_drewN ?_ _ | refine blk_drew ?_ | refine blk_alloc ?_ _)); exact BK103.out⟩, ⟨by repeat (first | (with_reducible first | exact HB.out | apply below_alloc | apply pw_below_drewN | apply below_drew1 | refine below_set ?_ GE102.out | refine below_set ?_ GE103.out) | exact HB.out)⟩⟩
  case round =>
    clear H'
    try clear c1
    try clear p2
    try clear c7
    try clear hcz8_0
    try clear hfz8_0
    obtain ⟨x5_1, x12_1, rfl, HA, HK1, HO_5, BK102, BK103, HB⟩ := hrel
    cases gk with
    | zero => exact absurd HA.out (by simp [impl_Stacks_cycles.l0])
    | succ k1 =>
      have H := HA.out
      clear HA
      simp only [impl_Stacks_cycles.l0] at H
      by_cases c9 : x12_1 < (l1_0.length : Int)
      · rw [if_pos c9] at H
        have c9b0 : decide (x12_1 < (l1_0.length : Int)) = true := decide_eq_true c9
        clear c9
        replace H := Option.bind_eq_some_iff.mp H
        obtain ⟨t107, A100, H⟩ := H
        replace H : (if (t107.length : Int) > 0 then (if 0 < (t107.length : Int) then (if (rd t107 0) = x12_1 then (if x5_1.length < 5864062014805 then (impl_Stacks_cycles.l0 k1 (x5_1 ++ [t107]) (l1_0.length : Int) (wrap64 (x12_1 + 1)) l0_0 l1_0) else (none)) else (impl_Stacks_cycles.l0 k1 x5_1 (l1_0.length : Int) (wrap64 (x12_1 + 1)) l0_0 l1_0)) else (none)) else (impl_Stacks_cycles.l0 k1 x5_1 (l1_0.length : Int) (wrap64 (x12_1 + 1)) l0_0 l1_0)) = some r := H
        have A10 := Aside0.mk A100
        clear A100
        by_cases c11 : (t107.length : Int) > 0
        · rw [if_pos c11] at H
          have c11b0 : decide (0 < (t107.length : Int)) = true := decide_eq_true c11
          have c11b1 : decide (0 < t107.length) = true := decide_eq_true (by omega)
          clear c11
          by_cases c12 : 0 < (t107.length : Int)
          · rw [if_pos c12] at H
            have c12b0 : decide (0 < (t107.length : Int)) = true := decide_eq_true c12
            have c12b1 : decide (0 < t107.length) = true := decide_eq_true (by omega)
            clear c12
            by_cases c13 : (rd t107 0) = x12_1
            · rw [if_pos c13] at H
              have c13b0 : ((rd t107 0) == x12_1) = true := beq_iff_eq.mpr c13
              have c13b1 : ((rd t107 0) != x12_1) = false := bne_eq_false_iff_eq.mpr c13
              clear c13
              by_cases c14 : x5_1.length < 5864062014805
              · rw [if_pos c14] at H
                have LMc14 := Aside0.mk c14
                clear c14
                obtain ⟨y111, hy111⟩ : ∃ y_ : List (List Int), y_ = (x5_1 ++ [t107]) := ⟨_, rfl⟩
                replace H : (impl_Stacks_cycles.l0 k1 y111 (l1_0.length : Int) (wrap64 (x12_1 + 1)) l0_0 l1_0) = some r := by first | (rw [hy111]; with_reducible exact H) | (have H2_ := (Option.bind_some _ _).symm.trans H; rw [hy111]; with_reducible exact H2_) | (have H2_ := (Option.bind_some _ _).symm.trans H; with_reducible exact H2_) | with_reducible exact H | (rw [hy111]; exact H) | exact H
                have Ny111 := Aside0.mk hy111
                clear hy111
                have H' := Aside0.mk H
                clear H
                have hnb15 := NB102_103.out
                have hnc15 := NB103_102.out
                have hcz16_0 : wr.cell? ⟨gb102, 0, none⟩ = some (.slice A0_0 l0_0.length c0_0) := (blk_cell BK102.out 0).trans rfl
                have hfz16_0 := blk_frozen BK102.out 0
                have hcz17_0 : wr.cell? ⟨gb103, 0, none⟩ = some (.slice A1_0 l1_0.length c1_0) := (blk_cell BK103.out 0).trans rfl
                have hfz17_0 := blk_frozen BK103.out 0
                go_wp2_with (first | ((with_reducible refine gate_callee (f := 125) rfl ?_); refine goesL_ (some 18) rfl rfl Try.func125 (by kernel_rfl) rfl #[.agg #[.slice A0_0 l0_0.length c0_0], .agg #[.slice A1_0 l1_0.length c1_0], .int .i64 x12_1] rfl (by (try simp only [List.map_toArray, List.map_cons, List.map_nil]); first | done | rfl | (simp only [List.length_drop, List.length_take]; rfl)) ?_; (with_reducible refine (impl_Stacks_cycleOf.calls k1 _ _ l0_0 _ _ l1_0 x12_1 t107 _ ?side1 ?side2 ?side3 ?side4 A10.out).mono ?_); (case side1 => repeat (first | exact (Kd.C_below HR0_0.out HB.out) | (with_reducible refine Kd.C_alloc ?_ _) | (with_reducible refine Kd.C_drewN ?_ _) | (with_reducible refine Kd.C_drew ?_))); (case side2 => exact HC0_0.out); (case side3 => repeat (first | exact (Kd.C_below HR1_0.out HB.out) | (with_reducible refine Kd.C_alloc ?_ _) | (with_reducible refine Kd.C_drewN ?_ _) | (with_reducible refine Kd.C_drew ?_))); (case side4 => exact HC1_0.out); rintro e w18 ⟨v108, rfl, ho0, hb, hnn⟩; refine ⟨_, rfl, ?_⟩; have NN_ := Aside0.mk (nilOr_of ho0 hnn); clear hnn; have n0_ := Aside0.mk (Kd.S_elder' (by (with_reducible repeat (first | apply Kd.S_alloc | apply Kd.S_drewN | apply Kd.S_drew)); exact HO_5.out) (Kd.R_base ho0) hb); have n1_ := Aside0.mk (Kd.R_lower ho0 (below_size (by repeat (first | (with_reducible first | exact HB.out | apply below_alloc | apply pw_below_drewN | apply below_drew1 | refine below_set ?_ GE102.out | refine below_set ?_ GE103.out) | exact HB.out)))); have n2_ := Aside0.mk (blk_below (g := gb102) (o := .cells #[.slice A0_0 l0_0.length c0_0] 59 (0, 0)) (by (with_reducible repeat (first | refine blk_drewN ?_ _ | refine blk_drew ?_ | refine blk_alloc ?_ _)); exact BK102.out) hb); have n3_ := Aside0.mk (blk_below (g := gb103) (o := .cells #[.slice A1_0 l1_0.length c1_0] 30 (0, 0)) (by (with_reducible repeat (first | refine blk_drewN ?_ _ | refine blk_drew ?_ | refine blk_alloc ?_ _)); exact BK103.out) hb); have n4_ := Aside0.mk (below_step (by repeat (first | (with_reducible first | exact HB.out | apply below_alloc | apply pw_below_drewN | apply below_drew1 | refine below_set ?_ GE102.out | refine below_set ?_ GE103.out) | exact HB.out)) hb); clear HO_5; clear BK102; clear BK103; clear HB; have HO_5 := n0_; have HO109 := n1_; have BK102 := n2_; have BK103 := n3_; have HB := n4_; clear n0_ n1_ n2_ n3_ n4_; (try clear hb); (try clear hb2); (try clear hk); (try clear hi); (try clear ho0); obtain ⟨Ao19, co19, eo19⟩ := Kd.R_slice HO109.out; subst eo19; have p110 : 0 ≤ (0 : Int) := (by omega); have q110 : 0 < (t107.length : Int) := of_decide_eq_true (by first | (with_reducible assumption) | assumption); obtain ⟨ad110, e110, hx110_0⟩ := Kd.at_int (Kd.R_reads' HO109.out).2.2 0 p110 q110; cases e110; have qi110 : (0 < t107.length) = True := eq_true (by omega); (try rw [show ((0 : Int)).toNat = 0 from rfl] at hx110_0); (try rw [Addr.add_zero'] at hx110_0); replace p110 := eq_true p110; replace q110 := eq_true q110) | ((with_reducible refine gate_builtin (b := .append) (xs := #[.tmp 28, .tmp 30]) rfl ?_); at_builtin; refine Kd.S_append (Kd.slice 3 (Kd.int .i64)) (w0 := w) w.heap.size rfl (.tmp 28) (.tmp 30) 22 37 (.slice none 0 0) 24 rfl Try.underlying22 info37 rfl (by decide) (by omega) u5 x5_1 t107 [.slice (some ad110) t107.length co19] (fun _ => True) (fun k_ => some k_ = (.slice (some ad110) t107.length co19 : Value).ownBlock) rfl rfl ?aP (fun k_ hk_ => ((Kd.R_mono (ok' := fun k_ => ((fun _ => True)) k_ ∧ some k_ ≠ (u5 : Value).ownBlock) (Kd.R_apart' (HO109.out) (Kd.S_typed HO_5.out) (by decide)) (fun k_ hk => ⟨trivial, hk.2⟩))).1 k_ hk_.symm) ?aF ?aO ?aB ?aS ?aL ?_; (case aP => exact Kd.M_row (Kd.R_mono (Kd.R_tight rfl (Kd.R_mono (ok' := fun k_ => ((fun _ => True)) k_ ∧ some k_ ≠ (u5 : Value).ownBlock) (Kd.R_apart' (HO109.out) (Kd.S_typed HO_5.out) (by decide)) (fun k_ hk => ⟨trivial, hk.2⟩))) (fun _ h_ => h_))); (case aB => exact (by repeat (first | (with_reducible first | exact HB.out | apply below_alloc | apply pw_below_drewN | apply below_drew1 | refine below_set ?_ GE102.out | refine below_set ?_ GE103.out) | exact HB.out))); (case aF => exact (fun _ _ => trivial)); (case aO => exact (by (with_reducible repeat (first | apply Kd.S_alloc | apply Kd.S_drewN | apply Kd.S_drew)); exact Kd.S_mono HO_5.out (fun k_ hk => ⟨trivial, fun e_ => hk.2 e_⟩))); (case aS => exact (below_size (by repeat (first | (with_reducible first | exact HB.out | apply below_alloc | apply pw_below_drewN | apply below_drew1 | refine below_set ?_ GE102.out | refine below_set ?_ GE103.out) | exact HB.out)))); (case aL => have := LMc14.out; omega); intro v112 w20 ho hb hg hat; rw [← Ny111.out] at ho; have n0_ := Aside0.mk (blk_grown (g := gb102) (o := .cells #[.slice A0_0 l0_0.length c0_0] 59 (0, 0)) (by (with_reducible repeat (first | refine blk_drewN ?_ _ | refine blk_drew ?_ | refine blk_alloc ?_ _)); exact BK102.out) hg (Kd.S_ne HO_5.out BK102.out (by decide))); have n1_ := Aside0.mk (blk_grown (g := gb103) (o := .cells #[.slice A1_0 l1_0.length c1_0] 30 (0, 0)) (by (with_reducible repeat (first | refine blk_drewN ?_ _ | refine blk_drew ?_ | refine blk_alloc ?_ _)); exact BK103.out) hg (Kd.S_ne HO_5.out BK103.out (by decide))); have n2_ := Aside0.mk (hb); have n3_ := Aside0.mk (ho); clear BK102; clear BK103; clear HB; clear HO_5; clear HO109; have BK102 := n0_; have BK103 := n1_; have HB := n2_; have HO113 := n3_; clear n0_ n1_ n2_ n3_; clear ho hb hg hat))
                go_roundg k1
                case measure => have := HK1.out; omega
                case rel => exact ⟨(y111), (wrap64 (x12_1 + 1)), (by first | rfl | (simp; done) | (simp [*]; done)), H', ⟨by have := HK1.out; omega⟩, ⟨by (with_reducible repeat (first | apply Kd.S_alloc | apply Kd.S_drewN | apply Kd.S_drew)); exact HO113.out⟩, ⟨by (with_reducible repeat (first | refine blk_drewN ?_ _ | refine blk_drew ?_ | refine blk_alloc ?_ _)); exact BK102.out⟩, ⟨by (with_reducible repeat (first | refine blk_drewN ?_ _ | refine blk_drew ?_ | refine blk_alloc ?_ _)); exact BK103.out⟩, ⟨by repeat (first | (with_reducible first | exact HB.out | apply below_alloc | apply pw_below_drewN | apply below_drew1 | refine below_set ?_ GE102.out | refine below_set ?_ GE103.out) | exact HB.out)⟩⟩
              · rw [if_neg c14] at H
                exact absurd H (by simp)
            · rw [if_neg c13] at H
              have c13b0 : ((rd t107 0) == x12_1) = false := beq_eq_false_iff_ne.mpr c13
              have c13b1 : ((rd t107 0) != x12_1) = true := bne_iff_ne.mpr c13
              have H' := Aside0.mk H
              clear H
              have hnb21 := NB102_103.out
              have hnc21 := NB103_102.out
              have hcz22_0 : wr.cell? ⟨gb102, 0, none⟩ = some (.slice A0_0 l0_0.length c0_0) := (blk_cell BK102.out 0).trans rfl
              have hfz22_0 := blk_frozen BK102.out 0
              have hcz23_0 : wr.cell? ⟨gb103, 0, none⟩ = some (.slice A1_0 l1_0.length c1_0) := (blk_cell BK103.out 0).trans rfl
              have hfz23_0 := blk_frozen BK103.out 0
              go_wp2_with (first | ((with_reducible refine gate_callee (f := 125) rfl ?_); refine goesL_ (some 18) rfl rfl Try.func125 (by kernel_rfl) rfl #[.agg #[.slice A0_0 l0_0.length c0_0], .agg #[.slice A1_0 l1_0.length c1_0], .int .i64 x12_1] rfl (by (try simp only [List.map_toArray, List.map_cons, List.map_nil]); first | done | rfl | (simp only [List.length_drop, List.length_take]; rfl)) ?_; (with_reducible refine (impl_Stacks_cycleOf.calls k1 _ _ l0_0 _ _ l1_0 x12_1 t107 _ ?side1 ?side2 ?side3 ?side4 A10.out).mono ?_); (case side1 => repeat (first | exact (Kd.C_below HR0_0.out HB.out) | (with_reducible refine Kd.C_alloc ?_ _) | (with_reducible refine Kd.C_drewN ?_ _) | (with_reducible refine Kd.C_drew ?_))); (case side2 => exact HC0_0.out); (case side3 => repeat (first | exact (Kd.C_below HR1_0.out HB.out) | (with_reducible refine Kd.C_alloc ?_ _) | (with_reducible refine Kd.C_drewN ?_ _) | (with_reducible refine Kd.C_drew ?_))); (case side4 => exact HC1_0.out); rintro e w24 ⟨v108, rfl, ho0, hb, hnn⟩; refine ⟨_, rfl, ?_⟩; have NN_ := Aside0.mk (nilOr_of ho0 hnn); clear hnn; have n0_ := Aside0.mk (Kd.S_elder' (by (with_reducible repeat (first | apply Kd.S_alloc | apply Kd.S_drewN | apply Kd.S_drew)); exact HO_5.out) (Kd.R_base ho0) hb); have n1_ := Aside0.mk (Kd.R_lower ho0 (below_size (by repeat (first | (with_reducible first | exact HB.out | apply below_alloc | apply pw_below_drewN | apply below_drew1 | refine below_set ?_ GE102.out | refine below_set ?_ GE103.out) | exact HB.out)))); have n2_ := Aside0.mk (blk_below (g := gb102) (o := .cells #[.slice A0_0 l0_0.length c0_0] 59 (0, 0)) (by (with_reducible repeat (first | refine blk_drewN ?_ _ | refine blk_drew ?_ | refine blk_alloc ?_ _)); exact BK102.out) hb); have n3_ := Aside0.mk (blk_below (g := gb103) (o := .cells #[.slice A1_0 l1_0.length c1_0] 30 (0, 0)) (by (with_reducible repeat (first | refine blk_drewN ?_ _ | refine blk_drew ?_ | refine blk_alloc ?_ _)); exact BK103.out) hb); have n4_ := Aside0.mk (below_step (by repeat (first | (with_reducible first | exact HB.out | apply below_alloc | apply pw_below_drewN | apply below_drew1 | refine below_set ?_ GE102.out | refine below_set ?_ GE103.out) | exact HB.out)) hb); clear HO_5; clear BK102; clear BK103; clear HB; have HO_5 := n0_; have HO109 := n1_; have BK102 := n2_; have BK103 := n3_; have HB := n4_; clear n0_ n1_ n2_ n3_ n4_; (try clear hb); (try clear hb2); (try clear hk); (try clear hi); (try clear ho0); obtain ⟨Ao25, co25, eo25⟩ := Kd.R_slice HO109.out; subst eo25; have p110 : 0 ≤ (0 : Int) := (by omega); have q110 : 0 < (t107.length : Int) := of_decide_eq_true (by first | (with_reducible assumption) | assumption); obtain ⟨ad110, e110, hx110_0⟩ := Kd.at_int (Kd.R_reads' HO109.out).2.2 0 p110 q110; cases e110; have qi110 : (0 < t107.length) = True := eq_true (by omega); (try rw [show ((0 : Int)).toNat = 0 from rfl] at hx110_0); (try rw [Addr.add_zero'] at hx110_0); replace p110 := eq_true p110; replace q110 := eq_true q110))
              go_roundg k1
              case measure => have := HK1.out; omega
              case rel => exact ⟨(x5_1), (wrap64 (x12_1 + 1)), (by first | rfl | (simp; done) | (simp [*]; done)), H', ⟨by have := HK1.out; omega⟩, ⟨by (with_reducible repeat (first | apply Kd.S_alloc | apply Kd.S_drewN | apply Kd.S_drew)); exact Kd.S_mono HO_5.out (fun _ hk => trivial)⟩, ⟨by (with_reducible repeat (first | refine blk_drewN ?_ _ | refine blk_drew ?_ | refine blk_alloc ?_ _)); exact BK102.out⟩, ⟨by (with_reducible repeat (first | refine blk_drewN ?_ _ | refine blk_drew ?_ | refine blk_alloc ?_ _)); exact BK103.out⟩, ⟨by repeat (first | (with_reducible first | exact HB.out | apply below_alloc | apply pw_below_drewN | apply below_drew1 | refine below_set ?_ GE102.out | refine below_set ?_ GE103.out) | exact HB.out)⟩⟩
          · rw [if_neg c12] at H
            exact absurd H (by simp)
        · rw [if_neg c11] at H
          have c11b0 : decide (0 < (t107.length : Int)) = false := decide_eq_false c11
          have c11b1 : decide (0 < t107.length) = false := decide_eq_false (by omega)
          clear c11
          have H' := Aside0.mk H
          clear H
          have hnb26 := NB102_103.out
          have hnc26 := NB103_102.out
          have hcz27_0 : wr.cell? ⟨gb102, 0, none⟩ = some (.slice A0_0 l0_0.length c0_0) := (blk_cell BK102.out 0).trans rfl
          have hfz27_0 := blk_frozen BK102.out 0
          have hcz28_0 : wr.cell? ⟨gb103, 0, none⟩ = some (.slice A1_0 l1_0.length c1_0) := (blk_cell BK103.out 0).trans rfl
          have hfz28_0 := blk_frozen BK103.out 0
          go_wp2_with (first | ((with_reducible refine gate_callee (f := 125) rfl ?_); refine goesL_ (some 18) rfl rfl Try.func125 (by kernel_rfl) rfl #[.agg #[.slice A0_0 l0_0.length c0_0], .agg #[.slice A1_0 l1_0.length c1_0], .int .i64 x12_1] rfl (by (try simp only [List.map_toArray, List.map_cons, List.map_nil]); first | done | rfl | (simp only [List.length_drop, List.length_take]; rfl)) ?_; (with_reducible refine (impl_Stacks_cycleOf.calls k1 _ _ l0_0 _ _ l1_0 x12_1 t107 _ ?side1 ?side2 ?side3 ?side4 A10.out).mono ?_); (case side1 => repeat (first | exact (Kd.C_below HR0_0.out HB.out) | (with_reducible refine Kd.C_alloc ?_ _) | (with_reducible refine Kd.C_drewN ?_ _) | (with_reducible refine Kd.C_drew ?_))); (case side2 => exact HC0_0.out); (case side3 => repeat (first | exact (Kd.C_below HR1_0.out HB.out) | (with_reducible refine Kd.C_alloc ?_ _) | (with_reducible refine Kd.C_drewN ?_ _) | (with_reducible refine Kd.C_drew ?_))); (case side4 => exact HC1_0.out); rintro e w29 ⟨v108, rfl, ho0, hb, hnn⟩; refine ⟨_, rfl, ?_⟩; have NN_ := Aside0.mk (nilOr_of ho0 hnn); clear hnn; have n0_ := Aside0.mk (Kd.S_elder' (by (with_reducible repeat (first | apply Kd.S_alloc | apply Kd.S_drewN | apply Kd.S_drew)); exact HO_5.out) (Kd.R_base ho0) hb); have n1_ := Aside0.mk (Kd.R_lower ho0 (below_size (by repeat (first | (with_reducible first | exact HB.out | apply below_alloc | apply pw_below_drewN | apply below_drew1 | refine below_set ?_ GE102.out | refine below_set ?_ GE103.out) | exact HB.out)))); have n2_ := Aside0.mk (blk_below (g := gb102) (o := .cells #[.slice A0_0 l0_0.length c0_0] 59 (0, 0)) (by (with_reducible repeat (first | refine blk_drewN ?_ _ | refine blk_drew ?_ | refine blk_alloc ?_ _)); exact BK102.out) hb); have n3_ := Aside0.mk (blk_below (g := gb103) (o := .cells #[.slice A1_0 l1_0.length c1_0] 30 (0, 0)) (by (with_reducible repeat (first | refine blk_drewN ?_ _ | refine blk_drew ?_ | refine blk_alloc ?_ _)); exact BK103.out) hb); have n4_ := Aside0.mk (below_step (by repeat (first | (with_reducible first | exact HB.out | apply below_alloc | apply pw_below_drewN | apply below_drew1 | refine below_set ?_ GE102.out | refine below_set ?_ GE103.out) | exact HB.out)) hb); clear HO_5; clear BK102; clear BK103; clear HB; have HO_5 := n0_; have HO109 := n1_; have BK102 := n2_; have BK103 := n3_; have HB := n4_; clear n0_ n1_ n2_ n3_ n4_; (try clear hb); (try clear hb2); (try clear hk); (try clear hi); (try clear ho0); obtain ⟨Ao30, co30, eo30⟩ := Kd.R_slice HO109.out; subst eo30; have NI_ := nilOr_none NN_.out c11b1; subst NI_))
          go_roundg k1
          case measure => have := HK1.out; omega
          case rel => exact ⟨(x5_1), (wrap64 (x12_1 + 1)), (by first | rfl | (simp; done) | (simp [*]; done)), H', ⟨by have := HK1.out; omega⟩, ⟨by (with_reducible repeat (first | apply Kd.S_alloc | apply Kd.S_drewN | apply Kd.S_drew)); exact Kd.S_mono HO_5.out (fun _ hk => trivial)⟩, ⟨by (with_reducible repeat (first | refine blk_drewN ?_ _ | refine blk_drew ?_ | refine blk_alloc ?_ _)); exact BK102.out⟩, ⟨by (with_reducible repeat (first | refine blk_drewN ?_ _ | refine blk_drew ?_ | refine blk_alloc ?_ _)); exact BK103.out⟩, ⟨by repeat (first | (with_reducible first | exact HB.out | apply below_alloc | apply pw_below_drewN | apply below_drew1 | refine below_set ?_ GE102.out | refine below_set ?_ GE103.out) | exact HB.out)⟩⟩
      · rw [if_neg c9] at H
        have c9b0 : decide (x12_1 < (l1_0.length : Int)) = false := decide_eq_false c9
        clear c9
        obtain rfl := Option.some.inj H
        go_wp2
        go_ret
        exact ⟨_, by first | rfl | (simp [errW_none, errW_some] <;> rfl) | (simp [*, errW_none, errW_some] <;> rfl), by (with_reducible repeat (first | apply Kd.S_alloc | apply Kd.S_drewN | apply Kd.S_drew)); exact HO_5.out, by repeat (first | (with_reducible first | exact HB.out | apply below_alloc | apply pw_below_drewN | apply below_drew1 | refine below_set ?_ GE102.out | refine below_set ?_ GE103.out) | exact HB.out)⟩
def impl_CyclesOf.f (k : Nat) (l0_0 : List (List Int)) (a1 : Int) (l2_0 : List (List Int)) : Option ((List (List Int)) × Bool) := (impl_areStacks.f l0_0 a1 l2_0).bind fun t116 => (if t116 = true then ((impl_Stacks_cycles.f k l2_0 l0_0).bind fun t117 => (some (t117, true))) else (some (([] : List (List Int)), false)))
set_option maxHeartbeats 8000000 in
set_option maxRecDepth 100000 in
theorem impl_CyclesOf.calls (k : Nat) (A0_0 : Option Addr) (c0_0 : Nat) (l0_0 : List (List Int)) (a1 : Int) (A2_0 : Option Addr) (c2_0 : Nat) (l2_0 : List (List Int)) (r1 : List (List Int)) (r2 : Bool) (w : World) (hr0_0 : Kd.C (Kd.slice 3 (Kd.int .i64)) w A0_0 l0_0.length l0_0) (hc0_0 : l0_0.length ≤ c0_0) (hr2_0 : Kd.C (Kd.slice 3 (Kd.int .i64)) w A2_0 l2_0.length l2_0) (hc2_0 : l2_0.length ≤ c2_0) (h : impl_CyclesOf.f k l0_0 a1 l2_0 = some (r1, r2)) :
    Calls Try.prog 65 #[.agg #[.slice A0_0 l0_0.length c0_0], .int .i64 a1, .agg #[.slice A2_0 l2_0.length c2_0]] w fun e w' => ∃ v0_ : Value, e = .returned (.tuple #[v0_, .bool r2]) ∧ Kd.S (Kd.slice 3 (Kd.int .i64)) 37 w' w.heap.size (fun _ => True) v0_ r1 ∧ Below w.heap.size w w' := by
  have hu30 := Try.underlying30
  have hu59 := Try.underlying59
  have HR0_0 := Aside0.mk hr0_0
  have HC0_0 := Aside0.mk hc0_0
  clear hr0_0 hc0_0
  have HR2_0 := Aside0.mk hr2_0
  have HC2_0 := Aside0.mk hc2_0
  clear hr2_0 hc2_0
  have HB := Aside0.mk (Below.refl w.heap.size w)
  have H : ((impl_areStacks.f l0_0 a1 l2_0).bind fun t116 => (if t116 = true then ((impl_Stacks_cycles.f k l2_0 l0_0).bind fun t117 => (some (t117, true))) else (some (([] : List (List Int)), false)))) = some (r1, r2) := h
  clear h
  replace H := Option.bind_eq_some_iff.mp H
  obtain ⟨t116, A40, H⟩ := H
  replace H : (if t116 = true then ((impl_Stacks_cycles.f k l2_0 l0_0).bind fun t117 => (some (t117, true))) else (some (([] : List (List Int)), false))) = some (r1, r2) := H
  have A4 := Aside0.mk A40
  clear A40
  by_cases c5 : t116 = true
  · subst c5
    have H1 : ((impl_Stacks_cycles.f k l2_0 l0_0).bind fun t117 => (some (t117, true))) = some (r1, r2) := by rw [if_pos rfl] at H; exact H
    clear H
    have H := H1
    clear H1
    replace H := Option.bind_eq_some_iff.mp H
    obtain ⟨t117, A60, H⟩ := H
    replace H : (some (t117, true)) = some (r1, r2) := H
    have A6 := Aside0.mk A60
    clear A60
    simp only [Option.some.injEq, Prod.mk.injEq] at H
    obtain ⟨rfl, rfl⟩ := H
    go_enter Try.func65, Try.ntmps65
    go_wp2_with (first | ((with_reducible refine gate_dst (N := 3) rfl ?_); refine box_event ?hg (N := 3) ?hd (cs := #[.slice A0_0 l0_0.length c0_0]) (t := 30) ?hr ?_; (case hd => rfl); (case hg => rfl); (case hr => first | (go_simp; done) | (go_simp; rfl)); intro gb114 hg w7 hbox hb; have n0_ := Aside0.mk (below_step (by repeat (first | (with_reducible first | exact HB.out | apply below_alloc | apply pw_below_drewN | apply below_drew1) | exact HB.out)) hb); have n1_ := Aside0.mk (hbox); have n2_ := Aside0.mk ((by rw [hg]; exact (below_size (by repeat (first | (with_reducible first | exact HB.out | apply below_alloc | apply pw_below_drewN | apply below_drew1) | exact HB.out))) : w.heap.size ≤ gb114)); have n3_ := Aside0.mk ((by rw [hg]; exact (below_size (by repeat (first | (with_reducible first | exact HB.out | apply below_alloc | apply pw_below_drewN | apply below_drew1) | exact HB.out))) : w.heap.size ≤ gb114)); clear HB; have HB := n0_; have BK114 := n1_; have GW114 := n2_; have GE114 := n3_; clear n0_ n1_ n2_ n3_; clear hb hbox hg) | ((with_reducible refine gate_dst (N := 5) rfl ?_); refine box_event ?hg (N := 5) ?hd (cs := #[.slice A2_0 l2_0.length c2_0]) (t := 59) ?hr ?_; (case hd => rfl); (case hg => rfl); (case hr => first | (go_simp; done) | (go_simp; rfl)); intro gb115 hg w8 hbox hb; have n0_ := Aside0.mk (blk_below (g := gb114) (o := .cells #[.slice A0_0 l0_0.length c0_0] 30 (0, 0)) (by (with_reducible repeat (first | refine blk_drewN ?_ _ | refine blk_drew ?_ | refine blk_alloc ?_ _)); exact BK114.out) hb); have n1_ := Aside0.mk (below_step (by repeat (first | (with_reducible first | exact HB.out | apply below_alloc | apply pw_below_drewN | apply below_drew1 | refine below_set ?_ GE114.out) | exact HB.out)) hb); have n2_ := Aside0.mk (hbox); have n3_ := Aside0.mk ((by rw [hg]; exact (below_size (by repeat (first | (with_reducible first | exact HB.out | apply below_alloc | apply pw_below_drewN | apply below_drew1 | refine below_set ?_ GE114.out) | exact HB.out))) : w.heap.size ≤ gb115)); have n4_ := Aside0.mk ((by rw [hg]; exact (below_size (by repeat (first | (with_reducible first | exact HB.out | apply below_alloc | apply pw_below_drewN | apply below_drew1 | refine below_set ?_ GE114.out) | exact HB.out))) : w.heap.size ≤ gb115)); have n5_ := Aside0.mk ((by rw [hg]; exact Nat.ne_of_lt (blk_lt (g := gb114) (o := .cells #[.slice A0_0 l0_0.length c0_0] 30 (0, 0)) (by (with_reducible repeat (first | refine blk_drewN ?_ _ | refine blk_drew ?_ | refine blk_alloc ?_ _)); exact BK114.out)) : gb114 ≠ gb115)); have n6_ := Aside0.mk ((by rw [hg]; exact Nat.ne_of_gt (blk_lt (g := gb114) (o := .cells #[.slice A0_0 l0_0.length c0_0] 30 (0, 0)) (by (with_reducible repeat (first | refine blk_drewN ?_ _ | refine blk_drew ?_ | refine blk_alloc ?_ _)); exact BK114.out)) : gb115 ≠ gb114)); clear BK114; clear HB; have BK114 := n0_; have HB := n1_; have BK115 := n2_; have GW115 := n3_; have GE115 := n4_; have NB114_115 := n5_; have NB115_114 := n6_; clear n0_ n1_ n2_ n3_ n4_ n5_ n6_; clear hb hbox hg; have hnb9 := NB114_115.out; have hnc9 := NB115_114.out; have hcz10_0 : w8.cell? ⟨gb114, 0, none⟩ = some (.slice A0_0 l0_0.length c0_0) := (blk_cell BK114.out 0).trans rfl; have hfz10_0 := blk_frozen BK114.out 0; have hcz11_0 : w8.cell? ⟨gb115, 0, none⟩ = some (.slice A2_0 l2_0.length c2_0) := (blk_cell BK115.out 0).trans rfl; have hfz11_0 := blk_frozen BK115.out 0) | ((with_reducible refine gate_callee (f := 98) rfl ?_); refine goesL_ (some 11) rfl rfl Try.func98 (by kernel_rfl) rfl #[.agg #[.slice A0_0 l0_0.length c0_0], .int .i64 a1, .agg #[.slice A2_0 l2_0.length c2_0]] rfl (by (try simp only [List.map_toArray, List.map_cons, List.map_nil]); first | done | rfl | (simp only [List.length_drop, List.length_take]; rfl)) ?_; (with_reducible refine (impl_areStacks.calls _ _ l0_0 a1 _ _ l2_0 true _ ?side1 ?side2 ?side3 ?side4 A4.out).mono ?_); (case side1 => repeat (first | exact (Kd.C_below HR0_0.out HB.out) | (with_reducible refine Kd.C_alloc ?_ _) | (with_reducible refine Kd.C_drewN ?_ _) | (with_reducible refine Kd.C_drew ?_))); (case side2 => exact HC0_0.out); (case side3 => repeat (first | exact (Kd.C_below HR2_0.out HB.out) | (with_reducible refine Kd.C_alloc ?_ _) | (with_reducible refine Kd.C_drewN ?_ _) | (with_reducible refine Kd.C_drew ?_))); (case side4 => exact HC2_0.out); rintro e w12 ⟨rfl, hb⟩; refine ⟨_, rfl, ?_⟩; have n0_ := Aside0.mk (blk_below (g := gb114) (o := .cells #[.slice A0_0 l0_0.length c0_0] 30 (0, 0)) (by (with_reducible repeat (first | refine blk_drewN ?_ _ | refine blk_drew ?_ | refine blk_alloc ?_ _)); exact BK114.out) hb); have n1_ := Aside0.mk (blk_below (g := gb115) (o := .cells #[.slice A2_0 l2_0.length c2_0] 59 (0, 0)) (by (with_reducible repeat (first | refine blk_drewN ?_ _ | refine blk_drew ?_ | refine blk_alloc ?_ _)); exact BK115.out) hb); have n2_ := Aside0.mk (below_step (by repeat (first | (with_reducible first | exact HB.out | apply below_alloc | apply pw_below_drewN | apply below_drew1 | refine below_set ?_ GE114.out | refine below_set ?_ GE115.out) | exact HB.out)) hb); clear BK114; clear BK115; clear HB; have BK114 := n0_; have BK115 := n1_; have HB := n2_; clear n0_ n1_ n2_; (try clear hb); (try clear hb2); (try clear hk); (try clear hi); have hcz13_0 : w12.cell? ⟨gb115, 0, none⟩ = some (.slice A2_0 l2_0.length c2_0) := (blk_cell BK115.out 0).trans rfl; have hfz13_0 := blk_frozen BK115.out 0; have hcz14_0 : w12.cell? ⟨gb114, 0, none⟩ = some (.slice A0_0 l0_0.length c0_0) := (blk_cell BK114.out 0).trans rfl; have hfz14_0 := blk_frozen BK114.out 0) | ((with_reducible refine gate_callee (f := 104) rfl ?_); refine goesL_ (some 15) rfl rfl Try.func104 (by kernel_rfl) rfl #[.agg #[.slice A2_0 l2_0.length c2_0], .agg #[.slice A0_0 l0_0.length c0_0]] rfl (by (try simp only [List.map_toArray, List.map_cons, List.map_nil]); first | done | rfl | (simp only [List.length_drop, List.length_take]; rfl)) ?_; (with_reducible refine (impl_Stacks_cycles.calls k _ _ l2_0 _ _ l0_0 t117 _ ?side1 ?side2 ?side3 ?side4 A6.out).mono ?_); (case side1 => repeat (first | exact (Kd.C_below HR2_0.out HB.out) | (with_reducible refine Kd.C_alloc ?_ _) | (with_reducible refine Kd.C_drewN ?_ _) | (with_reducible refine Kd.C_drew ?_))); (case side2 => exact HC2_0.out); (case side3 => repeat (first | exact (Kd.C_below HR0_0.out HB.out) | (with_reducible refine Kd.C_alloc ?_ _) | (with_reducible refine Kd.C_drewN ?_ _) | (with_reducible refine Kd.C_drew ?_))); (case side4 => exact HC0_0.out); rintro e w15 ⟨v118, rfl, ho0, hb⟩; refine ⟨_, rfl, ?_⟩; have n0_ := Aside0.mk (Kd.S_lower ho0 (below_size (by repeat (first | (with_reducible first | exact HB.out | apply below_alloc | apply pw_below_drewN | apply below_drew1 | refine below_set ?_ GE114.out | refine below_set ?_ GE115.out) | exact HB.out)))); have n1_ := Aside0.mk (blk_below (g := gb114) (o := .cells #[.slice A0_0 l0_0.length c0_0] 30 (0, 0)) (by (with_reducible repeat (first | refine blk_drewN ?_ _ | refine blk_drew ?_ | refine blk_alloc ?_ _)); exact BK114.out) hb); have n2_ := Aside0.mk (blk_below (g := gb115) (o := .cells #[.slice A2_0 l2_0.length c2_0] 59 (0, 0)) (by (with_reducible repeat (first | refine blk_drewN ?_ _ | refine blk_drew ?_ | refine blk_alloc ?_ _)); exact BK115.out) hb); have n3_ := Aside0.mk (below_step (by repeat (first | (with_reducible first | exact HB.out | apply below_alloc | apply pw_below_drewN | apply below_drew1 | refine below_set ?_ GE114.out | refine below_set ?_ GE115.out) | exact HB.out)) hb); clear BK114; clear BK115; clear HB; have HO119 := n0_; have BK114 := n1_; have BK115 := n2_; have HB := n3_; clear n0_ n1_ n2_ n3_; (try clear hb); (try clear hb2); (try clear hk); (try clear hi); (try clear ho0)))
    go_ret2
    exact ⟨_, by first | rfl | (simp [errW_none, errW_some] <;> rfl) | (simp [*, errW_none, errW_some] <;> rfl), by (with_reducible repeat (first | apply Kd.S_alloc | apply Kd.S_drewN | apply Kd.S_drew)); exact HO119.out, by repeat (first | (with_reducible first | exact HB.out | apply below_alloc | apply pw_below_drewN | apply below_drew1 | refine below_set ?_ GE114.out | refine below_set ?_ GE115.out) | exact HB.out)⟩
  · replace c5 := Bool.eq_false_iff.mpr c5
    subst c5
    have H1 : (some (([] : List (List Int)), false)) = some (r1, r2) := by rw [if_neg (show ¬ (false = true) by decide)] at H; exact H
    clear H
    have H := H1
    clear H1
    simp only [Option.some.injEq, Prod.mk.injEq] at H
    obtain ⟨rfl, rfl⟩ := H
    go_enter Try.func65, Try.ntmps65
    go_wp2_with (first | ((with_reducible refine gate_dst (N := 3) rfl ?_); refine box_event ?hg (N := 3) ?hd (cs := #[.slice A0_0 l0_0.length c0_0]) (t := 30) ?hr ?_; (case hd => rfl); (case hg => rfl); (case hr => first | (go_simp; done) | (go_simp; rfl)); intro gb114 hg w16 hbox hb; have n0_ := Aside0.mk (below_step (by repeat (first | (with_reducible first | exact HB.out | apply below_alloc | apply pw_below_drewN | apply below_drew1) | exact HB.out)) hb); have n1_ := Aside0.mk (hbox); have n2_ := Aside0.mk ((by rw [hg]; exact (below_size (by repeat (first | (with_reducible first | exact HB.out | apply below_alloc | apply pw_below_drewN | apply below_drew1) | exact HB.out))) : w.heap.size ≤ gb114)); have n3_ := Aside0.mk ((by rw [hg]; exact (below_size (by repeat (first | (with_reducible first | exact HB.out | apply below_alloc | apply pw_below_drewN | apply below_drew1) | exact HB.out))) : w.heap.size ≤ gb114)); clear HB; have HB := n0_; have BK114 := n1_; have GW114 := n2_; have GE114 := n3_; clear n0_ n1_ n2_ n3_; clear hb hbox hg) | ((with_reducible refine gate_dst (N := 5) rfl ?_); refine box_event ?hg (N := 5) ?hd (cs := #[.slice A2_0 l2_0.length c2_0]) (t := 59) ?hr ?_; (case hd => rfl); (case hg => rfl); (case hr => first | (go_simp; done) | (go_simp; rfl)); intro gb115 hg w17 hbox hb; have n0_ := Aside0.mk (blk_below (g := gb114) (o := .cells #[.slice A0_0 l0_0.length c0_0] 30 (0, 0)) (by (with_reducible repeat (first | refine blk_drewN ?_ _ | refine blk_drew ?_ | refine blk_alloc ?_ _)); exact BK114.out) hb); have n1_ := Aside0.mk (below_step (by repeat (first | (with_reducible first | exact HB.out | apply below_alloc | apply pw_below_drewN | apply below_drew1 | refine below_set ?_ GE114.out) | exact HB.out)) hb); have n2_ := Aside0.mk (hbox); have n3_ := Aside0.mk ((by rw [hg]; exact (below_size (by repeat (first | (with_reducible first | exact HB.out | apply below_alloc | apply pw_below_drewN | apply below_drew1 | refine below_set ?_ GE114.out) | exact HB.out))) : w.heap.size ≤ gb115)); have n4_ := Aside0.mk ((by rw [hg]; exact (below_size (by repeat (first | (with_reducible first | exact HB.out | apply below_alloc | apply pw_below_drewN | apply below_drew1 | refine below_set ?_ GE114.out) | exact HB.out))) : w.heap.size ≤ gb115)); have n5_ := Aside0.mk ((by rw [hg]; exact Nat.ne_of_lt (blk_lt (g := gb114) (o := .cells #[.slice A0_0 l0_0.length c0_0] 30 (0, 0)) (by (with_reducible repeat (first | refine blk_drewN ?_ _ | refine blk_drew ?_ | refine blk_alloc ?_ _)); exact BK114.out)) : gb114 ≠ gb115)); have n6_ := Aside0.mk ((by rw [hg]; exact Nat.ne_of_gt (blk_lt (g := gb114) (o := .cells #[.slice A0_0 l0_0.length c0_0] 30 (0, 0)) (by (with_reducible repeat (first | refine blk_drewN ?_ _ | refine blk_drew ?_ | refine blk_alloc ?_ _)); exact BK114.out)) : gb115 ≠ gb114)); clear BK114; clear HB; have BK114 := n0_; have HB := n1_; have BK115 := n2_; have GW115 := n3_; have GE115 := n4_; have NB114_115 := n5_; have NB115_114 := n6_; clear n0_ n1_ n2_ n3_ n4_ n5_ n6_; clear hb hbox hg; have hnb18 := NB114_115.out; have hnc18 := NB115_114.out; have hcz19_0 : w17.cell? ⟨gb114, 0, none⟩ = some (.slice A0_0 l0_0.length c0_0) := (blk_cell BK114.out 0).trans rfl; have hfz19_0 := blk_frozen BK114.out 0; have hcz20_0 : w17.cell? ⟨gb115, 0, none⟩ = some (.slice A2_0 l2_0.length c2_0) := (blk_cell BK115.out 0).trans rfl; have hfz20_0 := blk_frozen BK115.out 0) | ((with_reducible refine gate_callee (f := 98) rfl ?_); refine goesL_ (some 11) rfl rfl Try.func98 (by kernel_rfl) rfl #[.agg #[.slice A0_0 l0_0.length c0_0], .int .i64 a1, .agg #[.slice A2_0 l2_0.length c2_0]] rfl (by (try simp only [List.map_toArray, List.map_cons, List.map_nil]); first | done | rfl | (simp only [List.length_drop, List.length_take]; rfl)) ?_; (with_reducible refine (impl_areStacks.calls _ _ l0_0 a1 _ _ l2_0 false _ ?side1 ?side2 ?side3 ?side4 A4.out).mono ?_); (case side1 => repeat (first | exact (Kd.C_below HR0_0.out HB.out) | (with_reducible refine Kd.C_alloc ?_ _) | (with_reducible refine Kd.C_drewN ?_ _) | (with_reducible refine Kd.C_drew ?_))); (case side2 => exact HC0_0.out); (case side3 => repeat (first | exact (Kd.C_below HR2_0.out HB.out) | (with_reducible refine Kd.C_alloc ?_ _) | (with_reducible refine Kd.C_drewN ?_ _) | (with_reducible refine Kd.C_drew ?_))); (case side4 => exact HC2_0.out); rintro e w21 ⟨rfl, hb⟩; refine ⟨_, rfl, ?_⟩; have n0_ := Aside0.mk (blk_below (g := gb114) (o := .cells #[.slice A0_0 l0_0.length c0_0] 30 (0, 0)) (by (with_reducible repeat (first | refine blk_drewN ?_ _ | refine blk_drew ?_ | refine blk_alloc ?_ _)); exact BK114.out) hb); have n1_ := Aside0.mk (blk_below (g := gb115) (o := .cells #[.slice A2_0 l2_0.length c2_0] 59 (0, 0)) (by (with_reducible repeat (first | refine blk_drewN ?_ _ | refine blk_drew ?_ | refine blk_alloc ?_ _)); exact BK115.out) hb); have n2_ := Aside0.mk (below_step (by repeat (first | (with_reducible first | exact HB.out | apply below_alloc | apply pw_below_drewN | apply below_drew1 | refine below_set ?_ GE114.out | refine below_set ?_ GE115.out) | exact HB.out)) hb); clear BK114; clear BK115; clear HB; have BK114 := n0_; have BK115 := n1_; have HB := n2_; clear n0_ n1_ n2_; (try clear hb); (try clear hb2); (try clear hk); (try clear hi)))
    go_ret2
    exact ⟨_, by first | rfl | (simp [errW_none, errW_some] <;> rfl) | (simp [*, errW_none, errW_some] <;> rfl), by first | exact Kd.S_nil _ _ _ _ _ | exact Kd.N_nil _ _ _ _ _ | exact Kd.V_nil _ _ _ _ _ | exact Kd.Q_nil _ _ _ _ _ | exact Kd.R_nil _ _ _ _ _, by repeat (first | (with_reducible first | exact HB.out | apply below_alloc | apply pw_below_drewN | apply below_drew1 | refine below_set ?_ GE114.out | refine below_set ?_ GE115.out) | exact HB.out)⟩
def impl_FirstCycle.f (k : Nat) (l0_0 : List (List Int)) (a1 : Int) (l2_0 : List (List Int)) : Option (List Int × Bool) := (impl_CyclesOf.f k l0_0 a1 l2_0).bind fun bt122 => (if bt122.2 = true then (if (bt122.1.length : Int) = 0 then (some (([] : List Int), false)) else (if 0 < (bt122.1.length : Int) then (some (rd_L1 bt122.1 0, true)) else (none))) else (some (([] : List Int), false)))
set_option maxHeartbeats 8000000 in
set_option maxRecDepth 100000 in
theorem impl_FirstCycle.calls (k : Nat) (A0_0 : Option Addr) (c0_0 : Nat) (l0_0 : List (List Int)) (a1 : Int) (A2_0 : Option Addr) (c2_0 : Nat) (l2_0 : List (List Int)) (r1 : List Int) (r2 : Bool) (w : World) (hr0_0 : Kd.C (Kd.slice 3 (Kd.int .i64)) w A0_0 l0_0.length l0_0) (hc0_0 : l0_0.length ≤ c0_0) (hr2_0 : Kd.C (Kd.slice 3 (Kd.int .i64)) w A2_0 l2_0.length l2_0) (hc2_0 : l2_0.length ≤ c2_0) (h : impl_FirstCycle.f k l0_0 a1 l2_0 = some (r1, r2)) :
    Calls Try.prog 70 #[.agg #[.slice A0_0 l0_0.length c0_0], .int .i64 a1, .agg #[.slice A2_0 l2_0.length c2_0]] w fun e w' => ∃ v0_ : Value, e = .returned (.tuple #[v0_, .bool r2]) ∧ Kd.R (Kd.int .i64) 3 w' w.heap.size (fun _ => True) v0_ r1 ∧ Below w.heap.size w w' := by
  have hu30 := Try.underlying30
  have hu59 := Try.underlying59
  have HR0_0 := Aside0.mk hr0_0
  have HC0_0 := Aside0.mk hc0_0
  clear hr0_0 hc0_0
  have HR2_0 := Aside0.mk hr2_0
  have HC2_0 := Aside0.mk hc2_0
  clear hr2_0 hc2_0
  have HB := Aside0.mk (Below.refl w.heap.size w)
  have H : ((impl_CyclesOf.f k l0_0 a1 l2_0).bind fun bt122 => (if bt122.2 = true then (if (bt122.1.length : Int) = 0 then (some (([] : List Int), false)) else (if 0 < (bt122.1.length : Int) then (some (rd_L1 bt122.1 0, true)) else (none))) else (some (([] : List Int), false)))) = some (r1, r2) := h
  clear h
  replace H := Option.bind_eq_some_iff.mp H
  obtain ⟨⟨t122, t125⟩, A40, H⟩ := H
  replace H : (if t125 = true then (if (t122.length : Int) = 0 then (some (([] : List Int), false)) else (if 0 < (t122.length : Int) then (some (rd_L1 t122 0, true)) else (none))) else (some (([] : List Int), false))) = some (r1, r2) := H
  have A4 := Aside0.mk A40
  clear A40
  by_cases c5 : t125 = true
  · subst c5
    have H1 : (if (t122.length : Int) = 0 then (some (([] : List Int), false)) else (if 0 < (t122.length : Int) then (some (rd_L1 t122 0, true)) else (none))) = some (r1, r2) := by rw [if_pos rfl] at H; exact H
    clear H
    have H := H1
    clear H1
    by_cases c6 : (t122.length : Int) = 0
    · rw [if_pos c6] at H
      have c6b0 : ((t122.length : Int) == 0) = true := beq_iff_eq.mpr c6
      have c6b1 : ((t122.length : Int) != 0) = false := bne_eq_false_iff_eq.mpr c6
      clear c6
      simp only [Option.some.injEq, Prod.mk.injEq] at H
      obtain ⟨rfl, rfl⟩ := H
      go_enter Try.func70, Try.ntmps70
      go_wp2_with (first | ((with_reducible refine gate_dst (N := 3) rfl ?_); (try (refine gate_guard (by rfl) ?_; dsimp only)); refine box_event ?hg (N := 3) ?hd (cs := #[.slice A0_0 l0_0.length c0_0]) (t := 30) ?hr ?_; (case hd => rfl); (case hg => rfl); (case hr => first | (go_simp; done) | (go_simp; rfl)); intro gb120 hg w7 hbox hb; have n0_ := Aside0.mk (below_step (by repeat (first | (with_reducible first | exact HB.out | apply below_alloc | apply pw_below_drewN | apply below_drew1) | exact HB.out)) hb); have n1_ := Aside0.mk (hbox); have n2_ := Aside0.mk ((by rw [hg]; exact (below_size (by repeat (first | (with_reducible first | exact HB.out | apply below_alloc | apply pw_below_drewN | apply below_drew1) | exact HB.out))) : w.heap.size ≤ gb120)); have n3_ := Aside0.mk ((by rw [hg]; exact (below_size (by repeat (first | (with_reducible first | exact HB.out | apply below_alloc | apply pw_below_drewN | apply below_drew1) | exact HB.out))) : w.heap.size ≤ gb120)); clear HB; have HB := n0_; have BK120 := n1_; have GW120 := n2_; have GE120 := n3_; clear n0_ n1_ n2_ n3_; clear hb hbox hg) | ((with_reducible refine gate_dst (N := 5) rfl ?_); (try (refine gate_guard (by rfl) ?_; dsimp only)); refine box_event ?hg (N := 5) ?hd (cs := #[.slice A2_0 l2_0.length c2_0]) (t := 59) ?hr ?_; (case hd => rfl); (case hg => rfl); (case hr => first | (go_simp; done) | (go_simp; rfl)); intro gb121 hg w8 hbox hb; have n0_ := Aside0.mk (blk_below (g := gb120) (o := .cells #[.slice A0_0 l0_0.length c0_0] 30 (0, 0)) (by (with_reducible repeat (first | refine blk_drewN ?_ _ | refine blk_drew ?_ | refine blk_alloc ?_ _)); exact BK120.out) hb); have n1_ := Aside0.mk (below_step (by repeat (first | (with_reducible first | exact HB.out | apply below_alloc | apply pw_below_drewN | apply below_drew1 | refine below_set ?_ GE120.out) | exact HB.out)) hb); have n2_ := Aside0.mk (hbox); have n3_ := Aside0.mk ((by rw [hg]; exact (below_size (by repeat (first | (with_reducible first | exact HB.out | apply below_alloc | apply pw_below_drewN | apply below_drew1 | refine below_set ?_ GE120.out) | exact HB.out))) : w.heap.size ≤ gb121)); have n4_ := Aside0.mk ((by rw [hg]; exact (below_size (by repeat (first | (with_reducible first | exact HB.out | apply below_alloc | apply pw_below_drewN | apply below_drew1 | refine below_set ?_ GE120.out) | exact HB.out))) : w.heap.size ≤ gb121)); have n5_ := Aside0.mk ((by rw [hg]; exact Nat.ne_of_lt (blk_lt (g := gb120) (o := .cells #[.slice A0_0 l0_0.length c0_0] 30 (0, 0)) (by (with_reducible repeat (first | refine blk_drewN ?_ _ | refine blk_drew ?_ | refine blk_alloc ?_ _)); exact BK120.out)) : gb120 ≠ gb121)); have n6_ := Aside0.mk ((by rw [hg]; exact Nat.ne_of_gt (blk_lt (g := gb120) (o := .cells #[.slice A0_0 l0_0.length c0_0] 30 (0, 0)) (by (with_reducible repeat (first | refine blk_drewN ?_ _ | refine blk_drew ?_ | refine blk_alloc ?_ _)); exact BK120.out)) : gb121 ≠ gb120)); clear BK120; clear HB; have BK120 := n0_; have HB := n1_; have BK121 := n2_; have GW121 := n3_; have GE121 := n4_; have NB120_121 := n5_; have NB121_120 := n6_; clear n0_ n1_ n2_ n3_ n4_ n5_ n6_; clear hb hbox hg; have hnb9 := NB120_121.out; have hnc9 := NB121_120.out; have hcz10_0 : w8.cell? ⟨gb120, 0, none⟩ = some (.slice A0_0 l0_0.length c0_0) := (blk_cell BK120.out 0).trans rfl; have hfz10_0 := blk_frozen BK120.out 0; have hcz11_0 : w8.cell? ⟨gb121, 0, none⟩ = some (.slice A2_0 l2_0.length c2_0) := (blk_cell BK121.out 0).trans rfl; have hfz11_0 := blk_frozen BK121.out 0) | ((with_reducible refine gate_callee (f := 65) rfl ?_); refine goesL_ (some 14) rfl rfl Try.func65 (by kernel_rfl) rfl #[.agg #[.slice A0_0 l0_0.length c0_0], .int .i64 a1, .agg #[.slice A2_0 l2_0.length c2_0]] rfl (by (try simp only [List.map_toArray, List.map_cons, List.map_nil]); first | done | rfl | (simp only [List.length_drop, List.length_take]; rfl)) ?_; (with_reducible refine (impl_CyclesOf.calls k _ _ l0_0 a1 _ _ l2_0 t122 true _ ?side1 ?side2 ?side3 ?side4 A4.out).mono ?_); (case side1 => repeat (first | exact (Kd.C_below HR0_0.out HB.out) | (with_reducible refine Kd.C_alloc ?_ _) | (with_reducible refine Kd.C_drewN ?_ _) | (with_reducible refine Kd.C_drew ?_))); (case side2 => exact HC0_0.out); (case side3 => repeat (first | exact (Kd.C_below HR2_0.out HB.out) | (with_reducible refine Kd.C_alloc ?_ _) | (with_reducible refine Kd.C_drewN ?_ _) | (with_reducible refine Kd.C_drew ?_))); (case side4 => exact HC2_0.out); rintro e w12 ⟨v123, rfl, ho0, hb⟩; refine ⟨_, rfl, ?_⟩; have n0_ := Aside0.mk (Kd.S_lower ho0 (below_size (by repeat (first | (with_reducible first | exact HB.out | apply below_alloc | apply pw_below_drewN | apply below_drew1 | refine below_set ?_ GE120.out | refine below_set ?_ GE121.out) | exact HB.out)))); have n1_ := Aside0.mk (blk_below (g := gb120) (o := .cells #[.slice A0_0 l0_0.length c0_0] 30 (0, 0)) (by (with_reducible repeat (first | refine blk_drewN ?_ _ | refine blk_drew ?_ | refine blk_alloc ?_ _)); exact BK120.out) hb); have n2_ := Aside0.mk (blk_below (g := gb121) (o := .cells #[.slice A2_0 l2_0.length c2_0] 59 (0, 0)) (by (with_reducible repeat (first | refine blk_drewN ?_ _ | refine blk_drew ?_ | refine blk_alloc ?_ _)); exact BK121.out) hb); have n3_ := Aside0.mk (below_step (by repeat (first | (with_reducible first | exact HB.out | apply below_alloc | apply pw_below_drewN | apply below_drew1 | refine below_set ?_ GE120.out | refine below_set ?_ GE121.out) | exact HB.out)) hb); clear BK120; clear BK121; clear HB; have HO124 := n0_; have BK120 := n1_; have BK121 := n2_; have HB := n3_; clear n0_ n1_ n2_ n3_; (try clear hb); (try clear hb2); (try clear hk); (try clear hi); (try clear ho0); obtain ⟨Ao13, co13, eo13⟩ := Kd.S_slice HO124.out; subst eo13))
      go_ret2
      exact ⟨_, by first | rfl | (simp [errW_none, errW_some] <;> rfl) | (simp [*, errW_none, errW_some] <;> rfl), by first | exact Kd.R_nil _ _ _ _ _ | exact Kd.N_nil _ _ _ _ _ | exact Kd.V_nil _ _ _ _ _ | exact Kd.Q_nil _ _ _ _ _ | exact Kd.S_nil _ _ _ _ _, by repeat (first | (with_reducible first | exact HB.out | apply below_alloc | apply pw_below_drewN | apply below_drew1 | refine below_set ?_ GE120.out | refine below_set ?_ GE121.out) | exact HB.out)⟩
    · rw [if_neg c6] at H
      have c6b0 : ((t122.length : Int) == 0) = false := beq_eq_false_iff_ne.mpr c6
      have c6b1 : ((t122.length : Int) != 0) = true := bne_iff_ne.mpr c6
      have c6b2 : ¬ (t122 = []) := fun h_ => c6 (by rw [h_]; rfl)
      by_cases c14 : 0 < (t122.length : Int)
      · rw [if_pos c14] at H
        have c14b0 : decide (0 < (t122.length : Int)) = true := decide_eq_true c14
        have c14b1 : decide (0 < t122.length) = true := decide_eq_true (by omega)
        clear c14
        simp only [Option.some.injEq, Prod.mk.injEq] at H
        obtain ⟨rfl, rfl⟩ := H
        go_enter Try.func70, Try.ntmps70
        go_wp2_with (first | ((with_reducible refine gate_dst (N := 3) rfl ?_); (try (refine gate_guard (by rfl) ?_; dsimp only)); refine box_event ?hg (N := 3) ?hd (cs := #[.slice A0_0 l0_0.length c0_0]) (t := 30) ?hr ?_; (case hd => rfl); (case hg => rfl); (case hr => first | (go_simp; done) | (go_simp; rfl)); intro gb120 hg w15 hbox hb; have n0_ := Aside0.mk (below_step (by repeat (first | (with_reducible first | exact HB.out | apply below_alloc | apply pw_below_drewN | apply below_drew1) | exact HB.out)) hb); have n1_ := Aside0.mk (hbox); have n2_ := Aside0.mk ((by rw [hg]; exact (below_size (by repeat (first | (with_reducible first | exact HB.out | apply below_alloc | apply pw_below_drewN | apply below_drew1) | exact HB.out))) : w.heap.size ≤ gb120)); have n3_ := Aside0.mk ((by rw [hg]; exact (below_size (by repeat (first | (with_reducible first | exact HB.out | apply below_alloc | apply pw_below_drewN | apply below_drew1) | exact HB.out))) : w.heap.size ≤ gb120)); clear HB; have HB := n0_; have BK120 := n1_; have GW120 := n2_; have GE120 := n3_; clear n0_ n1_ n2_ n3_; clear hb hbox hg) | ((with_reducible refine gate_dst (N := 5) rfl ?_); (try (refine gate_guard (by rfl) ?_; dsimp only)); refine box_event ?hg (N := 5) ?hd (cs := #[.slice A2_0 l2_0.length c2_0]) (t := 59) ?hr ?_; (case hd => rfl); (case hg => rfl); (case hr => first | (go_simp; done) | (go_simp; rfl)); intro gb121 hg w16 hbox hb; have n0_ := Aside0.mk (blk_below (g := gb120) (o := .cells #[.slice A0_0 l0_0.length c0_0] 30 (0, 0)) (by (with_reducible repeat (first | refine blk_drewN ?_ _ | refine blk_drew ?_ | refine blk_alloc ?_ _)); exact BK120.out) hb); have n1_ := Aside0.mk (below_step (by repeat (first | (with_reducible first | exact HB.out | apply below_alloc | apply pw_below_drewN | apply below_drew1 | refine below_set ?_ GE120.out) | exact HB.out)) hb); have n2_ := Aside0.mk (hbox); have n3_ := Aside0.mk ((by rw [hg]; exact (below_size (by repeat (first | (with_reducible first | exact HB.out | apply below_alloc | apply pw_below_drewN | apply below_drew1 | refine below_set ?_ GE120.out) | exact HB.out))) : w.heap.size ≤ gb121)); have n4_ := Aside0.mk ((by rw [hg]; exact (below_size (by repeat (first | (with_reducible first | exact HB.out | apply below_alloc | apply pw_below_drewN | apply below_drew1 | refine below_set ?_ GE120.out) | exact HB.out))) : w.heap.size ≤ gb121)); have n5_ := Aside0.mk ((by rw [hg]; exact Nat.ne_of_lt (blk_lt (g := gb120) (o := .cells #[.slice A0_0 l0_0.length c0_0] 30 (0, 0)) (by (with_reducible repeat (first | refine blk_drewN ?_ _ | refine blk_drew ?_ | refine blk_alloc ?_ _)); exact BK120.out)) : gb120 ≠ gb121)); have n6_ := Aside0.mk ((by rw [hg]; exact Nat.ne_of_gt (blk_lt (g := gb120) (o := .cells #[.slice A0_0 l0_0.length c0_0] 30 (0, 0)) (by (with_reducible repeat (first | refine blk_drewN ?_ _ | refine blk_drew ?_ | refine blk_alloc ?_ _)); exact BK120.out)) : gb121 ≠ gb120)); clear BK120; clear HB; have BK120 := n0_; have HB := n1_; have BK121 := n2_; have GW121 := n3_; have GE121 := n4_; have NB120_121 := n5_; have NB121_120 := n6_; clear n0_ n1_ n2_ n3_ n4_ n5_ n6_; clear hb hbox hg; have hnb17 := NB120_121.out; have hnc17 := NB121_120.out; have hcz18_0 : w16.cell? ⟨gb120, 0, none⟩ = some (.slice A0_0 l0_0.length c0_0) := (blk_cell BK120.out 0).trans rfl; have hfz18_0 := blk_frozen BK120.out 0; have hcz19_0 : w16.cell? ⟨gb121, 0, none⟩ = some (.slice A2_0 l2_0.length c2_0) := (blk_cell BK121.out 0).trans rfl; have hfz19_0 := blk_frozen BK121.out 0) | ((with_reducible refine gate_callee (f := 65) rfl ?_); refine goesL_ (some 14) rfl rfl Try.func65 (by kernel_rfl) rfl #[.agg #[.slice A0_0 l0_0.length c0_0], .int .i64 a1, .agg #[.slice A2_0 l2_0.length c2_0]] rfl (by (try simp only [List.map_toArray, List.map_cons, List.map_nil]); first | done | rfl | (simp only [List.length_drop, List.length_take]; rfl)) ?_; (with_reducible refine (impl_CyclesOf.calls k _ _ l0_0 a1 _ _ l2_0 t122 true _ ?side1 ?side2 ?side3 ?side4 A4.out).mono ?_); (case side1 => repeat (first | exact (Kd.C_below HR0_0.out HB.out) | (with_reducible refine Kd.C_alloc ?_ _) | (with_reducible refine Kd.C_drewN ?_ _) | (with_reducible refine Kd.C_drew ?_))); (case side2 => exact HC0_0.out); (case side3 => repeat (first | exact (Kd.C_below HR2_0.out HB.out) | (with_reducible refine Kd.C_alloc ?_ _) | (with_reducible refine Kd.C_drewN ?_ _) | (with_reducible refine Kd.C_drew ?_))); (case side4 => exact HC2_0.out); rintro e w20 ⟨v123, rfl, ho0, hb⟩; refine ⟨_, rfl, ?_⟩; have n0_ := Aside0.mk (Kd.S_lower ho0 (below_size (by repeat (first | (with_reducible first | exact HB.out | apply below_alloc | apply pw_below_drewN | apply below_drew1 | refine below_set ?_ GE120.out | refine below_set ?_ GE121.out) | exact HB.out)))); have n1_ := Aside0.mk (blk_below (g := gb120) (o := .cells #[.slice A0_0 l0_0.length c0_0] 30 (0, 0)) (by (with_reducible repeat (first | refine blk_drewN ?_ _ | refine blk_drew ?_ | refine blk_alloc ?_ _)); exact BK120.out) hb); have n2_ := Aside0.mk (blk_below (g := gb121) (o := .cells #[.slice A2_0 l2_0.length c2_0] 59 (0, 0)) (by (with_reducible repeat (first | refine blk_drewN ?_ _ | refine blk_drew ?_ | refine blk_alloc ?_ _)); exact BK121.out) hb); have n3_ := Aside0.mk (below_step (by repeat (first | (with_reducible first | exact HB.out | apply below_alloc | apply pw_below_drewN | apply below_drew1 | refine below_set ?_ GE120.out | refine below_set ?_ GE121.out) | exact HB.out)) hb); clear BK120; clear BK121; clear HB; have HO124 := n0_; have BK120 := n1_; have BK121 := n2_; have HB := n3_; clear n0_ n1_ n2_ n3_; (try clear hb); (try clear hb2); (try clear hk); (try clear hi); (try clear ho0); obtain ⟨Ao21, co21, eo21⟩ := Kd.S_slice HO124.out; subst eo21; have p126 : 0 ≤ (0 : Int) := (by omega); have q126 : 0 < (t122.length : Int) := of_decide_eq_true (by first | (with_reducible assumption) | assumption); obtain ⟨ad126, A126_0, c126_0, e126, hx126_0, hl126_0, hi126_0⟩ := at_L1 (Kd.S_reads' HO124.out).2.2 0 p126 q126; cases e126; obtain ⟨ce126, hce126, hMe126, hcc126⟩ := Kd.S_get HO124.out [] 0 p126 (by first | exact q126 | exact of_decide_eq_true (by first | (with_reducible assumption) | assumption) | (have e_ := (Kd.S_reads' HO124.out).1; omega)); obtain ⟨ve126_0, rfl, ge126_0⟩ := hMe126; have hv126_0 := hcc126 0 _ rfl; rw [Nat.add_zero, show ((Kd.slice 3 (Kd.int .i64))).sz = 1 from rfl, Nat.mul_one] at hv126_0; replace hv126_0 := Option.some.inj (hv126_0.symm.trans hx126_0); rw [hv126_0] at ge126_0; have HL126_0 := Aside0.mk (show Kd.R (Kd.int .i64) 3 _ _ _ _ (rd_L1 t122 0) from ge126_0); clear hv126_0 ge126_0; clear hcc126 hce126; have qi126 : (0 < t122.length) = True := eq_true (by omega); (try rw [show ((0 : Int)).toNat = 0 from rfl] at hx126_0); (try rw [Addr.add_zero'] at hx126_0); have HR126_0 := Aside0.mk hi126_0; have HC126_0 := Aside0.mk hl126_0; clear hi126_0 hl126_0; replace p126 := eq_true p126; replace q126 := eq_true q126))
        go_ret2
        exact ⟨_, by first | rfl | (simp [errW_none, errW_some] <;> rfl) | (simp [*, errW_none, errW_some] <;> rfl), by (with_reducible repeat (first | apply Kd.R_alloc | apply Kd.R_drewN | apply Kd.R_drew)); exact Kd.R_mono HL126_0.out (fun _ hk => trivial), by repeat (first | (with_reducible first | exact HB.out | apply below_alloc | apply pw_below_drewN | apply below_drew1 | refine below_set ?_ GE120.out | refine below_set ?_ GE121.out) | exact HB.out)⟩
      · rw [if_neg c14] at H
        exact absurd H (by simp)
  · replace c5 := Bool.eq_false_iff.mpr c5
    subst c5
    have H1 : (some (([] : List Int), false)) = some (r1, r2) := by rw [if_neg (show ¬ (false = true) by decide)] at H; exact H
    clear H
    have H := H1
    clear H1
    simp only [Option.some.injEq, Prod.mk.injEq] at H
    obtain ⟨rfl, rfl⟩ := H
    go_enter Try.func70, Try.ntmps70
    go_wp2_with (first | ((with_reducible refine gate_dst (N := 3) rfl ?_); (try (refine gate_guard (by rfl) ?_; dsimp only)); refine box_event ?hg (N := 3) ?hd (cs := #[.slice A0_0 l0_0.length c0_0]) (t := 30) ?hr ?_; (case hd => rfl); (case hg => rfl); (case hr => first | (go_simp; done) | (go_simp; rfl)); intro gb120 hg w22 hbox hb; have n0_ := Aside0.mk (below_step (by repeat (first | (with_reducible first | exact HB.out | apply below_alloc | apply pw_below_drewN | apply below_drew1) | exact HB.out)) hb); have n1_ := Aside0.mk (hbox); have n2_ := Aside0.mk ((by rw [hg]; exact (below_size (by repeat (first | (with_reducible first | exact HB.out | apply below_alloc | apply pw_below_drewN | apply below_drew1) | exact HB.out))) : w.heap.size ≤ gb120)); have n3_ := Aside0.mk ((by rw [hg]; exact (below_size (by repeat (first | (with_reducible first | exact HB.out | apply below_alloc | apply pw_below_drewN | apply below_drew1) | exact HB.out))) : w.heap.size ≤ gb120)); clear HB; have HB := n0_; have BK120 := n1_; have GW120 := n2_; have GE120 := n3_; clear n0_ n1_ n2_ n3_; clear hb hbox hg) | ((with_reducible refine gate_dst (N := 5) rfl ?_); (try (refine gate_guard (by rfl) ?_; dsimp only)); refine box_event ?hg (N := 5) ?hd (cs := #[.slice A2_0 l2_0.length c2_0]) (t := 59) ?hr ?_; (case hd => rfl); (case hg => rfl); (case hr => first | (go_simp; done) | (go_simp; rfl)); intro gb121 hg w23 hbox hb; have n0_ := Aside0.mk (blk_below (g := gb120) (o := .cells #[.slice A0_0 l0_0.length c0_0] 30 (0, 0)) (by (with_reducible repeat (first | refine blk_drewN ?_ _ | refine blk_drew ?_ | refine blk_alloc ?_ _)); exact BK120.out) hb); have n1_ := Aside0.mk (below_step (by repeat (first | (with_reducible first | exact HB.out | apply below_alloc | apply pw_below_drewN | apply below_drew1 | refine below_set ?_ GE120.out) | exact HB.out)) hb); have n2_ := Aside0.mk (hbox); have n3_ := Aside0.mk ((by rw [hg]; exact (below_size (by repeat (first | (with_reducible first | exact HB.out | apply below_alloc | apply pw_below_drewN | apply below_drew1 | refine below_set ?_ GE120.out) | exact HB.out))) : w.heap.size ≤ gb121)); have n4_ := Aside0.mk ((by rw [hg]; exact (below_size (by repeat (first | (with_reducible first | exact HB.out | apply below_alloc | apply pw_below_drewN | apply below_drew1 | refine below_set ?_ GE120.out) | exact HB.out))) : w.heap.size ≤ gb121)); have n5_ := Aside0.mk ((by rw [hg]; exact Nat.ne_of_lt (blk_lt (g := gb120) (o := .cells #[.slice A0_0 l0_0.length c0_0] 30 (0, 0)) (by (with_reducible repeat (first | refine blk_drewN ?_ _ | refine blk_drew ?_ | refine blk_alloc ?_ _)); exact BK120.out)) : gb120 ≠ gb121)); have n6_ := Aside0.mk ((by rw [hg]; exact Nat.ne_of_gt (blk_lt (g := gb120) (o := .cells #[.slice A0_0 l0_0.length c0_0] 30 (0, 0)) (by (with_reducible repeat (first | refine blk_drewN ?_ _ | refine blk_drew ?_ | refine blk_alloc ?_ _)); exact BK120.out)) : gb121 ≠ gb120)); clear BK120; clear HB; have BK120 := n0_; have HB := n1_; have BK121 := n2_; have GW121 := n3_; have GE121 := n4_; have NB120_121 := n5_; have NB121_120 := n6_; clear n0_ n1_ n2_ n3_ n4_ n5_ n6_; clear hb hbox hg; have hnb24 := NB120_121.out; have hnc24 := NB121_120.out; have hcz25_0 : w23.cell? ⟨gb120, 0, none⟩ = some (.slice A0_0 l0_0.length c0_0) := (blk_cell BK120.out 0).trans rfl; have hfz25_0 := blk_frozen BK120.out 0; have hcz26_0 : w23.cell? ⟨gb121, 0, none⟩ = some (.slice A2_0 l2_0.length c2_0) := (blk_cell BK121.out 0).trans rfl; have hfz26_0 := blk_frozen BK121.out 0) | ((with_reducible refine gate_callee (f := 65) rfl ?_); refine goesL_ (some 14) rfl rfl Try.func65 (by kernel_rfl) rfl #[.agg #[.slice A0_0 l0_0.length c0_0], .int .i64 a1, .agg #[.slice A2_0 l2_0.length c2_0]] rfl (by (try simp only [List.map_toArray, List.map_cons, List.map_nil]); first | done | rfl | (simp only [List.length_drop, List.length_take]; rfl)) ?_; (with_reducible refine (impl_CyclesOf.calls k _ _ l0_0 a1 _ _ l2_0 t122 false _ ?side1 ?side2 ?side3 ?side4 A4.out).mono ?_); (case side1 => repeat (first | exact (Kd.C_below HR0_0.out HB.out) | (with_reducible refine Kd.C_alloc ?_ _) | (with_reducible refine Kd.C_drewN ?_ _) | (with_reducible refine Kd.C_drew ?_))); (case side2 => exact HC0_0.out); (case side3 => repeat (first | exact (Kd.C_below HR2_0.out HB.out) | (with_reducible refine Kd.C_alloc ?_ _) | (with_reducible refine Kd.C_drewN ?_ _) | (with_reducible refine Kd.C_drew ?_))); (case side4 => exact HC2_0.out); rintro e w27 ⟨v123, rfl, ho0, hb⟩; refine ⟨_, rfl, ?_⟩; have n0_ := Aside0.mk (Kd.S_lower ho0 (below_size (by repeat (first | (with_reducible first | exact HB.out | apply below_alloc | apply pw_below_drewN | apply below_drew1 | refine below_set ?_ GE120.out | refine below_set ?_ GE121.out) | exact HB.out)))); have n1_ := Aside0.mk (blk_below (g := gb120) (o := .cells #[.slice A0_0 l0_0.length c0_0] 30 (0, 0)) (by (with_reducible repeat (first | refine blk_drewN ?_ _ | refine blk_drew ?_ | refine blk_alloc ?_ _)); exact BK120.out) hb); have n2_ := Aside0.mk (blk_below (g := gb121) (o := .cells #[.slice A2_0 l2_0.length c2_0] 59 (0, 0)) (by (with_reducible repeat (first | refine blk_drewN ?_ _ | refine blk_drew ?_ | refine blk_alloc ?_ _)); exact BK121.out) hb); have n3_ := Aside0.mk (below_step (by repeat (first | (with_reducible first | exact HB.out | apply below_alloc | apply pw_below_drewN | apply below_drew1 | refine below_set ?_ GE120.out | refine below_set ?_ GE121.out) | exact HB.out)) hb); clear BK120; clear BK121; clear HB; have HO124 := n0_; have BK120 := n1_; have BK121 := n2_; have HB := n3_; clear n0_ n1_ n2_ n3_; (try clear hb); (try clear hb2); (try clear hk); (try clear hi); (try clear ho0)))
    go_ret2
    exact ⟨_, by first | rfl | (simp [errW_none, errW_some] <;> rfl) | (simp [*, errW_none, errW_some] <;> rfl), by first | exact Kd.R_nil _ _ _ _ _ | exact Kd.N_nil _ _ _ _ _ | exact Kd.V_nil _ _ _ _ _ | exact Kd.Q_nil _ _ _ _ _ | exact Kd.S_nil _ _ _ _ _, by repeat (first | (with_reducible first | exact HB.out | apply below_alloc | apply pw_below_drewN | apply below_drew1 | refine below_set ?_ GE120.out | refine below_set ?_ GE121.out) | exact HB.out)⟩
end Go.Proofs.Ytnbnalbomflafaa.GY
/-! ## Rg -/
namespace Go.Proofs.Ytnbnalbomflafaa.RA
open Go.RowKit Go.Proofs.YtnbnalbomflafaaW.PrintWords Go.Proofs.YtnbnalbomflafaaW.PrintLast Go.Proofs.YtnbnalbomflafaaW.PrintMore
open Go.Proofs.Ytnbnalbomflafaa.GA
open Go.Proofs.Ytnbnalbomflafaa.GD hiding rd_L1 at_L1
open Go.Proofs.Ytnbnalbomflafaa.GR hiding rd_L1 at_L1
open Go.Proofs.Ytnbnalbomflafaa.GS hiding rd_L1 at_L1
open Go.Proofs.Ytnbnalbomflafaa.GX hiding rd_L1 at_L1
open Go.Proofs.Ytnbnalbomflafaa.GY hiding rd_L1 at_L1
open Go.Proofs.Ytnbnalbomflafaa.GZ hiding rd_L1 at_L1
open Go.Proofs.Ytnbnalbomflafaa.KA
set_option linter.unusedVariables false
set_option linter.unusedSimpArgs false
theorem rdX (l : List (List Int)) (i : Int) : GX.rd_L1 l i = GA.rd_L1 l i := rfl
theorem rdS (l : List (List Int)) (i : Int) : GS.rd_L1 l i = GA.rd_L1 l i := rfl
theorem rdY (l : List (List Int)) (i : Int) : GY.rd_L1 l i = GA.rd_L1 l i := rfl
def Stk (l s : List (List Int)) : Prop := s.length = l.length ∧ l.length ≤ 8 ∧ (∀ r ∈ l, ∀ q ∈ r, 0 ≤ q ∧ q < l.length) ∧ ∀ (i : Nat) (h1 : i < l.length) (h2 : i < s.length), ∀ k ∈ s[i], 0 ≤ k ∧ k < (l[i].length : Int)
theorem okStacks_at : ∀ (l s : List (List Int)), okStacks l s = true → ∀ (i : Nat) (h1 : i < l.length) (h2 : i < s.length), okStack l[i].length s[i] = true
  | [], _, _, i, h1, _ => by simp at h1
  | _ :: _, [], _, i, _, h2 => by simp at h2
  | e :: l, r :: s, h, i, h1, h2 => by
    unfold okStacks at h
    rw [Bool.and_eq_true] at h
    cases i with
    | zero => exact h.1
    | succ i => exact okStacks_at l s h.2 i (by simpa using h1) (by simpa using h2)
theorem stk_of {l : List (List Int)} {a : Int} {s : List (List Int)} (h : stacksB l a s = true) : Stk l s := by
  obtain ⟨h1, h2⟩ := stacks_len h
  unfold stacksB at h
  simp only [Bool.and_eq_true, decide_eq_true_eq] at h
  obtain ⟨⟨⟨hp, _⟩, _⟩, hk⟩ := h
  obtain ⟨hg, _⟩ := place_is hp
  refine ⟨h1, h2, fun r hr => (graph_row hg hr).2, fun i h3 h4 k hk2 => ?_⟩
  have h5 := okStacks_at l s hk i h3 h4
  rw [okStack_eq, Bool.and_eq_true, List.all_eq_true] at h5
  have h6 := h5.2 k hk2
  unfold inB at h6
  rw [decide_eq_true_eq] at h6
  omega
def nx (l s : List (List Int)) (p : Int) : Int := if (GA.rd_L1 s p).length = 0 then -1 else rd (GA.rd_L1 l p) (rd (GA.rd_L1 s p) 0)
theorem nx_is {l s : List (List Int)} (h : Stk l s) {p : Int} (h0 : 0 ≤ p) (h1 : p < l.length) :
    ((GA.rd_L1 s p).length = 0 ∧ nx l s p = -1) ∨ (0 < (GA.rd_L1 s p).length ∧ 0 ≤ rd (GA.rd_L1 s p) 0 ∧ rd (GA.rd_L1 s p) 0 < ((GA.rd_L1 l p).length : Int) ∧ nx l s p = rd (GA.rd_L1 l p) (rd (GA.rd_L1 s p) 0) ∧ 0 ≤ nx l s p ∧ nx l s p < l.length) := by
  obtain ⟨hs, h8, hl, hk⟩ := h
  obtain ⟨p, rfl⟩ := Int.eq_ofNat_of_zero_le h0
  have hpl : p < l.length := by omega
  have hps : p < s.length := by omega
  unfold nx
  rw [rdL_at s p hps, rdL_at l p hpl]
  rcases Nat.eq_zero_or_pos s[p].length with hz | hz
  · exact Or.inl ⟨hz, if_pos hz⟩
  · rw [if_neg (by omega)]
    have h2 : rd s[p] 0 = s[p][0] := rd_at s[p] 0 hz
    have h3 := hk p hpl hps s[p][0] (List.getElem_mem hz)
    rw [h2]
    obtain ⟨q, hq⟩ := Int.eq_ofNat_of_zero_le h3.1
    rw [hq] at h3 ⊢
    have hq2 : q < l[p].length := by omega
    have h4 := hl l[p] (List.getElem_mem hpl) l[p][q] (List.getElem_mem hq2)
    rw [rd_at l[p] q hq2]
    exact Or.inr ⟨hz, by omega, by omega, rfl, h4.1, h4.2⟩
theorem skNext_eq {l s : List (List Int)} (h : Stk l s) {p : Int} (h0 : 0 ≤ p) (h1 : p < l.length) : spec_skNext.f l s p = some (nx l s p) := by
  unfold spec_skNext.f
  have hs := h.1
  rw [if_pos h0, if_pos (by omega), rdR s, rdR l]
  rcases nx_is h h0 h1 with ⟨h2, h3⟩ | ⟨h2, h3, h4, h5, _⟩
  · rw [if_pos (by omega), h3]
  · rw [if_neg (by omega), if_pos h1, if_pos (by omega), if_pos h3, if_pos h4, h5]
def am (y : List Int) : Nat → Nat → Nat → Nat
  | 0, _, b => b
  | e + 1, i, b => am y e (i + 1) (if rd y i < rd y b then i else b)
def First (y : List Int) (b : Nat) : Prop := b < y.length ∧ (∀ j : Nat, j < y.length → rd y b ≤ rd y j) ∧ ∀ j : Nat, j < b → rd y b < rd y j
theorem am_first (y : List Int) : ∀ (e i b : Nat), i + e = y.length → b < y.length → b ≤ i → (∀ j : Nat, j < i → rd y b ≤ rd y j) → (∀ j : Nat, j < b → rd y b < rd y j) → First y (am y e i b)
  | 0, i, b, hi, hb, hbi, h1, h2 => ⟨hb, fun j hj => h1 j (by omega), h2⟩
  | e + 1, i, b, hi, hb, hbi, h1, h2 => by
    unfold am
    split
    · rename_i hlt
      refine am_first y e (i + 1) i (by omega) (by omega) (by omega) (fun j hj => ?_) (fun j hj => ?_)
      · by_cases hji : j = i
        · rw [hji]; exact Int.le_refl _
        · have := h1 j (by omega); omega
      · have := h1 j hj; omega
    · rename_i hge
      refine am_first y e (i + 1) b (by omega) hb (by omega) (fun j hj => ?_) h2
      by_cases hji : j = i
      · rw [hji]; omega
      · exact h1 j (by omega)
def amin (y : List Int) : Nat := am y y.length 0 0
theorem amin_first {y : List Int} (h : 0 < y.length) : First y (amin y) := am_first y y.length 0 0 (by omega) h (Nat.le_refl _) (fun j hj => by omega) (fun j hj => by omega)
def rotL (y : List Int) : List Int := y.drop (amin y) ++ y.take (amin y)
theorem rotL_len (y : List Int) (h : 0 < y.length) : (rotL y).length = y.length := by
  have := (amin_first h).1
  unfold rotL
  simp
  omega
theorem spec_l1 (y : List Int) (hy : y.length ≤ 1000) : ∀ (e i b k : Nat), i + e = y.length → b < y.length → e + 1 ≤ k → spec_skCycle.l1 k y (b : Int) y (y.length : Int) (i : Int) = some (y.drop (am y e i b) ++ y.take (am y e i b)) := by
  intro e
  induction e with
  | zero =>
    intro i b k hi hb hk
    obtain ⟨k, rfl⟩ := succ_of (show 0 < k by omega)
    unfold spec_skCycle.l1 am spec_l1Own.f
    rw [if_neg (by omega), if_pos (by omega), if_pos (by omega), Int.toNat_natCast]
    simp only [Option.bind_some, List.nil_append, List.length_nil, Nat.zero_add]
    rw [if_pos (by simp; omega), Option.bind_some, if_pos (by simp; omega)]
  | succ e ih =>
    intro i b k hi hb hk
    obtain ⟨k, rfl⟩ := succ_of (show 0 < k by omega)
    unfold spec_skCycle.l1
    conv => rhs; unfold am
    rw [if_pos (by omega), if_pos (by omega), if_pos (by omega), if_pos (by omega), if_pos (by omega), wrap_up (n := y.length) (by omega) (by omega)]
    by_cases hlt : rd y (i : Int) < rd y (b : Int)
    · rw [if_pos hlt, if_pos hlt]
      exact ih (i + 1) i k (by omega) (by omega) (by omega)
    · rw [if_neg hlt, if_neg hlt]
      exact ih (i + 1) b k (by omega) hb (by omega)
theorem spec_rot (y : List Int) (h0 : 0 < y.length) (hy : y.length ≤ 1000) (k : Nat) (hk : y.length < k) : spec_skCycle.l1 k y 0 y (y.length : Int) 0 = some (rotL y) := by
  have := spec_l1 y hy y.length 0 0 k (by omega) h0 (by omega)
  exact this
theorem index_loop (y : List Int) (v : Int) (hy : y.length ≤ 1000) (b : Nat) (hb : b < y.length) (hv : v = rd y b) : ∀ (e i k : Nat), i + e = b → (∀ j : Nat, i ≤ j → j < b → v ≠ rd y j) → e < k → GX.slices_Index_int_int.l0 k y v (y.length : Int) (i : Int) = some (b : Int) := by
  intro e
  induction e with
  | zero =>
    intro i k hi hj hk
    obtain ⟨k, rfl⟩ := succ_of (show 0 < k by omega)
    unfold GX.slices_Index_int_int.l0
    obtain rfl : i = b := by omega
    rw [if_pos (by omega), if_pos (by omega), if_pos (by omega), if_pos hv]
  | succ e ih =>
    intro i k hi hj hk
    obtain ⟨k, rfl⟩ := succ_of (show 0 < k by omega)
    unfold GX.slices_Index_int_int.l0
    rw [if_pos (by omega), if_pos (by omega), if_pos (by omega), if_neg (hj i (Nat.le_refl _) (by omega)), wrap_up (n := y.length) (by omega) (by omega)]
    exact ih (i + 1) k (by omega) (fun j h1 h2 => hj j (by omega) h2) (by omega)
theorem foldl_min : ∀ (zs : List Int) (a : Int), (zs.foldl min a ≤ a) ∧ (∀ x ∈ zs, zs.foldl min a ≤ x) ∧ (zs.foldl min a = a ∨ zs.foldl min a ∈ zs)
  | [], a => ⟨Int.le_refl _, fun _ h => (by cases h), Or.inl rfl⟩
  | z :: zs, a => by
    obtain ⟨h1, h2, h3⟩ := foldl_min zs (min a z)
    simp only [List.foldl_cons]
    refine ⟨by omega, fun x hx => ?_, ?_⟩
    · rcases List.mem_cons.1 hx with rfl | hx
      · omega
      · exact h2 x hx
    · rcases h3 with h3 | h3
      · by_cases haz : a ≤ z
        · left; omega
        · right; rw [h3, show min a z = z by omega]; exact List.mem_cons_self
      · right; exact List.mem_cons_of_mem _ h3
theorem rd_mem {y : List Int} {j : Nat} (h : j < y.length) : rd y j ∈ y := by
  rw [rd_at y j h]
  exact List.getElem_mem h
theorem min_first {y : List Int} (h : 0 < y.length) : Lib.minOf y = rd y (amin y) := by
  obtain ⟨hb, hle, _⟩ := amin_first h
  obtain ⟨h1, h2, h3⟩ := foldl_min y (y.headD 0)
  have h4 : y.headD 0 ∈ y := by
    cases y with
    | nil => simp at h
    | cons z zs => exact List.mem_cons_self
  have h5 : Lib.minOf y ∈ y := by
    rcases h3 with h3 | h3
    · unfold Lib.minOf; rw [h3]; exact h4
    · exact h3
  obtain ⟨j, hj, hjy⟩ := List.mem_iff_getElem.1 h5
  have h6 := hle j hj
  rw [rd_at y j hj, hjy] at h6
  have h7 : Lib.minOf y ≤ rd y (amin y) := h2 _ (rd_mem hb)
  omega
theorem impl_rot (y : List Int) (h0 : 0 < y.length) (hy : y.length ≤ 1000) (k : Nat) (hk : y.length + 6 < k) :
    ((slices_Min_int_int.f y).bind fun t115 => ((GX.slices_Index_int_int.f k y t115).bind fun t116 => (if 0 ≤ t116 then (if t116 ≤ (y.length : Int) then ((slices_Concat_int_int.f k (([(y.drop (t116 : Int).toNat), (y.take (t116 : Int).toNat)] : List (List Int)))).bind fun t130 => (some t130)) else (none)) else (none)))) = some (rotL y) := by
  have hF := amin_first h0
  unfold slices_Min_int_int.f
  rw [if_neg (by rintro rfl; simp at h0), Option.bind_some, min_first h0]
  have h1 : GX.slices_Index_int_int.f k y (rd y (amin y)) = some (amin y : Int) := by
    unfold GX.slices_Index_int_int.f
    exact index_loop y _ hy (amin y) hF.1 rfl (amin y) 0 k (by omega) (fun j _ hj => by have := hF.2.2 j hj; omega) (by have := hF.1; omega)
  have hlt := hF.1
  rw [h1, Option.bind_some, if_pos (by omega), if_pos (by omega), Int.toNat_natCast]
  obtain ⟨m, rfl⟩ : ∃ m, k = m + 6 := ⟨k - 6, by omega⟩
  rw [concat_two m _ _ (by simp; omega)]
  rfl
def cy (l s : List (List Int)) (p : Int) : Nat → List Int → Int → List Int
  | 0, _, _ => []
  | e + 1, acc, at_ => if nx l s at_ = -1 then [] else if nx l s at_ = p then rotL (acc ++ [at_]) else cy l s p e (acc ++ [at_]) (nx l s at_)
theorem cy_len (l s : List (List Int)) (p : Int) : ∀ (e : Nat) (acc : List Int) (a : Int), (cy l s p e acc a).length ≤ acc.length + e
  | 0, acc, a => by simp [cy]
  | e + 1, acc, a => by
    unfold cy
    split
    · simp
    · split
      · rw [rotL_len _ (by simp)]; simp
      · have := cy_len l s p e (acc ++ [a]) (nx l s a)
        simp at this
        omega
theorem spec_cy {l s : List (List Int)} (h : Stk l s) {p : Int} (hp : 0 ≤ p) : ∀ (e m k : Nat) (acc : List Int) (a : Int), m + e = l.length → acc.length = m → 0 ≤ a → a < l.length → e + 20 < k → spec_skCycle.l0 k p (acc ++ [a]) (nx l s a) (m : Int) l s = some (cy l s p (e + 1) acc a) := by
  have h8 := h.2.1
  have hj : ∀ (k : Nat) (acc : List Int) (a : Int), acc.length ≤ 8 → 15 < k → spec_skCycle.j1 k p (acc ++ [a]) (nx l s a) = some (if nx l s a = p then rotL (acc ++ [a]) else []) := by
    intro k acc a ha hk
    obtain ⟨k, rfl⟩ := succ_of (show 0 < k by omega)
    simp only [spec_skCycle.j1]
    by_cases hq : nx l s a = p
    · rw [if_pos hq, if_pos hq]
      exact spec_rot _ (by simp) (by simp; omega) k (by simp; omega)
    · rw [if_neg hq, if_neg hq]
  intro e
  induction e with
  | zero =>
    intro m k acc a hm hacc h0 h1 hk
    obtain ⟨k, rfl⟩ := succ_of (show 0 < k by omega)
    unfold spec_skCycle.l0 cy cy
    rw [if_neg (by omega), hj k acc a (by omega) (by omega)]
    by_cases hn : nx l s a = -1
    · rw [if_pos hn, if_neg (by omega)]
    · rw [if_neg hn]
  | succ e ih =>
    intro m k acc a hm hacc h0 h1 hk
    obtain ⟨k, rfl⟩ := succ_of (show 0 < k by omega)
    have hn := nx_is h h0 h1
    unfold spec_skCycle.l0 cy
    rw [if_pos (by omega)]
    by_cases hneg : nx l s a = -1
    · rw [if_neg (by omega), hj k acc a (by omega) (by omega), if_pos hneg, if_neg (by omega)]
    · have hr : 0 ≤ nx l s a ∧ nx l s a < l.length := by
        rcases hn with hn | hn
        · exact absurd hn.2 hneg
        · exact ⟨hn.2.2.2.2.1, hn.2.2.2.2.2⟩
      rw [if_pos (by omega), if_neg hneg]
      by_cases hq : nx l s a = p
      · rw [if_pos hq, if_pos hq, hj k acc a (by omega) (by omega), if_pos hq]
      · rw [if_neg hq, if_neg hq, if_pos (by simp; omega), skNext_eq h hr.1 hr.2, Option.bind_some, wrap_up (n := l.length) (by omega) (by omega)]
        exact ih (m + 1) k (acc ++ [a]) (nx l s a) (by omega) (by simp; omega) hr.1 hr.2 (by omega)
theorem spec_skCycle_eq {l s : List (List Int)} (h : Stk l s) {p : Int} (hp : 0 ≤ p) (h1 : p < l.length) (k : Nat) (hk : 100 ≤ k) : spec_skCycle.f k l s p = some (cy l s p (l.length + 1) [] p) := by
  unfold spec_skCycle.f
  rw [skNext_eq h hp h1, Option.bind_some]
  have h8 := h.2.1
  exact spec_cy h hp l.length 0 k [] p (by omega) rfl hp h1 (by omega)
theorem impl_cy {l s : List (List Int)} (h : Stk l s) {p : Int} (hp : 0 ≤ p) : ∀ (e m k : Nat) (acc : List Int) (a : Int), m + e = l.length + 1 → acc.length = m → 0 ≤ a → a < l.length → 2 * e + 30 < k → impl_Stacks_cycleOf.l0 k p acc a s l = some (cy l s p e acc a) := by
  have h8 := h.2.1
  have hsl := h.1
  intro e
  induction e with
  | zero =>
    intro m k acc a hm hacc h0 h1 hk
    obtain ⟨k, rfl⟩ := succ_of (show 1 < k by omega)
    obtain ⟨k, rfl⟩ := succ_of (show 0 < k by omega)
    unfold impl_Stacks_cycleOf.l0 cy
    rw [if_pos h0, if_pos (by omega)]
    have hd : decide ((acc.length : Int) > (l.length : Int)) = true := decide_eq_true (by omega)
    rw [hd]
    split <;> simp [impl_Stacks_cycleOf.j1]
  | succ e ih =>
    intro m k acc a hm hacc h0 h1 hk
    obtain ⟨k, rfl⟩ := succ_of (show 1 < k by omega)
    obtain ⟨k, rfl⟩ := succ_of (show 0 < k by omega)
    unfold impl_Stacks_cycleOf.l0 cy
    rw [if_pos h0, if_pos (by omega)]
    have hd : decide ((acc.length : Int) > (l.length : Int)) = false := decide_eq_false (by omega)
    rw [hd, rdX s]
    rcases nx_is h h0 h1 with ⟨h2, h3⟩ | ⟨h2, h3, h4, h5, h6, h7⟩
    · rw [if_pos (by omega), if_pos h3]
      simp [impl_Stacks_cycleOf.j1]
    · rw [if_neg (by omega), if_neg (by omega)]
      simp only [impl_Stacks_cycleOf.j1, Option.bind_some]
      try rw [if_neg Bool.false_ne_true]
      rw [rdX s, rdX l, if_pos (by omega), if_pos h0, if_pos h1, if_pos (by omega), if_pos (by omega), if_pos h3, if_pos h4, ← h5]
      by_cases hq : nx l s a = p
      · rw [if_pos hq, if_pos hq]
        exact impl_rot _ (by simp) (by simp; omega) k (by simp; omega)
      · rw [if_neg hq, if_neg hq]
        exact ih (m + 1) k (acc ++ [a]) (nx l s a) (by omega) (by simp; omega) h6 h7 (by omega)
theorem impl_cycleOf_eq {l s : List (List Int)} (h : Stk l s) {p : Int} (hp : 0 ≤ p) (h1 : p < l.length) (k : Nat) (hk : 100 ≤ k) : impl_Stacks_cycleOf.f k s l p = some (cy l s p (l.length + 1) [] p) := by
  have h8 := h.2.1
  exact impl_cy h hp (l.length + 1) 0 k [] p (by omega) rfl hp h1 (by omega)
def cys (l s : List (List Int)) : Nat → Nat → List (List Int) → List (List Int)
  | 0, _, acc => acc
  | e + 1, i, acc => cys l s e (i + 1) (if 0 < (cy l s i (l.length + 1) [] i).length ∧ rd (cy l s i (l.length + 1) [] i) 0 = (i : Int) then acc ++ [cy l s i (l.length + 1) [] i] else acc)
theorem spec_cys {l s : List (List Int)} (h : Stk l s) : ∀ (e i k : Nat) (acc : List (List Int)), i + e = l.length → acc.length ≤ i → e + 110 < k → spec_skCycles.l0 k acc (l.length : Int) (i : Int) l s = some (cys l s e i acc) := by
  have h8 := h.2.1
  intro e
  induction e with
  | zero =>
    intro i k acc hi ha hk
    obtain ⟨k, rfl⟩ := succ_of (show 0 < k by omega)
    unfold spec_skCycles.l0 cys
    rw [if_neg (by omega)]
  | succ e ih =>
    intro i k acc hi ha hk
    obtain ⟨k, rfl⟩ := succ_of (show 0 < k by omega)
    unfold spec_skCycles.l0 cys
    rw [if_pos (by omega), spec_skCycle_eq h (by omega) (by omega) k (by omega), Option.bind_some, wrap_up (n := l.length) (by omega) (by omega)]
    by_cases c1 : 0 < (cy l s i (l.length + 1) [] i).length
    · rw [if_pos (by omega), if_pos (by omega)]
      by_cases c2 : rd (cy l s i (l.length + 1) [] i) 0 = (i : Int)
      · rw [if_pos c2, if_pos (by omega), if_pos (And.intro c1 c2)]
        exact ih (i + 1) k _ (by omega) (by simp; omega) (by omega)
      · rw [if_neg c2, if_neg (fun hh => c2 hh.2)]
        exact ih (i + 1) k _ (by omega) (by omega) (by omega)
    · rw [if_neg (by omega), if_neg (fun hh => c1 hh.1)]
      exact ih (i + 1) k _ (by omega) (by omega) (by omega)
theorem impl_cys {l s : List (List Int)} (h : Stk l s) : ∀ (e i k : Nat) (acc : List (List Int)), i + e = l.length → acc.length ≤ i → e + 110 < k → impl_Stacks_cycles.l0 k acc (l.length : Int) (i : Int) s l = some (cys l s e i acc) := by
  have h8 := h.2.1
  intro e
  induction e with
  | zero =>
    intro i k acc hi ha hk
    obtain ⟨k, rfl⟩ := succ_of (show 0 < k by omega)
    unfold impl_Stacks_cycles.l0 cys
    rw [if_neg (by omega)]
  | succ e ih =>
    intro i k acc hi ha hk
    obtain ⟨k, rfl⟩ := succ_of (show 0 < k by omega)
    unfold impl_Stacks_cycles.l0 cys
    rw [if_pos (by omega), impl_cycleOf_eq h (by omega) (by omega) k (by omega), Option.bind_some, wrap_up (n := l.length) (by omega) (by omega)]
    by_cases c1 : 0 < (cy l s i (l.length + 1) [] i).length
    · rw [if_pos (by omega), if_pos (by omega)]
      by_cases c2 : rd (cy l s i (l.length + 1) [] i) 0 = (i : Int)
      · rw [if_pos c2, if_pos (by omega), if_pos (And.intro c1 c2)]
        exact ih (i + 1) k _ (by omega) (by simp; omega) (by omega)
      · rw [if_neg c2, if_neg (fun hh => c2 hh.2)]
        exact ih (i + 1) k _ (by omega) (by omega) (by omega)
    · rw [if_neg (by omega), if_neg (fun hh => c1 hh.1)]
      exact ih (i + 1) k _ (by omega) (by omega) (by omega)
theorem cys_12 (l s : List (List Int)) (h8 : l.length ≤ 8) : ∀ (e i : Nat) (acc : List (List Int)), Rows12 i acc → Rows12 (i + e) (cys l s e i acc)
  | 0, i, acc, h => h
  | e + 1, i, acc, h => by
    unfold cys
    rw [show i + (e + 1) = i + 1 + e by omega]
    refine cys_12 l s h8 e (i + 1) _ ?_
    split
    · refine rows12_snoc h _ ?_
      have := cy_len l s i (l.length + 1) [] i
      simp at this
      omega
    · exact ⟨by have := h.1; omega, h.2⟩
def cycA (l : List (List Int)) (a : Int) (s : List (List Int)) : List (List Int) × Bool := if stacksB l a s = true then (cys l s l.length 0 [], true) else ([], false)
theorem impl_CyclesOf_f (l : List (List Int)) (a : Int) (s : List (List Int)) : impl_CyclesOf.f 200 l a s = some (cycA l a s) := by
  unfold impl_CyclesOf.f cycA impl_areStacks.f
  simp only [Option.bind_some]
  cases h : stacksB l a s with
  | false => rfl
  | true =>
    have hS := stk_of h
    have h8 := hS.2.1
    rw [if_pos rfl, if_pos rfl]
    unfold impl_Stacks_cycles.f
    have := impl_cys hS l.length 0 200 [] (by omega) (by simp) (by omega)
    rw [show ((0 : Nat) : Int) = 0 from rfl] at this
    rw [this]
    rfl
theorem cycA_12 (l : List (List Int)) (a : Int) (s : List (List Int)) : Rows12 8 (cycA l a s).1 := by
  unfold cycA
  cases h : stacksB l a s with
  | false => exact ⟨by simp, fun _ h => by cases h⟩
  | true =>
    have h8 := (stk_of h).2.1
    rw [if_pos rfl]
    have := cys_12 l s h8 l.length 0 [] ⟨by simp, fun _ h => by cases h⟩
    exact ⟨by have := this.1; simp only; omega, this.2⟩
def firstOf (x : List (List Int) × Bool) : List Int × Bool := if x.2 = true then (if (x.1.length : Int) = 0 then ([], false) else (GA.rd_L1 x.1 0, true)) else ([], false)
def firstA (l : List (List Int)) (a : Int) (s : List (List Int)) : List Int × Bool := firstOf (cycA l a s)
theorem impl_FirstCycle_f (l : List (List Int)) (a : Int) (s : List (List Int)) : impl_FirstCycle.f 200 l a s = some (firstA l a s) := by
  unfold impl_FirstCycle.f firstA firstOf
  rw [impl_CyclesOf_f]
  simp only [Option.bind_some, rdY]
  split
  · split
    · rfl
    · rw [if_pos (by omega)]
  · rfl
theorem spec_FirstCycle_f (l : List (List Int)) (a : Int) (s : List (List Int)) : spec_FirstCycle.f 200 l a s = some (firstA l a s) := by
  unfold spec_FirstCycle.f firstA firstOf cycA
  rw [skGood_eq l a s 200 (by omega)]
  simp only [Option.bind_some, rdS]
  cases h : stacksB l a s with
  | false => rfl
  | true =>
    have hS := stk_of h
    have h8 := hS.2.1
    rw [if_pos rfl, if_pos rfl, if_pos rfl]
    unfold spec_skCycles.f
    have := spec_cys hS l.length 0 200 [] (by omega) (by simp) (by omega)
    rw [show ((0 : Nat) : Int) = 0 from rfl] at this
    rw [this, Option.bind_some]
    split
    · rfl
    · rw [if_pos (by omega)]
theorem firstA_fits (l : List (List Int)) (a : Int) (s : List (List Int)) : FitsL (firstA l a s).1 := by
  unfold FitsL firstA firstOf
  have h := cycA_12 l a s
  split
  · split
    · simp
    · rename_i hne
      have h0 : 0 < (cycA l a s).1.length := by omega
      have : GA.rd_L1 (cycA l a s).1 0 = (cycA l a s).1[0] := rdL_at _ 0 h0
      rw [this]
      have := h.2 _ (List.getElem_mem h0)
      show (cycA l a s).1[0].length ≤ 1000000
      omega
  · simp
theorem spec_FirstCycle_c (l : List (List Int)) (a : Int) (s : List (List Int)) (W : World) (v u : Value) (hv : RowsC W v l) (hu : RowsC W u s) : Calls Try.prog 69 #[.agg #[v], .int .i64 a, .agg #[u]] W (ResC W (firstA l a s).1 (firstA l a s).2) := by
  obtain ⟨A, c, rfl, hc, hC⟩ := hv
  obtain ⟨A2, c2, rfl, hc2, hC2⟩ := hu
  refine (spec_FirstCycle.calls 200 A c l a A2 c2 s _ _ W hC hc hC2 hc2 (spec_FirstCycle_f l a s)).mono ?_
  rintro e w' ⟨v0, rfl, hR, hB⟩
  exact ⟨v0, rfl, hB, ⟨rowI_reads (Kd.own_of_R hR)⟩⟩
theorem impl_FirstCycle_c (l : List (List Int)) (a : Int) (s : List (List Int)) (W : World) (v u : Value) (hv : RowsC W v l) (hu : RowsC W u s) : Calls Try.prog 70 #[.agg #[v], .int .i64 a, .agg #[u]] W (ResD W (firstA l a s).1 (firstA l a s).2) := by
  obtain ⟨A, c, rfl, hc, hC⟩ := hv
  obtain ⟨A2, c2, rfl, hc2, hC2⟩ := hu
  refine (impl_FirstCycle.calls 200 A c l a A2 c2 s _ _ W hC hc hC2 hc2 (impl_FirstCycle_f l a s)).mono ?_
  rintro e w' ⟨v0, rfl, hR, hB⟩
  exact ⟨v0, rfl, hB, ⟨Kd.own_of_R hR⟩⟩
end Go.Proofs.Ytnbnalbomflafaa.RA
/-! ## Ri -/
namespace Go.Proofs.Ytnbnalbomflafaa.RA
open Go.RowKit Go.Proofs.YtnbnalbomflafaaW.PrintWords Go.Proofs.YtnbnalbomflafaaW.PrintLast Go.Proofs.YtnbnalbomflafaaW.PrintMore
set_option linter.unusedVariables false
set_option linter.unusedSimpArgs false
def T18_8 : Bool × List (List Nat × List Nat) := (true, [([], []), ([0], [0]), ([], []), ([], []), ([3, 1], [3]), ([1, 2, 4, 4], [1, 2, 4]), ([5], [5]), ([6], [6]), ([6], [6]), ([7, 5, 0, 1, 2, 3, 4, 5, 6, 7], [7]), ([8, 9, 0, 1, 2, 3, 4, 5, 6, 7, 8, 9], [8])])
def B18_8 : List Nat := [0, 1, 0, 0, 11, 31, 63, 127, 127, 255, 1023]
theorem tabT18_8 : rtab .any (opsOf Try.f18 8) = T18_8 := by kernel_rfl
theorem bitsB18_8 : waitsOk T18_8.2 B18_8 = true := by kernel_rfl
def T18_14 : Bool × List (List Nat × List Nat) := (true, [([], []), ([], []), ([1], [1]), ([0, 2, 2], [0, 2]), ([3], [3])])
def B18_14 : List Nat := [0, 0, 2, 7, 15]
theorem tabT18_14 : rtab .any (opsOf Try.f18 14) = T18_14 := by kernel_rfl
theorem bitsB18_14 : waitsOk T18_14.2 B18_14 = true := by kernel_rfl
def T18_16 : Bool × List (List Nat × List Nat) := (true, [([], []), ([], []), ([1], [1]), ([0, 2, 2], [0, 2]), ([3], [3])])
def B18_16 : List Nat := [0, 0, 2, 7, 15]
theorem tabT18_16 : rtab .any (opsOf Try.f18 16) = T18_16 := by kernel_rfl
theorem bitsB18_16 : waitsOk T18_16.2 B18_16 = true := by kernel_rfl
def T18_31 : Bool × List (List Nat × List Nat) := (true, [([], []), ([0], [0]), ([], []), ([], []), ([3, 1], [3]), ([1, 2, 4, 4], [1, 2, 4]), ([5], [5]), ([6], [6]), ([6], [6]), ([7, 5, 0, 1, 2, 3, 4, 5, 6, 7], [7]), ([8, 9, 0, 1, 2, 3, 4, 5, 6, 7, 8, 9], [8])])
def B18_31 : List Nat := [0, 1, 0, 0, 11, 31, 63, 127, 127, 255, 1023]
theorem tabT18_31 : rtab .any (opsOf Try.f18 31) = T18_31 := by kernel_rfl
theorem bitsB18_31 : waitsOk T18_31.2 B18_31 = true := by kernel_rfl
set_option maxHeartbeats 4000000 in
set_option maxRecDepth 100000 in
theorem law_FirstCycle.walk (v0 : Value) (l0 : List (List Int)) (a1 : Int) (v2 : Value) (l2 : List (List Int)) (w : World) (hv0 : RowsC w v0 l0) (hv2 : RowsC w v2 l2)  : Calls Try.prog 18 #[.agg #[v0], .int .i64 a1, .agg #[v2]] w fun e w' => e = .returned (.bool true) ∧ Below w.heap.size w w' := by
  have HS0 := Aside0.mk hv0
  have HS1 := Aside0.mk hv2
  clear hv0 hv2
  obtain ⟨z0, hz0⟩ : ∃ z, z = szZ l0 1048576 := ⟨_, rfl⟩
  rcases szZ_is l0 1048576 (by omega) with hq0 | ⟨hp0, hr0, hs0⟩
  · rw [← hz0] at hq0
    have hn0 : z0 < 0 := by omega
    replace hz0 := Aside0.mk hz0
    go_enter Try.func18, Try.ntmps18
    have HZ0 := Aside0.mk hz0.out
    go_upto_region 1 with (fail)
    have HBw : Aside0 (Below w.heap.size w ((w.alloc (.cells #[v0] 24)).alloc (.cells #[v2] 56))) := ⟨((Below.refl w.heap.size w).alloc (by simp) _).alloc (by simp) _⟩
    have hzb : w.heap.size + 2 ≤ ((w.alloc (.cells #[v0] 24)).alloc (.cells #[v2] 56)).heap.size := by simp
    have cx_0 : ((w.alloc (.cells #[v0] 24)).alloc (.cells #[v2] 56)).cell? ⟨w.heap.size, 0, none⟩ = some v0 := box_20 w v0 24 v2 56
    have cx_1 : ((w.alloc (.cells #[v0] 24)).alloc (.cells #[v2] 56)).cell? ⟨w.heap.size + 1, 0, none⟩ = some v2 := box_21 w v0 24 v2 56
    generalize ((w.alloc (.cells #[v0] 24)).alloc (.cells #[v2] 56)) = Wb at *
    go_wp2_with (first | (go_at_call 19; refine (szG_c _ v0 l0 (HS0.out.below HBw.out) 1048576 (by omega)).mono ?_; rintro e W1 ⟨rfl, hB1⟩; rw [← HZ0.out]; have hz2 := hB1.size; have HB3 : Aside0 (Below w.heap.size w W1) := ⟨HBw.out.trans (hB1.mono (by omega))⟩; have HB4 : Aside0 (Below w.heap.size w W1) := ⟨HBw.out.trans (hB1.mono (by omega))⟩; have cx5 : W1.cell? ⟨w.heap.size, 0, none⟩ = some v0 := (hB1.cell (p := ⟨w.heap.size, 0, none⟩) (show w.heap.size < Wb.heap.size by omega)).trans cx_0; have cx6 : W1.cell? ⟨w.heap.size + 1, 0, none⟩ = some v2 := (hB1.cell (p := ⟨w.heap.size + 1, 0, none⟩) (show w.heap.size + 1 < Wb.heap.size by omega)).trans cx_1; clear cx_0 cx_1; clear HBw; clear hB1))
    go_ret
    exact ⟨by first | rfl | trivial, HB3.out⟩
  · rw [← hz0] at hp0 hr0
    obtain ⟨z1, hz1⟩ : ∃ z, z = szZ l2 z0 := ⟨_, rfl⟩
    rcases szZ_is l2 z0 (by omega) with hq1 | ⟨hp1, hr1, hs1⟩
    · rw [← hz1] at hq1
      have hn1 : z1 < 0 := by omega
      have hg0 : ¬ (z0 < 0) := by omega
      replace hz1 := Aside0.mk hz1
      go_enter Try.func18, Try.ntmps18
      have HZ0 := Aside0.mk hz0
      have HZ1 := Aside0.mk hz1.out
      clear hz0
      go_upto_region 1 with (fail)
      have HBw : Aside0 (Below w.heap.size w ((w.alloc (.cells #[v0] 24)).alloc (.cells #[v2] 56))) := ⟨((Below.refl w.heap.size w).alloc (by simp) _).alloc (by simp) _⟩
      have hzb : w.heap.size + 2 ≤ ((w.alloc (.cells #[v0] 24)).alloc (.cells #[v2] 56)).heap.size := by simp
      have cx_0 : ((w.alloc (.cells #[v0] 24)).alloc (.cells #[v2] 56)).cell? ⟨w.heap.size, 0, none⟩ = some v0 := box_20 w v0 24 v2 56
      have cx_1 : ((w.alloc (.cells #[v0] 24)).alloc (.cells #[v2] 56)).cell? ⟨w.heap.size + 1, 0, none⟩ = some v2 := box_21 w v0 24 v2 56
      generalize ((w.alloc (.cells #[v0] 24)).alloc (.cells #[v2] 56)) = Wb at *
      go_wp2_with (first | (go_at_call 19; refine (szG_c _ v0 l0 (HS0.out.below HBw.out) 1048576 (by omega)).mono ?_; rintro e W1 ⟨rfl, hB7⟩; rw [← HZ0.out]; have hz8 := hB7.size; have HB9 : Aside0 (Below w.heap.size w W1) := ⟨HBw.out.trans (hB7.mono (by omega))⟩; have HB10 : Aside0 (Below w.heap.size w W1) := ⟨HBw.out.trans (hB7.mono (by omega))⟩; have cx11 : W1.cell? ⟨w.heap.size, 0, none⟩ = some v0 := (hB7.cell (p := ⟨w.heap.size, 0, none⟩) (show w.heap.size < Wb.heap.size by omega)).trans cx_0; have cx12 : W1.cell? ⟨w.heap.size + 1, 0, none⟩ = some v2 := (hB7.cell (p := ⟨w.heap.size + 1, 0, none⟩) (show w.heap.size + 1 < Wb.heap.size by omega)).trans cx_1; clear cx_0 cx_1; clear HBw; clear hB7) | (go_at_call 53; refine (szS_c _ v2 l2 (HS1.out.below HB10.out) z0 (by omega)).mono ?_; rintro e W2 ⟨rfl, hB13⟩; rw [← HZ1.out]; have hz14 := hB13.size; have HB15 : Aside0 (Below w.heap.size w W2) := ⟨HB9.out.trans (hB13.mono (by omega))⟩; have HB16 : Aside0 (Below w.heap.size w W2) := ⟨HB10.out.trans (hB13.mono (by omega))⟩; have cx17 : W2.cell? ⟨w.heap.size, 0, none⟩ = some v0 := (hB13.cell (p := ⟨w.heap.size, 0, none⟩) (show w.heap.size < W1.heap.size by omega)).trans cx11; have cx18 : W2.cell? ⟨w.heap.size + 1, 0, none⟩ = some v2 := (hB13.cell (p := ⟨w.heap.size + 1, 0, none⟩) (show w.heap.size + 1 < W1.heap.size by omega)).trans cx12; clear cx11 cx12; clear HB9 HB10; clear hB13))
      go_ret
      exact ⟨by first | rfl | trivial, HB15.out⟩
    · rw [← hz1] at hp1 hr1
      have hg0 : ¬ (z0 < 0) := by omega
      have hg1 : ¬ (z1 < 0) := by omega
      have HM : Aside0 (Small l0 ∧ Small l2) := ⟨hs0, hs1⟩
      have ht0 : 0 ≤ tot l0 ∧ tot l0 ≤ 1048576 := ⟨tot_pos _, HM.out.1.2.1⟩
      have ht1 : 0 ≤ tot l2 ∧ tot l2 ≤ 1048576 := ⟨tot_pos _, HM.out.2.2.1⟩
      have hk : ¬ (1 + tot l0 + tot l2 < 0) := by omega
      have HK0 : Aside0 (0 ≤ 1 + tot l0 ∧ 1 + tot l0 ≤ 100000000) := ⟨by omega⟩
      have HK1 : Aside0 (0 ≤ 1 + tot l0 + tot l2 ∧ 1 + tot l0 + tot l2 ≤ 100000000) := ⟨by omega⟩
      clear ht0 ht1
      obtain ⟨R, hR⟩ : ∃ R, R = (firstA l0 a1 l2).1 := ⟨_, rfl⟩
      obtain ⟨ok, hok⟩ : ∃ ok, ok = (firstA l0 a1 l2).2 := ⟨_, rfl⟩
      have hfit : FitsL R := by rw [hR]; exact firstA_fits l0 a1 l2
      have spec0 := fun W v u hv hu => spec_FirstCycle_c l0 a1 l2 W v u hv hu
      have impl0 := fun W v u hv hu => impl_FirstCycle_c l0 a1 l2 W v u hv hu
      rw [← hR, ← hok] at spec0 impl0
      have hq : ¬ (1 + (R.length : Int) < 0) := by omega
      have HF := Aside0.mk hfit
      have SP := Aside0.mk spec0
      have IM := Aside0.mk impl0
      clear hR hok hfit spec0 impl0
      have HZ0 := Aside0.mk hz0
      have HZ1 := Aside0.mk hz1
      clear hz0 hz1
      clear hs0 hs1
      go_enter Try.func18, Try.ntmps18
      go_upto_region 1 with (fail)
      have HBw : Aside0 (Below w.heap.size w ((w.alloc (.cells #[v0] 24)).alloc (.cells #[v2] 56))) := ⟨((Below.refl w.heap.size w).alloc (by simp) _).alloc (by simp) _⟩
      have hzb : w.heap.size + 2 ≤ ((w.alloc (.cells #[v0] 24)).alloc (.cells #[v2] 56)).heap.size := by simp
      have cx_0 : ((w.alloc (.cells #[v0] 24)).alloc (.cells #[v2] 56)).cell? ⟨w.heap.size, 0, none⟩ = some v0 := box_20 w v0 24 v2 56
      have cx_1 : ((w.alloc (.cells #[v0] 24)).alloc (.cells #[v2] 56)).cell? ⟨w.heap.size + 1, 0, none⟩ = some v2 := box_21 w v0 24 v2 56
      generalize ((w.alloc (.cells #[v0] 24)).alloc (.cells #[v2] 56)) = Wb at *
      go_upto_region 8 with (first | (go_at_call 19; refine (szG_c _ v0 l0 (HS0.out.below HBw.out) 1048576 (by omega)).mono ?_; rintro e W1 ⟨rfl, hB19⟩; rw [← HZ0.out]; have hz20 := hB19.size; have HB21 : Aside0 (Below w.heap.size w W1) := ⟨HBw.out.trans (hB19.mono (by omega))⟩; have HB22 : Aside0 (Below w.heap.size w W1) := ⟨HBw.out.trans (hB19.mono (by omega))⟩; have cx23 : W1.cell? ⟨w.heap.size, 0, none⟩ = some v0 := (hB19.cell (p := ⟨w.heap.size, 0, none⟩) (show w.heap.size < Wb.heap.size by omega)).trans cx_0; have cx24 : W1.cell? ⟨w.heap.size + 1, 0, none⟩ = some v2 := (hB19.cell (p := ⟨w.heap.size + 1, 0, none⟩) (show w.heap.size + 1 < Wb.heap.size by omega)).trans cx_1; clear cx_0 cx_1; clear HBw; clear hB19) | (go_at_call 53; refine (szS_c _ v2 l2 (HS1.out.below HB22.out) z0 (by omega)).mono ?_; rintro e W2 ⟨rfl, hB25⟩; rw [← HZ1.out]; have hz26 := hB25.size; have HB27 : Aside0 (Below w.heap.size w W2) := ⟨HB21.out.trans (hB25.mono (by omega))⟩; have HB28 : Aside0 (Below w.heap.size w W2) := ⟨HB22.out.trans (hB25.mono (by omega))⟩; have cx29 : W2.cell? ⟨w.heap.size, 0, none⟩ = some v0 := (hB25.cell (p := ⟨w.heap.size, 0, none⟩) (show w.heap.size < W1.heap.size by omega)).trans cx23; have cx30 : W2.cell? ⟨w.heap.size + 1, 0, none⟩ = some v2 := (hB25.cell (p := ⟨w.heap.size + 1, 0, none⟩) (show w.heap.size + 1 < W1.heap.size by omega)).trans cx24; clear cx23 cx24; clear HB21 HB22; clear hB25))
      clear HZ0 HZ1
      go_upto_region 8 with (fail)
      have HB31 : Aside0 (Below w.heap.size w W2.drew) := ⟨pw_below_drewN HB27.out 1⟩
      have HB32 : Aside0 (Below w.heap.size w W2.drew) := ⟨pw_below_drewN HB28.out 1⟩
      have cx33 : W2.drew.cell? ⟨w.heap.size, 0, none⟩ = some v0 := cx29
      have cx34 : W2.drew.cell? ⟨w.heap.size + 1, 0, none⟩ = some v2 := cx30
      clear cx29 cx30
      have hz35 : W2.heap.size ≤ W2.drew.heap.size := by simp
      refine start_ (n := 11) (S := fun w' => w'.cell? ⟨w.heap.size, 0, none⟩ = some v0 ∧ w'.cell? ⟨w.heap.size + 1, 0, none⟩ = some v2) (ds := []) #[false, false, false, false, false, false, false, false, false, false, false] (by kernel_rfl) rfl rfl ⟨cx33, cx34⟩ (fun hHeld => ?_)
      refine with_tabW tabT18_8 bitsB18_8 (fun HT_ HW_ => ?_)
      generalize W2.drew = W3 at *
      refine take_ (i := 0) (N := some 30) (v := ?_) (a' := ?_) #[true, false, false, false, false, false, false, false, false, false, false] rfl rfl (take_ofW HT_.out HW_.out (by kernel_rfl)) (fun _ _ _ h => h) (Or.inl ⟨by rfl, ?_⟩) hHeld ?_ ?_
      rotate_left
      · rintro w' ⟨s0, s1⟩
        go_simp
        with_reducible rfl
      rotate_left
      · simp only [Act.put, List.setIfInBounds_toArray, List.set_cons_zero, List.set_cons_succ, i64_w, i32_w]
        rfl
      refine pure_ (i := 2) (N := some 32) (v := ?_) (a' := ?_) #[true, false, true, false, false, false, false, false, false, false, false] rfl rfl (any_of HT_.out (by kernel_rfl)) (fun _ _ _ h => h) (Or.inl ⟨by rfl, ?_⟩) ?_ ?_
      rotate_left
      · intro w'
        go_simp
        with_reducible rfl
      rotate_left
      · simp only [Act.put, List.setIfInBounds_toArray, List.set_cons_zero, List.set_cons_succ, i64_w, i32_w]
        rfl
      refine take_ (i := 3) (N := some 33) (v := ?_) (a' := ?_) #[true, false, true, true, false, false, false, false, false, false, false] rfl rfl (take_ofW HT_.out HW_.out (by kernel_rfl)) (fun _ _ _ h => h) (Or.inl ⟨by rfl, ?_⟩) hHeld ?_ ?_
      rotate_left
      · rintro w' ⟨s0, s1⟩
        go_simp
        with_reducible rfl
      rotate_left
      · simp only [Act.put, List.setIfInBounds_toArray, List.set_cons_zero, List.set_cons_succ, i64_w, i32_w]
        rfl
      refine one_ (i := 1) (N := some 31) #[true, true, true, true, false, false, false, false, false, false, false] rfl rfl (one_of HT_.out (by kernel_rfl)) (by decide) (fun K hK => ?_)
      refine goes_ Try.func21 (by kernel_rfl) rfl #[.agg #[v0]] (by rfl) rfl rfl (by (try simp only [List.map_toArray, List.map_cons, List.map_nil]); first | done | rfl) ?_
      (with_reducible refine (toG_c _ v0 l0 (HS0.out.below HB31.out) HM.out.1).mono ?_; rintro e W4 ⟨v36, rfl, hB37, hD38⟩; have hz39 := hB37.size; have HB40 : Aside0 (Below w.heap.size w W4) := ⟨HB31.out.trans (hB37.mono (by omega))⟩; have HB41 : Aside0 (Below w.heap.size w W4) := ⟨HB32.out.trans (hB37.mono (by omega))⟩; have cx42 : W4.cell? ⟨w.heap.size, 0, none⟩ = some v0 := (hB37.cell (p := ⟨w.heap.size, 0, none⟩) (show w.heap.size < W3.heap.size by omega)).trans cx33; have cx43 : W4.cell? ⟨w.heap.size + 1, 0, none⟩ = some v2 := (hB37.cell (p := ⟨w.heap.size + 1, 0, none⟩) (show w.heap.size + 1 < W3.heap.size by omega)).trans cx34; clear cx33 cx34; clear HB31 HB32; have HD44 := Aside0.mk hD38.out.toU; clear hD38)
      refine ⟨_, rfl, ?_⟩
      refine hK.out _ _ ⟨cx42, cx43⟩ (fun hHeld => ?_)
      clear hK K
      refine norm_ (a' := ?_) ?_ ?_
      rotate_left
      · show Act.put _ (some 31) _ = _
        simp only [Act.put, List.setIfInBounds_toArray, List.set_cons_zero, List.set_cons_succ, i64_w, i32_w]
        rfl
      refine one_ (i := 4) (N := some 34) #[true, true, true, true, true, false, false, false, false, false, false] rfl rfl (one_of HT_.out (by kernel_rfl)) (by decide) (fun K hK => ?_)
      refine goes_ Try.func55 (by kernel_rfl) rfl #[.agg #[v2]] (by rfl) rfl rfl (by (try simp only [List.map_toArray, List.map_cons, List.map_nil]); first | done | rfl) ?_
      (with_reducible refine (toS_c _ v2 l2 (HS1.out.below HB41.out) HM.out.2).mono ?_; rintro e W5 ⟨v45, rfl, hB46, hD47⟩; have hz48 := hB46.size; have HB49 : Aside0 (Below w.heap.size w W5) := ⟨HB40.out.trans (hB46.mono (by omega))⟩; have HB50 : Aside0 (Below w.heap.size w W5) := ⟨HB41.out.trans (hB46.mono (by omega))⟩; have HD51 := Aside0.mk (HD44.out.below (by omega) hB46); have cx52 : W5.cell? ⟨w.heap.size, 0, none⟩ = some v0 := (hB46.cell (p := ⟨w.heap.size, 0, none⟩) (show w.heap.size < W4.heap.size by omega)).trans cx42; have cx53 : W5.cell? ⟨w.heap.size + 1, 0, none⟩ = some v2 := (hB46.cell (p := ⟨w.heap.size + 1, 0, none⟩) (show w.heap.size + 1 < W4.heap.size by omega)).trans cx43; clear cx42 cx43; clear HB40 HB41 HD44; have HD54 := Aside0.mk hD47.out.toU; clear hD47)
      refine ⟨_, rfl, ?_⟩
      refine hK.out _ _ ⟨cx52, cx53⟩ (fun hHeld => ?_)
      clear hK K
      refine norm_ (a' := ?_) ?_ ?_
      rotate_left
      · show Act.put _ (some 34) _ = _
        simp only [Act.put, List.setIfInBounds_toArray, List.set_cons_zero, List.set_cons_succ, i64_w, i32_w]
        rfl
      refine one_ (i := 5) (N := some 35) #[true, true, true, true, true, true, false, false, false, false, false] rfl rfl (one_of HT_.out (by kernel_rfl)) (by decide) (fun K hK => ?_)
      refine goes_ Try.func69 (by kernel_rfl) rfl #[.agg #[v36], .int .i64 a1, .agg #[v45]] (by rfl) rfl rfl (by (try simp only [List.map_toArray, List.map_cons, List.map_nil]); first | done | rfl) ?_
      (refine (SP.out _ v36 v45 HD51.out.reads HD54.out.reads).mono ?_; rintro e W6 ⟨v55, rfl, hB56, hD57⟩; have hz58 := hB56.size; have HB59 : Aside0 (Below w.heap.size w W6) := ⟨HB49.out.trans (hB56.mono (by omega))⟩; have HB60 : Aside0 (Below w.heap.size w W6) := ⟨HB50.out.trans (hB56.mono (by omega))⟩; have HD61 := Aside0.mk (HD51.out.below (by omega) hB56); have HD62 := Aside0.mk (HD54.out.below (by omega) hB56); have cx63 : W6.cell? ⟨w.heap.size, 0, none⟩ = some v0 := (hB56.cell (p := ⟨w.heap.size, 0, none⟩) (show w.heap.size < W5.heap.size by omega)).trans cx52; have cx64 : W6.cell? ⟨w.heap.size + 1, 0, none⟩ = some v2 := (hB56.cell (p := ⟨w.heap.size + 1, 0, none⟩) (show w.heap.size + 1 < W5.heap.size by omega)).trans cx53; clear cx52 cx53; clear HB49 HB50 HD51 HD54)
      refine ⟨_, rfl, ?_⟩
      refine hK.out _ _ ⟨cx63, cx64⟩ (fun hHeld => ?_)
      clear hK K
      refine norm_ (a' := ?_) ?_ ?_
      rotate_left
      · show Act.put _ (some 35) _ = _
        simp only [Act.put, List.setIfInBounds_toArray, List.set_cons_zero, List.set_cons_succ, i64_w, i32_w]
        rfl
      refine pure_ (i := 6) (N := some 29) (v := ?_) (a' := ?_) #[true, true, true, true, true, true, true, false, false, false, false] rfl rfl (any_of HT_.out (by kernel_rfl)) (fun _ _ _ h => h) (Or.inl ⟨by rfl, ?_⟩) ?_ ?_
      rotate_left
      · intro w'
        go_simp
        with_reducible rfl
      rotate_left
      · simp only [Act.put, List.setIfInBounds_toArray, List.set_cons_zero, List.set_cons_succ, i64_w, i32_w]
        rfl
      refine pure_ (i := 7) (N := some 36) (v := ?_) (a' := ?_) #[true, true, true, true, true, true, true, true, false, false, false] rfl rfl (any_of HT_.out (by kernel_rfl)) (fun _ _ _ h => h) (Or.inl ⟨by rfl, ?_⟩) ?_ ?_
      rotate_left
      · intro w'
        go_simp
        with_reducible rfl
      rotate_left
      · simp only [Act.put, List.setIfInBounds_toArray, List.set_cons_zero, List.set_cons_succ, i64_w, i32_w]
        rfl
      refine pure_ (i := 8) (N := some 37) (v := ?_) (a' := ?_) #[true, true, true, true, true, true, true, true, true, false, false] rfl rfl (any_of HT_.out (by kernel_rfl)) (fun _ _ _ h => h) (Or.inl ⟨by rfl, ?_⟩) ?_ ?_
      rotate_left
      · intro w'
        go_simp
        with_reducible rfl
      rotate_left
      · simp only [Act.put, List.setIfInBounds_toArray, List.set_cons_zero, List.set_cons_succ, i64_w, i32_w]
        rfl
      refine pure_ (i := 9) (N := some 8) (v := ?_) (a' := ?_) #[true, true, true, true, true, true, true, true, true, true, false] rfl rfl (any_of HT_.out (by kernel_rfl)) (fun _ _ _ h => h) (Or.inl ⟨by rfl, ?_⟩) ?_ ?_
      rotate_left
      · intro w'
        go_simp
        with_reducible rfl
      rotate_left
      · simp only [Act.put, List.setIfInBounds_toArray, List.set_cons_zero, List.set_cons_succ, i64_w, i32_w]
        rfl
      refine pure_ (i := 10) (N := some 9) (v := ?_) (a' := ?_) #[true, true, true, true, true, true, true, true, true, true, true] rfl rfl (any_of HT_.out (by kernel_rfl)) (fun _ _ _ h => h) (Or.inl ⟨by rfl, ?_⟩) ?_ ?_
      rotate_left
      · intro w'
        go_simp
        with_reducible rfl
      rotate_left
      · simp only [Act.put, List.setIfInBounds_toArray, List.set_cons_zero, List.set_cons_succ, i64_w, i32_w]
        rfl
      refine done_ (done_of HT_.out (by kernel_rfl)) ?_
      clear HT_ HW_ hHeld
      clear HD61
      clear HD62
      go_upto_region 10 with (first | (go_at_call 21; refine (toG_c _ v0 l0 (HS0.out.below HB59.out) HM.out.1).mono ?_; rintro e W7 ⟨v65, rfl, hB66, hD67⟩; obtain ⟨A68, c69, hv_, _⟩ := hD67.out.slice; subst hv_; have hz70 := hB66.size; have HB71 : Aside0 (Below w.heap.size w W7) := ⟨HB59.out.trans (hB66.mono (by omega))⟩; have HB72 : Aside0 (Below w.heap.size w W7) := ⟨HB60.out.trans (hB66.mono (by omega))⟩; have HB73 : Aside0 (Below W6.heap.size W6 W7) := ⟨hB66⟩; have cx74 : W7.cell? ⟨w.heap.size, 0, none⟩ = some v0 := (hB66.cell (p := ⟨w.heap.size, 0, none⟩) (show w.heap.size < W6.heap.size by omega)).trans cx63; have cx75 : W7.cell? ⟨w.heap.size + 1, 0, none⟩ = some v2 := (hB66.cell (p := ⟨w.heap.size + 1, 0, none⟩) (show w.heap.size + 1 < W6.heap.size by omega)).trans cx64; clear cx63 cx64; clear HB59 HB60; have HD76 := Aside0.mk hD67.out.toU; clear hD67))
      have hB77 : Below W7.heap.size W7 (W7.alloc (.cells #[(.slice A68 l0.length c69)] 30)) := (Below.refl _ _).alloc (Nat.le_refl _) _
      have cx78 : (W7.alloc (.cells #[(.slice A68 l0.length c69)] 30)).cell? ⟨W7.heap.size, 0, none⟩ = some (.slice A68 l0.length c69) := (blk_cell (blk_new _ _) 0).trans rfl
      have hz79 : W7.heap.size < (W7.alloc (.cells #[(.slice A68 l0.length c69)] 30)).heap.size := by simp
      generalize (W7.alloc (.cells #[(.slice A68 l0.length c69)] 30)) = W8 at *
      have hz80 := hB77.size
      have HB81 : Aside0 (Below w.heap.size w W8) := ⟨HB71.out.trans (hB77.mono (by omega))⟩
      have HB82 : Aside0 (Below w.heap.size w W8) := ⟨HB72.out.trans (hB77.mono (by omega))⟩
      have HB83 : Aside0 (Below W6.heap.size W6 W8) := ⟨HB73.out.trans (hB77.mono (by omega))⟩
      have HD84 := Aside0.mk (HD76.out.below (by omega) hB77)
      have cx85 : W8.cell? ⟨w.heap.size, 0, none⟩ = some v0 := (hB77.cell (p := ⟨w.heap.size, 0, none⟩) (show w.heap.size < W7.heap.size by omega)).trans cx74
      have cx86 : W8.cell? ⟨w.heap.size + 1, 0, none⟩ = some v2 := (hB77.cell (p := ⟨w.heap.size + 1, 0, none⟩) (show w.heap.size + 1 < W7.heap.size by omega)).trans cx75
      clear cx74 cx75
      clear HB71 HB72 HB73 HD76
      go_upto_region 11 with (first | (go_at_call 55; refine (toS_c _ v2 l2 (HS1.out.below HB82.out) HM.out.2).mono ?_; rintro e W9 ⟨v87, rfl, hB88, hD89⟩; obtain ⟨A90, c91, hv_, _⟩ := hD89.out.slice; subst hv_; have hz92 := hB88.size; have HB93 : Aside0 (Below w.heap.size w W9) := ⟨HB81.out.trans (hB88.mono (by omega))⟩; have HB94 : Aside0 (Below w.heap.size w W9) := ⟨HB82.out.trans (hB88.mono (by omega))⟩; have HB95 : Aside0 (Below W6.heap.size W6 W9) := ⟨HB83.out.trans (hB88.mono (by omega))⟩; have HD96 := Aside0.mk (HD84.out.below (by omega) hB88); have cx97 : W9.cell? ⟨w.heap.size, 0, none⟩ = some v0 := (hB88.cell (p := ⟨w.heap.size, 0, none⟩) (show w.heap.size < W8.heap.size by omega)).trans cx85; have cx98 : W9.cell? ⟨w.heap.size + 1, 0, none⟩ = some v2 := (hB88.cell (p := ⟨w.heap.size + 1, 0, none⟩) (show w.heap.size + 1 < W8.heap.size by omega)).trans cx86; have cx99 : W9.cell? ⟨W7.heap.size, 0, none⟩ = some (.slice A68 l0.length c69) := (hB88.cell (p := ⟨W7.heap.size, 0, none⟩) (show W7.heap.size < W8.heap.size by omega)).trans cx78; clear cx85 cx86 cx78; clear HB81 HB82 HB83 HD84; have HD100 := Aside0.mk hD89.out.toU; clear hD89))
      have hB101 : Below W9.heap.size W9 (W9.alloc (.cells #[(.slice A90 l2.length c91)] 59)) := (Below.refl _ _).alloc (Nat.le_refl _) _
      have cx102 : (W9.alloc (.cells #[(.slice A90 l2.length c91)] 59)).cell? ⟨W9.heap.size, 0, none⟩ = some (.slice A90 l2.length c91) := (blk_cell (blk_new _ _) 0).trans rfl
      have hz103 : W9.heap.size < (W9.alloc (.cells #[(.slice A90 l2.length c91)] 59)).heap.size := by simp
      generalize (W9.alloc (.cells #[(.slice A90 l2.length c91)] 59)) = W10 at *
      have hz104 := hB101.size
      have HB105 : Aside0 (Below w.heap.size w W10) := ⟨HB93.out.trans (hB101.mono (by omega))⟩
      have HB106 : Aside0 (Below w.heap.size w W10) := ⟨HB94.out.trans (hB101.mono (by omega))⟩
      have HB107 : Aside0 (Below W6.heap.size W6 W10) := ⟨HB95.out.trans (hB101.mono (by omega))⟩
      have HD108 := Aside0.mk (HD96.out.below (by omega) hB101)
      have HD109 := Aside0.mk (HD100.out.below (by omega) hB101)
      have cx110 : W10.cell? ⟨w.heap.size, 0, none⟩ = some v0 := (hB101.cell (p := ⟨w.heap.size, 0, none⟩) (show w.heap.size < W9.heap.size by omega)).trans cx97
      have cx111 : W10.cell? ⟨w.heap.size + 1, 0, none⟩ = some v2 := (hB101.cell (p := ⟨w.heap.size + 1, 0, none⟩) (show w.heap.size + 1 < W9.heap.size by omega)).trans cx98
      have cx112 : W10.cell? ⟨W7.heap.size, 0, none⟩ = some (.slice A68 l0.length c69) := (hB101.cell (p := ⟨W7.heap.size, 0, none⟩) (show W7.heap.size < W9.heap.size by omega)).trans cx99
      clear cx97 cx98 cx99
      clear HB93 HB94 HB95 HD96 HD100
      go_upto_region 12 with (first | (go_at_call 70; refine (IM.out _ (.slice A68 l0.length c69) (.slice A90 l2.length c91) HD108.out.reads HD109.out.reads).mono ?_; rintro e W11 ⟨v113, rfl, hB114, hD115⟩; have hz116 := hB114.size; have HB117 : Aside0 (Below w.heap.size w W11) := ⟨HB105.out.trans (hB114.mono (by omega))⟩; have HB118 : Aside0 (Below w.heap.size w W11) := ⟨HB106.out.trans (hB114.mono (by omega))⟩; have HB119 : Aside0 (Below W6.heap.size W6 W11) := ⟨HB107.out.trans (hB114.mono (by omega))⟩; have HD120 := Aside0.mk (HD108.out.below (by omega) hB114); have HD121 := Aside0.mk (HD109.out.below (by omega) hB114); have cx122 : W11.cell? ⟨w.heap.size, 0, none⟩ = some v0 := (hB114.cell (p := ⟨w.heap.size, 0, none⟩) (show w.heap.size < W10.heap.size by omega)).trans cx110; have cx123 : W11.cell? ⟨w.heap.size + 1, 0, none⟩ = some v2 := (hB114.cell (p := ⟨w.heap.size + 1, 0, none⟩) (show w.heap.size + 1 < W10.heap.size by omega)).trans cx111; have cx124 : W11.cell? ⟨W7.heap.size, 0, none⟩ = some (.slice A68 l0.length c69) := (hB114.cell (p := ⟨W7.heap.size, 0, none⟩) (show W7.heap.size < W10.heap.size by omega)).trans cx112; have cx125 : W11.cell? ⟨W9.heap.size, 0, none⟩ = some (.slice A90 l2.length c91) := (hB114.cell (p := ⟨W9.heap.size, 0, none⟩) (show W9.heap.size < W10.heap.size by omega)).trans cx102; clear cx110 cx111 cx112 cx102; clear HB105 HB106 HB107 HD108 HD109; have HD126 := Aside0.mk hD115.out.toU; clear hD115))
      go_upto_region 14 with (first | (go_at_call 30; refine (eqRL_c _ v113 v55 R HD126.out.reads (hD57.out.below HB119.out) HF.out).mono ?_; rintro e w_ ⟨rfl, ⟨nd127, rfl⟩⟩; have HB128 : Aside0 (Below w.heap.size w (W11.drewN nd127)) := ⟨pw_below_drewN HB117.out nd127⟩; have HB129 : Aside0 (Below w.heap.size w (W11.drewN nd127)) := ⟨pw_below_drewN HB118.out nd127⟩; have HB130 : Aside0 (Below W6.heap.size W6 (W11.drewN nd127)) := ⟨pw_below_drewN HB119.out nd127⟩; have HD131 := Aside0.mk (HD120.out.drewN nd127); have HD132 := Aside0.mk (HD121.out.drewN nd127); have HD133 := Aside0.mk (HD126.out.drewN nd127); have cx134 : (W11.drewN nd127).cell? ⟨w.heap.size, 0, none⟩ = some v0 := cx122; have cx135 : (W11.drewN nd127).cell? ⟨w.heap.size + 1, 0, none⟩ = some v2 := cx123; have cx136 : (W11.drewN nd127).cell? ⟨W7.heap.size, 0, none⟩ = some (.slice A68 l0.length c69) := cx124; have cx137 : (W11.drewN nd127).cell? ⟨W9.heap.size, 0, none⟩ = some (.slice A90 l2.length c91) := cx125; clear cx122 cx123 cx124 cx125; have hz138 : W11.heap.size ≤ (W11.drewN nd127).heap.size := (by simp); clear HB117 HB118 HB119 HD120 HD121 HD126; generalize W11.drewN nd127 = W12 at *))
      go_upto_region 14 with (fail)
      have HB139 : Aside0 (Below w.heap.size w W12.drew) := ⟨pw_below_drewN HB128.out 1⟩
      have HB140 : Aside0 (Below w.heap.size w W12.drew) := ⟨pw_below_drewN HB129.out 1⟩
      have HB141 : Aside0 (Below W6.heap.size W6 W12.drew) := ⟨pw_below_drewN HB130.out 1⟩
      have HD142 : Aside0 (RowsU W12.drew W6.heap.size W7.heap.size (.slice A68 l0.length c69) l0) := ⟨HD131.out.drewN 1⟩
      clear HD131
      have HD143 : Aside0 (RowsU W12.drew W8.heap.size W9.heap.size (.slice A90 l2.length c91) l2) := ⟨HD132.out.drewN 1⟩
      clear HD132
      have HD144 : Aside0 (ListU W12.drew W10.heap.size W11.heap.size v113 R) := ⟨HD133.out.drewN 1⟩
      clear HD133
      have cx145 : W12.drew.cell? ⟨w.heap.size, 0, none⟩ = some v0 := cx134
      have cx146 : W12.drew.cell? ⟨w.heap.size + 1, 0, none⟩ = some v2 := cx135
      have cx147 : W12.drew.cell? ⟨W7.heap.size, 0, none⟩ = some (.slice A68 l0.length c69) := cx136
      have cx148 : W12.drew.cell? ⟨W9.heap.size, 0, none⟩ = some (.slice A90 l2.length c91) := cx137
      clear cx134 cx135 cx136 cx137
      have hz149 : W12.heap.size ≤ W12.drew.heap.size := by simp
      refine start_ (n := 5) (S := fun w' => w'.cell? ⟨w.heap.size, 0, none⟩ = some v0 ∧ w'.cell? ⟨w.heap.size + 1, 0, none⟩ = some v2 ∧ w'.cell? ⟨W7.heap.size, 0, none⟩ = some (.slice A68 l0.length c69) ∧ w'.cell? ⟨W9.heap.size, 0, none⟩ = some (.slice A90 l2.length c91)) (ds := []) #[false, false, false, false, false] (by kernel_rfl) rfl rfl ⟨cx145, cx146, cx147, cx148⟩ (fun hHeld => ?_)
      refine with_tabW tabT18_14 bitsB18_14 (fun HT_ HW_ => ?_)
      generalize W12.drew = W13 at *
      refine take_ (i := 0) (N := some 58) (v := ?_) (a' := ?_) #[true, false, false, false, false] rfl rfl (take_ofW HT_.out HW_.out (by kernel_rfl)) (fun _ _ _ h => h) (Or.inl ⟨by rfl, ?_⟩) hHeld ?_ ?_
      rotate_left
      · rintro w' ⟨s0, s1, s2, s3⟩
        go_simp
        with_reducible rfl
      rotate_left
      · simp only [Act.put, List.setIfInBounds_toArray, List.set_cons_zero, List.set_cons_succ, i64_w, i32_w]
        rfl
      refine take_ (i := 1) (N := some 59) (v := ?_) (a' := ?_) #[true, true, false, false, false] rfl rfl (take_ofW HT_.out HW_.out (by kernel_rfl)) (fun _ _ _ h => h) (Or.inl ⟨by rfl, ?_⟩) hHeld ?_ ?_
      rotate_left
      · rintro w' ⟨s0, s1, s2, s3⟩
        go_simp
        with_reducible rfl
      rotate_left
      · simp only [Act.put, List.setIfInBounds_toArray, List.set_cons_zero, List.set_cons_succ, i64_w, i32_w]
        rfl
      refine one_ (i := 2) (N := some 60) #[true, true, true, false, false] rfl rfl (one_of HT_.out (by kernel_rfl)) (by decide) (fun K hK => ?_)
      refine goes_ Try.func21 (by kernel_rfl) rfl #[.agg #[v0]] (by rfl) rfl rfl (by (try simp only [List.map_toArray, List.map_cons, List.map_nil]); first | done | rfl) ?_
      (with_reducible refine (toG_c _ v0 l0 (HS0.out.below HB139.out) HM.out.1).mono ?_; rintro e W14 ⟨v150, rfl, hB151, hD152⟩; have hz153 := hB151.size; have HB154 : Aside0 (Below w.heap.size w W14) := ⟨HB139.out.trans (hB151.mono (by omega))⟩; have HB155 : Aside0 (Below w.heap.size w W14) := ⟨HB140.out.trans (hB151.mono (by omega))⟩; have HB156 : Aside0 (Below W6.heap.size W6 W14) := ⟨HB141.out.trans (hB151.mono (by omega))⟩; have HD157 := Aside0.mk (HD142.out.below (by omega) hB151); have HD158 := Aside0.mk (HD143.out.below (by omega) hB151); have HD159 := Aside0.mk (HD144.out.below (by omega) hB151); have cx160 : W14.cell? ⟨w.heap.size, 0, none⟩ = some v0 := (hB151.cell (p := ⟨w.heap.size, 0, none⟩) (show w.heap.size < W13.heap.size by omega)).trans cx145; have cx161 : W14.cell? ⟨w.heap.size + 1, 0, none⟩ = some v2 := (hB151.cell (p := ⟨w.heap.size + 1, 0, none⟩) (show w.heap.size + 1 < W13.heap.size by omega)).trans cx146; have cx162 : W14.cell? ⟨W7.heap.size, 0, none⟩ = some (.slice A68 l0.length c69) := (hB151.cell (p := ⟨W7.heap.size, 0, none⟩) (show W7.heap.size < W13.heap.size by omega)).trans cx147; have cx163 : W14.cell? ⟨W9.heap.size, 0, none⟩ = some (.slice A90 l2.length c91) := (hB151.cell (p := ⟨W9.heap.size, 0, none⟩) (show W9.heap.size < W13.heap.size by omega)).trans cx148; clear cx145 cx146 cx147 cx148; clear HB139 HB140 HB141 HD142 HD143 HD144; have HD164 := Aside0.mk hD152.out.toU; clear hD152)
      refine ⟨_, rfl, ?_⟩
      refine hK.out _ _ ⟨cx160, cx161, cx162, cx163⟩ (fun hHeld => ?_)
      clear hK K
      refine norm_ (a' := ?_) ?_ ?_
      rotate_left
      · show Act.put _ (some 60) _ = _
        simp only [Act.put, List.setIfInBounds_toArray, List.set_cons_zero, List.set_cons_succ, i64_w, i32_w]
        rfl
      refine one_ (i := 3) (N := some 61) #[true, true, true, true, false] rfl rfl (one_of HT_.out (by kernel_rfl)) (by decide) (fun K hK => ?_)
      refine goes_ Try.func24 (by kernel_rfl) rfl #[.agg #[(.slice A68 l0.length c69)], .agg #[v150]] (by rfl) rfl rfl (by (try simp only [List.map_toArray, List.map_cons, List.map_nil]); first | done | rfl) ?_
      (with_reducible refine (eqG_c _ (.slice A68 l0.length c69) v150 l0 HD157.out.reads HD164.out.reads HM.out.1).mono ?_; rintro e W15 ⟨rfl, hB165⟩; have hz166 := hB165.size; have HB167 : Aside0 (Below w.heap.size w W15) := ⟨HB154.out.trans (hB165.mono (by omega))⟩; have HB168 : Aside0 (Below w.heap.size w W15) := ⟨HB155.out.trans (hB165.mono (by omega))⟩; have HB169 : Aside0 (Below W6.heap.size W6 W15) := ⟨HB156.out.trans (hB165.mono (by omega))⟩; have HD170 := Aside0.mk (HD157.out.below (by omega) hB165); have HD171 := Aside0.mk (HD158.out.below (by omega) hB165); have HD172 := Aside0.mk (HD159.out.below (by omega) hB165); have HD173 := Aside0.mk (HD164.out.below (by omega) hB165); have cx174 : W15.cell? ⟨w.heap.size, 0, none⟩ = some v0 := (hB165.cell (p := ⟨w.heap.size, 0, none⟩) (show w.heap.size < W14.heap.size by omega)).trans cx160; have cx175 : W15.cell? ⟨w.heap.size + 1, 0, none⟩ = some v2 := (hB165.cell (p := ⟨w.heap.size + 1, 0, none⟩) (show w.heap.size + 1 < W14.heap.size by omega)).trans cx161; have cx176 : W15.cell? ⟨W7.heap.size, 0, none⟩ = some (.slice A68 l0.length c69) := (hB165.cell (p := ⟨W7.heap.size, 0, none⟩) (show W7.heap.size < W14.heap.size by omega)).trans cx162; have cx177 : W15.cell? ⟨W9.heap.size, 0, none⟩ = some (.slice A90 l2.length c91) := (hB165.cell (p := ⟨W9.heap.size, 0, none⟩) (show W9.heap.size < W14.heap.size by omega)).trans cx163; clear cx160 cx161 cx162 cx163; clear HB154 HB155 HB156 HD157 HD158 HD159 HD164; clear hB165)
      refine ⟨_, rfl, ?_⟩
      refine hK.out _ _ ⟨cx174, cx175, cx176, cx177⟩ (fun hHeld => ?_)
      clear hK K
      refine norm_ (a' := ?_) ?_ ?_
      rotate_left
      · show Act.put _ (some 61) _ = _
        simp only [Act.put, List.setIfInBounds_toArray, List.set_cons_zero, List.set_cons_succ, i64_w, i32_w]
        rfl
      refine pure_ (i := 4) (N := some 62) (v := ?_) (a' := ?_) #[true, true, true, true, true] rfl rfl (any_of HT_.out (by kernel_rfl)) (fun _ _ _ h => h) (Or.inl ⟨by rfl, ?_⟩) ?_ ?_
      rotate_left
      · intro w'
        go_simp
        with_reducible rfl
      rotate_left
      · simp only [Act.put, List.setIfInBounds_toArray, List.set_cons_zero, List.set_cons_succ, i64_w, i32_w]
        rfl
      refine done_ (done_of HT_.out (by kernel_rfl)) ?_
      clear HT_ HW_ hHeld
      clear HD173
      go_upto_region 16 with (fail)
      have HB178 : Aside0 (Below w.heap.size w W15.drew) := ⟨pw_below_drewN HB167.out 1⟩
      have HB179 : Aside0 (Below w.heap.size w W15.drew) := ⟨pw_below_drewN HB168.out 1⟩
      have HB180 : Aside0 (Below W6.heap.size W6 W15.drew) := ⟨pw_below_drewN HB169.out 1⟩
      have HD181 : Aside0 (RowsU W15.drew W6.heap.size W7.heap.size (.slice A68 l0.length c69) l0) := ⟨HD170.out.drewN 1⟩
      clear HD170
      have HD182 : Aside0 (RowsU W15.drew W8.heap.size W9.heap.size (.slice A90 l2.length c91) l2) := ⟨HD171.out.drewN 1⟩
      clear HD171
      have HD183 : Aside0 (ListU W15.drew W10.heap.size W11.heap.size v113 R) := ⟨HD172.out.drewN 1⟩
      clear HD172
      have cx184 : W15.drew.cell? ⟨w.heap.size, 0, none⟩ = some v0 := cx174
      have cx185 : W15.drew.cell? ⟨w.heap.size + 1, 0, none⟩ = some v2 := cx175
      have cx186 : W15.drew.cell? ⟨W7.heap.size, 0, none⟩ = some (.slice A68 l0.length c69) := cx176
      have cx187 : W15.drew.cell? ⟨W9.heap.size, 0, none⟩ = some (.slice A90 l2.length c91) := cx177
      clear cx174 cx175 cx176 cx177
      have hz188 : W15.heap.size ≤ W15.drew.heap.size := by simp
      refine start_ (n := 5) (S := fun w' => w'.cell? ⟨w.heap.size, 0, none⟩ = some v0 ∧ w'.cell? ⟨w.heap.size + 1, 0, none⟩ = some v2 ∧ w'.cell? ⟨W7.heap.size, 0, none⟩ = some (.slice A68 l0.length c69) ∧ w'.cell? ⟨W9.heap.size, 0, none⟩ = some (.slice A90 l2.length c91)) (ds := []) #[false, false, false, false, false] (by kernel_rfl) rfl rfl ⟨cx184, cx185, cx186, cx187⟩ (fun hHeld => ?_)
      refine with_tabW tabT18_16 bitsB18_16 (fun HT_ HW_ => ?_)
      generalize W15.drew = W16 at *
      refine take_ (i := 0) (N := some 63) (v := ?_) (a' := ?_) #[true, false, false, false, false] rfl rfl (take_ofW HT_.out HW_.out (by kernel_rfl)) (fun _ _ _ h => h) (Or.inl ⟨by rfl, ?_⟩) hHeld ?_ ?_
      rotate_left
      · rintro w' ⟨s0, s1, s2, s3⟩
        go_simp
        with_reducible rfl
      rotate_left
      · simp only [Act.put, List.setIfInBounds_toArray, List.set_cons_zero, List.set_cons_succ, i64_w, i32_w]
        rfl
      refine take_ (i := 1) (N := some 64) (v := ?_) (a' := ?_) #[true, true, false, false, false] rfl rfl (take_ofW HT_.out HW_.out (by kernel_rfl)) (fun _ _ _ h => h) (Or.inl ⟨by rfl, ?_⟩) hHeld ?_ ?_
      rotate_left
      · rintro w' ⟨s0, s1, s2, s3⟩
        go_simp
        with_reducible rfl
      rotate_left
      · simp only [Act.put, List.setIfInBounds_toArray, List.set_cons_zero, List.set_cons_succ, i64_w, i32_w]
        rfl
      refine one_ (i := 2) (N := some 65) #[true, true, true, false, false] rfl rfl (one_of HT_.out (by kernel_rfl)) (by decide) (fun K hK => ?_)
      refine goes_ Try.func55 (by kernel_rfl) rfl #[.agg #[v2]] (by rfl) rfl rfl (by (try simp only [List.map_toArray, List.map_cons, List.map_nil]); first | done | rfl) ?_
      (with_reducible refine (toS_c _ v2 l2 (HS1.out.below HB179.out) HM.out.2).mono ?_; rintro e W17 ⟨v189, rfl, hB190, hD191⟩; have hz192 := hB190.size; have HB193 : Aside0 (Below w.heap.size w W17) := ⟨HB178.out.trans (hB190.mono (by omega))⟩; have HB194 : Aside0 (Below w.heap.size w W17) := ⟨HB179.out.trans (hB190.mono (by omega))⟩; have HB195 : Aside0 (Below W6.heap.size W6 W17) := ⟨HB180.out.trans (hB190.mono (by omega))⟩; have HD196 := Aside0.mk (HD181.out.below (by omega) hB190); have HD197 := Aside0.mk (HD182.out.below (by omega) hB190); have HD198 := Aside0.mk (HD183.out.below (by omega) hB190); have cx199 : W17.cell? ⟨w.heap.size, 0, none⟩ = some v0 := (hB190.cell (p := ⟨w.heap.size, 0, none⟩) (show w.heap.size < W16.heap.size by omega)).trans cx184; have cx200 : W17.cell? ⟨w.heap.size + 1, 0, none⟩ = some v2 := (hB190.cell (p := ⟨w.heap.size + 1, 0, none⟩) (show w.heap.size + 1 < W16.heap.size by omega)).trans cx185; have cx201 : W17.cell? ⟨W7.heap.size, 0, none⟩ = some (.slice A68 l0.length c69) := (hB190.cell (p := ⟨W7.heap.size, 0, none⟩) (show W7.heap.size < W16.heap.size by omega)).trans cx186; have cx202 : W17.cell? ⟨W9.heap.size, 0, none⟩ = some (.slice A90 l2.length c91) := (hB190.cell (p := ⟨W9.heap.size, 0, none⟩) (show W9.heap.size < W16.heap.size by omega)).trans cx187; clear cx184 cx185 cx186 cx187; clear HB178 HB179 HB180 HD181 HD182 HD183; have HD203 := Aside0.mk hD191.out.toU; clear hD191)
      refine ⟨_, rfl, ?_⟩
      refine hK.out _ _ ⟨cx199, cx200, cx201, cx202⟩ (fun hHeld => ?_)
      clear hK K
      refine norm_ (a' := ?_) ?_ ?_
      rotate_left
      · show Act.put _ (some 65) _ = _
        simp only [Act.put, List.setIfInBounds_toArray, List.set_cons_zero, List.set_cons_succ, i64_w, i32_w]
        rfl
      refine one_ (i := 3) (N := some 66) #[true, true, true, true, false] rfl rfl (one_of HT_.out (by kernel_rfl)) (by decide) (fun K hK => ?_)
      refine goes_ Try.func57 (by kernel_rfl) rfl #[.agg #[(.slice A90 l2.length c91)], .agg #[v189]] (by rfl) rfl rfl (by (try simp only [List.map_toArray, List.map_cons, List.map_nil]); first | done | rfl) ?_
      (with_reducible refine (eqS_c _ (.slice A90 l2.length c91) v189 l2 HD197.out.reads HD203.out.reads HM.out.2).mono ?_; rintro e W18 ⟨rfl, hB204⟩; have hz205 := hB204.size; have HB206 : Aside0 (Below w.heap.size w W18) := ⟨HB193.out.trans (hB204.mono (by omega))⟩; have HB207 : Aside0 (Below w.heap.size w W18) := ⟨HB194.out.trans (hB204.mono (by omega))⟩; have HB208 : Aside0 (Below W6.heap.size W6 W18) := ⟨HB195.out.trans (hB204.mono (by omega))⟩; have HD209 := Aside0.mk (HD196.out.below (by omega) hB204); have HD210 := Aside0.mk (HD197.out.below (by omega) hB204); have HD211 := Aside0.mk (HD198.out.below (by omega) hB204); have HD212 := Aside0.mk (HD203.out.below (by omega) hB204); have cx213 : W18.cell? ⟨w.heap.size, 0, none⟩ = some v0 := (hB204.cell (p := ⟨w.heap.size, 0, none⟩) (show w.heap.size < W17.heap.size by omega)).trans cx199; have cx214 : W18.cell? ⟨w.heap.size + 1, 0, none⟩ = some v2 := (hB204.cell (p := ⟨w.heap.size + 1, 0, none⟩) (show w.heap.size + 1 < W17.heap.size by omega)).trans cx200; have cx215 : W18.cell? ⟨W7.heap.size, 0, none⟩ = some (.slice A68 l0.length c69) := (hB204.cell (p := ⟨W7.heap.size, 0, none⟩) (show W7.heap.size < W17.heap.size by omega)).trans cx201; have cx216 : W18.cell? ⟨W9.heap.size, 0, none⟩ = some (.slice A90 l2.length c91) := (hB204.cell (p := ⟨W9.heap.size, 0, none⟩) (show W9.heap.size < W17.heap.size by omega)).trans cx202; clear cx199 cx200 cx201 cx202; clear HB193 HB194 HB195 HD196 HD197 HD198 HD203; clear hB204)
      refine ⟨_, rfl, ?_⟩
      refine hK.out _ _ ⟨cx213, cx214, cx215, cx216⟩ (fun hHeld => ?_)
      clear hK K
      refine norm_ (a' := ?_) ?_ ?_
      rotate_left
      · show Act.put _ (some 66) _ = _
        simp only [Act.put, List.setIfInBounds_toArray, List.set_cons_zero, List.set_cons_succ, i64_w, i32_w]
        rfl
      refine pure_ (i := 4) (N := some 67) (v := ?_) (a' := ?_) #[true, true, true, true, true] rfl rfl (any_of HT_.out (by kernel_rfl)) (fun _ _ _ h => h) (Or.inl ⟨by rfl, ?_⟩) ?_ ?_
      rotate_left
      · intro w'
        go_simp
        with_reducible rfl
      rotate_left
      · simp only [Act.put, List.setIfInBounds_toArray, List.set_cons_zero, List.set_cons_succ, i64_w, i32_w]
        rfl
      refine done_ (done_of HT_.out (by kernel_rfl)) ?_
      clear HT_ HW_ hHeld
      clear HD212
      go_upto_region 20 with (first | (go_at_call 35; refine (markG_U W6.heap.size W7.heap.size _ (by omega) (.slice A68 l0.length c69) l0 1 HD209.out HM.out.1 HK0.out (by omega)).mono ?_; rintro e W19 ⟨rfl, hB217, HD218, hK219⟩; have hz220 := hB217.size; have HB221 : Aside0 (Below w.heap.size w W19) := ⟨HB206.out.trans (hB217.mono (by omega))⟩; have HB222 : Aside0 (Below w.heap.size w W19) := ⟨HB207.out.trans (hB217.mono (by omega))⟩; have HB223 : Aside0 (Below W6.heap.size W6 W19) := ⟨HB208.out.trans (hB217.mono (by omega))⟩; have HD224 := Aside0.mk (HD210.out.moveIn fun b h1 h2 => hK219.out b (by omega) (by omega)); have HD225 := Aside0.mk (HD211.out.moveIn fun b h1 h2 => hK219.out b (by omega) (by omega)); have cx226 : W19.cell? ⟨w.heap.size, 0, none⟩ = some v0 := (hB217.cell (p := ⟨w.heap.size, 0, none⟩) (show w.heap.size < W6.heap.size by omega)).trans cx213; have cx227 : W19.cell? ⟨w.heap.size + 1, 0, none⟩ = some v2 := (hB217.cell (p := ⟨w.heap.size + 1, 0, none⟩) (show w.heap.size + 1 < W6.heap.size by omega)).trans cx214; have cx228 : W19.cell? ⟨W7.heap.size, 0, none⟩ = some (.slice A68 l0.length c69) := (cell_same (hK219.out (W7.heap.size) (by omega) (by omega)) 0).trans cx215; have cx229 : W19.cell? ⟨W9.heap.size, 0, none⟩ = some (.slice A90 l2.length c91) := (cell_same (hK219.out (W9.heap.size) (by omega) (by omega)) 0).trans cx216; clear cx213 cx214 cx215 cx216; clear HB206 HB207 HB208 HD210 HD211; clear HD209 hB217 hK219))
      clear HD218
      go_upto_region 21 with (first | (go_at_call 60; refine (markS_U W8.heap.size W9.heap.size _ (by omega) (.slice A90 l2.length c91) l2 (1 + tot l0) HD224.out HM.out.2 HK1.out HK0.out.1).mono ?_; rintro e W20 ⟨rfl, hB230, HD231, hK232⟩; have hz233 := hB230.size; have HB234 : Aside0 (Below w.heap.size w W20) := ⟨HB221.out.trans (hB230.mono (by omega))⟩; have HB235 : Aside0 (Below w.heap.size w W20) := ⟨HB222.out.trans (hB230.mono (by omega))⟩; have HB236 : Aside0 (Below W6.heap.size W6 W20) := ⟨HB223.out.trans (hB230.mono (by omega))⟩; have HD237 := Aside0.mk (HD225.out.moveIn fun b h1 h2 => hK232.out b (by omega) (by omega)); have cx238 : W20.cell? ⟨w.heap.size, 0, none⟩ = some v0 := (hB230.cell (p := ⟨w.heap.size, 0, none⟩) (show w.heap.size < W8.heap.size by omega)).trans cx226; have cx239 : W20.cell? ⟨w.heap.size + 1, 0, none⟩ = some v2 := (hB230.cell (p := ⟨w.heap.size + 1, 0, none⟩) (show w.heap.size + 1 < W8.heap.size by omega)).trans cx227; have cx240 : W20.cell? ⟨W7.heap.size, 0, none⟩ = some (.slice A68 l0.length c69) := (hB230.cell (p := ⟨W7.heap.size, 0, none⟩) (show W7.heap.size < W8.heap.size by omega)).trans cx228; have cx241 : W20.cell? ⟨W9.heap.size, 0, none⟩ = some (.slice A90 l2.length c91) := (cell_same (hK232.out (W9.heap.size) (by omega) (by omega)) 0).trans cx229; clear cx226 cx227 cx228 cx229; clear HB221 HB222 HB223 HD225; clear HD224 hB230 hK232))
      clear HD231
      go_upto_region 24 with (first | (go_at_call 30; refine (eqRL_c _ v113 v55 R HD237.out.reads (hD57.out.below HB236.out) HF.out).mono ?_; rintro e w_ ⟨rfl, ⟨nd242, rfl⟩⟩; have HB243 : Aside0 (Below w.heap.size w (W20.drewN nd242)) := ⟨pw_below_drewN HB234.out nd242⟩; have HB244 : Aside0 (Below w.heap.size w (W20.drewN nd242)) := ⟨pw_below_drewN HB235.out nd242⟩; have HB245 : Aside0 (Below W6.heap.size W6 (W20.drewN nd242)) := ⟨pw_below_drewN HB236.out nd242⟩; have HD246 := Aside0.mk (HD237.out.drewN nd242); have cx247 : (W20.drewN nd242).cell? ⟨w.heap.size, 0, none⟩ = some v0 := cx238; have cx248 : (W20.drewN nd242).cell? ⟨w.heap.size + 1, 0, none⟩ = some v2 := cx239; have cx249 : (W20.drewN nd242).cell? ⟨W7.heap.size, 0, none⟩ = some (.slice A68 l0.length c69) := cx240; have cx250 : (W20.drewN nd242).cell? ⟨W9.heap.size, 0, none⟩ = some (.slice A90 l2.length c91) := cx241; clear cx238 cx239 cx240 cx241; have hz251 : W20.heap.size ≤ (W20.drewN nd242).heap.size := (by simp); clear HB234 HB235 HB236 HD237; generalize W20.drewN nd242 = W21 at *))
      go_upto_region 26 with (first | (go_at_call 36; refine (markRL_U W10.heap.size W11.heap.size _ (by omega) v113 R 1 rfl HD246.out HF.out).mono ?_; rintro e W22 ⟨rfl, hB252, HD253, hK254⟩; have hz255 := hB252.size; have HB256 : Aside0 (Below w.heap.size w W22) := ⟨HB243.out.trans (hB252.mono (by omega))⟩; have HB257 : Aside0 (Below w.heap.size w W22) := ⟨HB244.out.trans (hB252.mono (by omega))⟩; have HB258 : Aside0 (Below W6.heap.size W6 W22) := ⟨HB245.out.trans (hB252.mono (by omega))⟩; have cx259 : W22.cell? ⟨w.heap.size, 0, none⟩ = some v0 := (hB252.cell (p := ⟨w.heap.size, 0, none⟩) (show w.heap.size < W10.heap.size by omega)).trans cx247; have cx260 : W22.cell? ⟨w.heap.size + 1, 0, none⟩ = some v2 := (hB252.cell (p := ⟨w.heap.size + 1, 0, none⟩) (show w.heap.size + 1 < W10.heap.size by omega)).trans cx248; have cx261 : W22.cell? ⟨W7.heap.size, 0, none⟩ = some (.slice A68 l0.length c69) := (hB252.cell (p := ⟨W7.heap.size, 0, none⟩) (show W7.heap.size < W10.heap.size by omega)).trans cx249; have cx262 : W22.cell? ⟨W9.heap.size, 0, none⟩ = some (.slice A90 l2.length c91) := (hB252.cell (p := ⟨W9.heap.size, 0, none⟩) (show W9.heap.size < W10.heap.size by omega)).trans cx250; clear cx247 cx248 cx249 cx250; clear HB243 HB244 HB245; clear HD246 hB252 hK254))
      go_upto_region 31 with (first | (go_at_call 37; refine (heldRL_c _ v113 R HD253.out.reads HF.out).mono ?_; rintro e w_ ⟨rfl, ⟨nd263, rfl⟩⟩; have HB264 : Aside0 (Below w.heap.size w (W22.drewN nd263)) := ⟨pw_below_drewN HB256.out nd263⟩; have HB265 : Aside0 (Below w.heap.size w (W22.drewN nd263)) := ⟨pw_below_drewN HB257.out nd263⟩; have HB266 : Aside0 (Below W6.heap.size W6 (W22.drewN nd263)) := ⟨pw_below_drewN HB258.out nd263⟩; have HD267 := Aside0.mk (HD253.out.drewN nd263); have cx268 : (W22.drewN nd263).cell? ⟨w.heap.size, 0, none⟩ = some v0 := cx259; have cx269 : (W22.drewN nd263).cell? ⟨w.heap.size + 1, 0, none⟩ = some v2 := cx260; have cx270 : (W22.drewN nd263).cell? ⟨W7.heap.size, 0, none⟩ = some (.slice A68 l0.length c69) := cx261; have cx271 : (W22.drewN nd263).cell? ⟨W9.heap.size, 0, none⟩ = some (.slice A90 l2.length c91) := cx262; clear cx259 cx260 cx261 cx262; have hz272 : W22.heap.size ≤ (W22.drewN nd263).heap.size := (by simp); clear HB256 HB257 HB258 HD253; generalize W22.drewN nd263 = W23 at *))
      go_upto_region 31 with (fail)
      have HB273 : Aside0 (Below w.heap.size w W23.drew) := ⟨pw_below_drewN HB264.out 1⟩
      have HB274 : Aside0 (Below w.heap.size w W23.drew) := ⟨pw_below_drewN HB265.out 1⟩
      have HB275 : Aside0 (Below W6.heap.size W6 W23.drew) := ⟨pw_below_drewN HB266.out 1⟩
      have HD276 : Aside0 (ListU W23.drew W10.heap.size W11.heap.size v113 (marks R.length 1)) := ⟨HD267.out.drewN 1⟩
      clear HD267
      have cx277 : W23.drew.cell? ⟨w.heap.size, 0, none⟩ = some v0 := cx268
      have cx278 : W23.drew.cell? ⟨w.heap.size + 1, 0, none⟩ = some v2 := cx269
      have cx279 : W23.drew.cell? ⟨W7.heap.size, 0, none⟩ = some (.slice A68 l0.length c69) := cx270
      have cx280 : W23.drew.cell? ⟨W9.heap.size, 0, none⟩ = some (.slice A90 l2.length c91) := cx271
      clear cx268 cx269 cx270 cx271
      have hz281 : W23.heap.size ≤ W23.drew.heap.size := by simp
      refine start_ (n := 11) (S := fun w' => w'.cell? ⟨w.heap.size, 0, none⟩ = some v0 ∧ w'.cell? ⟨w.heap.size + 1, 0, none⟩ = some v2 ∧ w'.cell? ⟨W7.heap.size, 0, none⟩ = some (.slice A68 l0.length c69) ∧ w'.cell? ⟨W9.heap.size, 0, none⟩ = some (.slice A90 l2.length c91)) (ds := []) #[false, false, false, false, false, false, false, false, false, false, false] (by kernel_rfl) rfl rfl ⟨cx277, cx278, cx279, cx280⟩ (fun hHeld => ?_)
      refine with_tabW tabT18_31 bitsB18_31 (fun HT_ HW_ => ?_)
      generalize W23.drew = W24 at *
      refine take_ (i := 0) (N := some 99) (v := ?_) (a' := ?_) #[true, false, false, false, false, false, false, false, false, false, false] rfl rfl (take_ofW HT_.out HW_.out (by kernel_rfl)) (fun _ _ _ h => h) (Or.inl ⟨by rfl, ?_⟩) hHeld ?_ ?_
      rotate_left
      · rintro w' ⟨s0, s1, s2, s3⟩
        go_simp
        with_reducible rfl
      rotate_left
      · simp only [Act.put, List.setIfInBounds_toArray, List.set_cons_zero, List.set_cons_succ, i64_w, i32_w]
        rfl
      refine pure_ (i := 2) (N := some 101) (v := ?_) (a' := ?_) #[true, false, true, false, false, false, false, false, false, false, false] rfl rfl (any_of HT_.out (by kernel_rfl)) (fun _ _ _ h => h) (Or.inl ⟨by rfl, ?_⟩) ?_ ?_
      rotate_left
      · intro w'
        go_simp
        with_reducible rfl
      rotate_left
      · simp only [Act.put, List.setIfInBounds_toArray, List.set_cons_zero, List.set_cons_succ, i64_w, i32_w]
        rfl
      refine take_ (i := 3) (N := some 102) (v := ?_) (a' := ?_) #[true, false, true, true, false, false, false, false, false, false, false] rfl rfl (take_ofW HT_.out HW_.out (by kernel_rfl)) (fun _ _ _ h => h) (Or.inl ⟨by rfl, ?_⟩) hHeld ?_ ?_
      rotate_left
      · rintro w' ⟨s0, s1, s2, s3⟩
        go_simp
        with_reducible rfl
      rotate_left
      · simp only [Act.put, List.setIfInBounds_toArray, List.set_cons_zero, List.set_cons_succ, i64_w, i32_w]
        rfl
      refine one_ (i := 1) (N := some 100) #[true, true, true, true, false, false, false, false, false, false, false] rfl rfl (one_of HT_.out (by kernel_rfl)) (by decide) (fun K hK => ?_)
      refine goes_ Try.func21 (by kernel_rfl) rfl #[.agg #[v0]] (by rfl) rfl rfl (by (try simp only [List.map_toArray, List.map_cons, List.map_nil]); first | done | rfl) ?_
      (with_reducible refine (toG_c _ v0 l0 (HS0.out.below HB273.out) HM.out.1).mono ?_; rintro e W25 ⟨v282, rfl, hB283, hD284⟩; have hz285 := hB283.size; have HB286 : Aside0 (Below w.heap.size w W25) := ⟨HB273.out.trans (hB283.mono (by omega))⟩; have HB287 : Aside0 (Below w.heap.size w W25) := ⟨HB274.out.trans (hB283.mono (by omega))⟩; have HB288 : Aside0 (Below W6.heap.size W6 W25) := ⟨HB275.out.trans (hB283.mono (by omega))⟩; have HD289 := Aside0.mk (HD276.out.below (by omega) hB283); have cx290 : W25.cell? ⟨w.heap.size, 0, none⟩ = some v0 := (hB283.cell (p := ⟨w.heap.size, 0, none⟩) (show w.heap.size < W24.heap.size by omega)).trans cx277; have cx291 : W25.cell? ⟨w.heap.size + 1, 0, none⟩ = some v2 := (hB283.cell (p := ⟨w.heap.size + 1, 0, none⟩) (show w.heap.size + 1 < W24.heap.size by omega)).trans cx278; have cx292 : W25.cell? ⟨W7.heap.size, 0, none⟩ = some (.slice A68 l0.length c69) := (hB283.cell (p := ⟨W7.heap.size, 0, none⟩) (show W7.heap.size < W24.heap.size by omega)).trans cx279; have cx293 : W25.cell? ⟨W9.heap.size, 0, none⟩ = some (.slice A90 l2.length c91) := (hB283.cell (p := ⟨W9.heap.size, 0, none⟩) (show W9.heap.size < W24.heap.size by omega)).trans cx280; clear cx277 cx278 cx279 cx280; clear HB273 HB274 HB275 HD276; have HD294 := Aside0.mk hD284.out.toU; clear hD284)
      refine ⟨_, rfl, ?_⟩
      refine hK.out _ _ ⟨cx290, cx291, cx292, cx293⟩ (fun hHeld => ?_)
      clear hK K
      refine norm_ (a' := ?_) ?_ ?_
      rotate_left
      · show Act.put _ (some 100) _ = _
        simp only [Act.put, List.setIfInBounds_toArray, List.set_cons_zero, List.set_cons_succ, i64_w, i32_w]
        rfl
      refine one_ (i := 4) (N := some 103) #[true, true, true, true, true, false, false, false, false, false, false] rfl rfl (one_of HT_.out (by kernel_rfl)) (by decide) (fun K hK => ?_)
      refine goes_ Try.func55 (by kernel_rfl) rfl #[.agg #[v2]] (by rfl) rfl rfl (by (try simp only [List.map_toArray, List.map_cons, List.map_nil]); first | done | rfl) ?_
      (with_reducible refine (toS_c _ v2 l2 (HS1.out.below HB287.out) HM.out.2).mono ?_; rintro e W26 ⟨v295, rfl, hB296, hD297⟩; have hz298 := hB296.size; have HB299 : Aside0 (Below w.heap.size w W26) := ⟨HB286.out.trans (hB296.mono (by omega))⟩; have HB300 : Aside0 (Below w.heap.size w W26) := ⟨HB287.out.trans (hB296.mono (by omega))⟩; have HB301 : Aside0 (Below W6.heap.size W6 W26) := ⟨HB288.out.trans (hB296.mono (by omega))⟩; have HD302 := Aside0.mk (HD289.out.below (by omega) hB296); have HD303 := Aside0.mk (HD294.out.below (by omega) hB296); have cx304 : W26.cell? ⟨w.heap.size, 0, none⟩ = some v0 := (hB296.cell (p := ⟨w.heap.size, 0, none⟩) (show w.heap.size < W25.heap.size by omega)).trans cx290; have cx305 : W26.cell? ⟨w.heap.size + 1, 0, none⟩ = some v2 := (hB296.cell (p := ⟨w.heap.size + 1, 0, none⟩) (show w.heap.size + 1 < W25.heap.size by omega)).trans cx291; have cx306 : W26.cell? ⟨W7.heap.size, 0, none⟩ = some (.slice A68 l0.length c69) := (hB296.cell (p := ⟨W7.heap.size, 0, none⟩) (show W7.heap.size < W25.heap.size by omega)).trans cx292; have cx307 : W26.cell? ⟨W9.heap.size, 0, none⟩ = some (.slice A90 l2.length c91) := (hB296.cell (p := ⟨W9.heap.size, 0, none⟩) (show W9.heap.size < W25.heap.size by omega)).trans cx293; clear cx290 cx291 cx292 cx293; clear HB286 HB287 HB288 HD289 HD294; have HD308 := Aside0.mk hD297.out.toU; clear hD297)
      refine ⟨_, rfl, ?_⟩
      refine hK.out _ _ ⟨cx304, cx305, cx306, cx307⟩ (fun hHeld => ?_)
      clear hK K
      refine norm_ (a' := ?_) ?_ ?_
      rotate_left
      · show Act.put _ (some 103) _ = _
        simp only [Act.put, List.setIfInBounds_toArray, List.set_cons_zero, List.set_cons_succ, i64_w, i32_w]
        rfl
      refine one_ (i := 5) (N := some 104) #[true, true, true, true, true, true, false, false, false, false, false] rfl rfl (one_of HT_.out (by kernel_rfl)) (by decide) (fun K hK => ?_)
      refine goes_ Try.func70 (by kernel_rfl) rfl #[.agg #[v282], .int .i64 a1, .agg #[v295]] (by rfl) rfl rfl (by (try simp only [List.map_toArray, List.map_cons, List.map_nil]); first | done | rfl) ?_
      (refine (IM.out _ v282 v295 HD303.out.reads HD308.out.reads).mono ?_; rintro e W27 ⟨v309, rfl, hB310, hD311⟩; have hz312 := hB310.size; have HB313 : Aside0 (Below w.heap.size w W27) := ⟨HB299.out.trans (hB310.mono (by omega))⟩; have HB314 : Aside0 (Below w.heap.size w W27) := ⟨HB300.out.trans (hB310.mono (by omega))⟩; have HB315 : Aside0 (Below W6.heap.size W6 W27) := ⟨HB301.out.trans (hB310.mono (by omega))⟩; have HD316 := Aside0.mk (HD302.out.below (by omega) hB310); have HD317 := Aside0.mk (HD303.out.below (by omega) hB310); have HD318 := Aside0.mk (HD308.out.below (by omega) hB310); have cx319 : W27.cell? ⟨w.heap.size, 0, none⟩ = some v0 := (hB310.cell (p := ⟨w.heap.size, 0, none⟩) (show w.heap.size < W26.heap.size by omega)).trans cx304; have cx320 : W27.cell? ⟨w.heap.size + 1, 0, none⟩ = some v2 := (hB310.cell (p := ⟨w.heap.size + 1, 0, none⟩) (show w.heap.size + 1 < W26.heap.size by omega)).trans cx305; have cx321 : W27.cell? ⟨W7.heap.size, 0, none⟩ = some (.slice A68 l0.length c69) := (hB310.cell (p := ⟨W7.heap.size, 0, none⟩) (show W7.heap.size < W26.heap.size by omega)).trans cx306; have cx322 : W27.cell? ⟨W9.heap.size, 0, none⟩ = some (.slice A90 l2.length c91) := (hB310.cell (p := ⟨W9.heap.size, 0, none⟩) (show W9.heap.size < W26.heap.size by omega)).trans cx307; clear cx304 cx305 cx306 cx307; clear HB299 HB300 HB301 HD302 HD303 HD308; have HD323 := Aside0.mk hD311.out.toU; clear hD311)
      refine ⟨_, rfl, ?_⟩
      refine hK.out _ _ ⟨cx319, cx320, cx321, cx322⟩ (fun hHeld => ?_)
      clear hK K
      refine norm_ (a' := ?_) ?_ ?_
      rotate_left
      · show Act.put _ (some 104) _ = _
        simp only [Act.put, List.setIfInBounds_toArray, List.set_cons_zero, List.set_cons_succ, i64_w, i32_w]
        rfl
      refine pure_ (i := 6) (N := some 98) (v := ?_) (a' := ?_) #[true, true, true, true, true, true, true, false, false, false, false] rfl rfl (any_of HT_.out (by kernel_rfl)) (fun _ _ _ h => h) (Or.inl ⟨by rfl, ?_⟩) ?_ ?_
      rotate_left
      · intro w'
        go_simp
        with_reducible rfl
      rotate_left
      · simp only [Act.put, List.setIfInBounds_toArray, List.set_cons_zero, List.set_cons_succ, i64_w, i32_w]
        rfl
      refine pure_ (i := 7) (N := some 105) (v := ?_) (a' := ?_) #[true, true, true, true, true, true, true, true, false, false, false] rfl rfl (any_of HT_.out (by kernel_rfl)) (fun _ _ _ h => h) (Or.inl ⟨by rfl, ?_⟩) ?_ ?_
      rotate_left
      · intro w'
        go_simp
        with_reducible rfl
      rotate_left
      · simp only [Act.put, List.setIfInBounds_toArray, List.set_cons_zero, List.set_cons_succ, i64_w, i32_w]
        rfl
      refine pure_ (i := 8) (N := some 106) (v := ?_) (a' := ?_) #[true, true, true, true, true, true, true, true, true, false, false] rfl rfl (any_of HT_.out (by kernel_rfl)) (fun _ _ _ h => h) (Or.inl ⟨by rfl, ?_⟩) ?_ ?_
      rotate_left
      · intro w'
        go_simp
        with_reducible rfl
      rotate_left
      · simp only [Act.put, List.setIfInBounds_toArray, List.set_cons_zero, List.set_cons_succ, i64_w, i32_w]
        rfl
      refine pure_ (i := 9) (N := some 17) (v := ?_) (a' := ?_) #[true, true, true, true, true, true, true, true, true, true, false] rfl rfl (any_of HT_.out (by kernel_rfl)) (fun _ _ _ h => h) (Or.inl ⟨by rfl, ?_⟩) ?_ ?_
      rotate_left
      · intro w'
        go_simp
        with_reducible rfl
      rotate_left
      · simp only [Act.put, List.setIfInBounds_toArray, List.set_cons_zero, List.set_cons_succ, i64_w, i32_w]
        rfl
      refine pure_ (i := 10) (N := some 18) (v := ?_) (a' := ?_) #[true, true, true, true, true, true, true, true, true, true, true] rfl rfl (any_of HT_.out (by kernel_rfl)) (fun _ _ _ h => h) (Or.inl ⟨by rfl, ?_⟩) ?_ ?_
      rotate_left
      · intro w'
        go_simp
        with_reducible rfl
      rotate_left
      · simp only [Act.put, List.setIfInBounds_toArray, List.set_cons_zero, List.set_cons_succ, i64_w, i32_w]
        rfl
      refine done_ (done_of HT_.out (by kernel_rfl)) ?_
      clear HT_ HW_ hHeld
      clear HD317
      clear HD318
      go_upto_region 35 with (first | (go_at_call 30; refine (eqRL_c _ v309 v55 R HD323.out.reads (hD57.out.below HB315.out) HF.out).mono ?_; rintro e w_ ⟨rfl, ⟨nd324, rfl⟩⟩; have HB325 : Aside0 (Below w.heap.size w (W27.drewN nd324)) := ⟨pw_below_drewN HB313.out nd324⟩; have HB326 : Aside0 (Below w.heap.size w (W27.drewN nd324)) := ⟨pw_below_drewN HB314.out nd324⟩; have HB327 : Aside0 (Below W6.heap.size W6 (W27.drewN nd324)) := ⟨pw_below_drewN HB315.out nd324⟩; have HD328 := Aside0.mk (HD316.out.drewN nd324); have HD329 := Aside0.mk (HD323.out.drewN nd324); have cx330 : (W27.drewN nd324).cell? ⟨w.heap.size, 0, none⟩ = some v0 := cx319; have cx331 : (W27.drewN nd324).cell? ⟨w.heap.size + 1, 0, none⟩ = some v2 := cx320; have cx332 : (W27.drewN nd324).cell? ⟨W7.heap.size, 0, none⟩ = some (.slice A68 l0.length c69) := cx321; have cx333 : (W27.drewN nd324).cell? ⟨W9.heap.size, 0, none⟩ = some (.slice A90 l2.length c91) := cx322; clear cx319 cx320 cx321 cx322; have hz334 : W27.heap.size ≤ (W27.drewN nd324).heap.size := (by simp); clear HB313 HB314 HB315 HD316 HD323; generalize W27.drewN nd324 = W28 at *))
      clear HD329
      go_wp2_with (first | (go_at_call 37; refine (heldRL_c _ v113 R HD328.out.reads HF.out).mono ?_; rintro e w_ ⟨rfl, ⟨nd335, rfl⟩⟩; have HB336 : Aside0 (Below w.heap.size w (W28.drewN nd335)) := ⟨pw_below_drewN HB325.out nd335⟩; have HB337 : Aside0 (Below w.heap.size w (W28.drewN nd335)) := ⟨pw_below_drewN HB326.out nd335⟩; have HB338 : Aside0 (Below W6.heap.size W6 (W28.drewN nd335)) := ⟨pw_below_drewN HB327.out nd335⟩; have HD339 := Aside0.mk (HD328.out.drewN nd335); have cx340 : (W28.drewN nd335).cell? ⟨w.heap.size, 0, none⟩ = some v0 := cx330; have cx341 : (W28.drewN nd335).cell? ⟨w.heap.size + 1, 0, none⟩ = some v2 := cx331; have cx342 : (W28.drewN nd335).cell? ⟨W7.heap.size, 0, none⟩ = some (.slice A68 l0.length c69) := cx332; have cx343 : (W28.drewN nd335).cell? ⟨W9.heap.size, 0, none⟩ = some (.slice A90 l2.length c91) := cx333; clear cx330 cx331 cx332 cx333; have hz344 : W28.heap.size ≤ (W28.drewN nd335).heap.size := (by simp); clear HB325 HB326 HB327 HD328; generalize W28.drewN nd335 = W29 at *))
      go_ret
      exact ⟨by first | rfl | trivial, HB336.out⟩
end Go.Proofs.Ytnbnalbomflafaa.RA
/-! ## Kr -/
namespace Go.Proofs.Ytnbnalbomflafaa.KR
open Go.RowKit Go.Proofs.YtnbnalbomflafaaW.PrintWords
open Go.ChangeShapes Go.WideShapes Go.Deep
set_option linter.unusedVariables false
structure RowsIn (W : World) (A : Option Addr) (n c : Nat) (l : List (List Int)) : Prop where
  len : n = l.length
  le : l.length ≤ c
  reads : Kd.C (Kd.slice 3 (Kd.int .i64)) W A l.length l
  wf : ∀ r ∈ l, ∀ x ∈ r, (Lit.int .i64 x).wf = true
  small : ∀ r ∈ l, r.length ≤ 9223372036854775807
theorem reads_of {W : World} {a' : Option Addr} {n c : Nat} {zs : List Int} (hl : n ≤ c) (hm : c ≤ maxLen) (hz : zs.length = c) (hn : a' = none → c = 0)
    (hc : ∀ ad, a' = some ad → ∀ j, j < c → W.cell? (ad.add j) = some (.int .i64 (zs.getD j 0))) : Kd.C (Kd.int .i64) W a' (zs.take n).length (zs.take n) := by
  have hln : (zs.take n).length = n := by rw [List.length_take]; omega
  rw [hln]
  refine Kd.C_of_reads (d := 0) ⟨hln, by unfold maxLen at hm; omega, fun h0 => ?_⟩
  cases a' with
  | none => have := hn rfl; omega
  | some ad =>
    refine ⟨ad, rfl, fun j hj => ?_⟩
    rw [hc ad rfl j (by omega)]
    simp [List.getD_eq_getElem?_getD, hj]
theorem array1 {α : Type} {cs : Array α} (h : cs.size = 1) : ∃ c0, cs = #[c0] := by
  obtain ⟨l⟩ := cs
  match l, h with
  | [c0], _ => exact ⟨c0, rfl⟩
section
variable {H : Type} {enc : TypeId × Value → H} {W : World} {base : Nat} {held : Bool}
theorem rows_of {fuel : Nat} {cs : List Value} {x : DataW H × List MemPlace} (h : DataW.trod enc Try.prog W base (fun _ => true) held fuel 22 cs = some x) : ∃ A n c l, cs = [.slice A n c] ∧ RowsIn W A n c l := by
  rcases open_int_rows Try.underlying22 Try.underlying37 Try.underlying3 (by kernel_rfl) (by kernel_rfl) h with ⟨rfl, _⟩ | ⟨a, len, cap, A, L, C, Z, rfl, hb, hl, hm, hx, hr⟩
  · exact ⟨none, 0, 0, [], rfl, rfl, Nat.le_refl _, Kd.C_nil _ _, by simp, by simp⟩
  · refine ⟨some a, len, cap, (List.range len).map fun r => (Z r).take (L r), rfl, by simp, by simpa using hl, ?_, ?_, ?_⟩
    · refine ⟨by simp, by simp; unfold maxLen at hm; omega, fun h0 => ⟨a, rfl, fun j p hj => ?_⟩⟩
      have hjl : j < len := by
        have := (List.getElem?_eq_some_iff.1 hj).1
        simpa using this
      obtain ⟨hc, h1, h2, h3, h4, h5, h6⟩ := hr j (by omega)
      have hp : p = (Z j).take (L j) := by
        rw [List.getElem?_map, List.getElem?_range hjl] at hj
        exact (Option.some.inj hj).symm
      have hpl : p.length = L j := by rw [hp, List.length_take]; omega
      refine ⟨[.slice (A j) p.length (C j)], rfl, ⟨A j, C j, rfl, by omega, ?_⟩, fun i u hu => ?_⟩
      · rw [hp]
        exact reads_of h1 h2 h3 h5 (fun ad e i hi => (h6 ad e).2 i hi)
      · have hi : i = 0 := by
          have := (List.getElem?_eq_some_iff.1 hu).1
          simp at this
          exact this
        subst hi
        simp at hu
        rw [← hu, hpl]
        have e : j * (Kd.slice 3 (Kd.int .i64)).sz + 0 = j := by show j * 1 + 0 = j; omega
        rw [e]
        exact hc
    · intro r hr' x hx'
      obtain ⟨j, hj, rfl⟩ := List.mem_map.1 hr'
      have := List.mem_range.1 hj
      exact (hr j (by omega)).2.2.2.2.1 x (List.mem_of_mem_take hx')
    · intro r hr'
      obtain ⟨j, hj, rfl⟩ := List.mem_map.1 hr'
      have hj := List.mem_range.1 hj
      have h1 := (hr j (by omega)).2.1
      have h2 := (hr j (by omega)).2.2.1
      unfold maxLen at h2
      rw [List.length_take]
      omega
set_option maxRecDepth 100000 in
theorem open_graph {r : Reach} {b0 t : Nat} {f0 : Field} {v : Value} {d : DataW H} {p : List MemPlace} (hs : Try.prog.underlying t = some (.struct #[f0])) (hC : Try.prog.cellsOf t = 1) (hf : f0.type = 22) (ho : f0.offset = 0)
    (hv : Value.okWide Try.prog W r b0 t v) (h : DataW.Trod enc Try.prog W base (fun _ => true) held t v d p) : ∃ A n c l, v = .agg #[.slice A n c] ∧ RowsIn W A n c l := by
  obtain ⟨cs, rfl, hsz⟩ := okWide_struct hs hv
  obtain ⟨c0, rfl⟩ := array1 (hsz.trans hC)
  obtain ⟨fuel, hfu⟩ := h
  obtain ⟨y0, n, hx, _, h0⟩ := trod_struct1 hs hfu
  have hc22 : Try.prog.cellsOf 22 = 1 := by kernel_rfl
  rw [hf, ho, hc22] at h0
  obtain ⟨A, m, c, l, hcs, hR⟩ := rows_of h0
  have e : c0 = .slice A m c := by simpa [Value.cells] using hcs
  subst e
  exact ⟨A, m, c, l, rfl, hR⟩
end
end Go.Proofs.Ytnbnalbomflafaa.KR
