/-
  Texts of the seat, merged (part 3).
-/
import Derived.Test.YtnbnalbomflafaaWMore
import Derived.Test.YtnbnalbomflafaaProg
import Derived.Below
import Derived.Deep.Draws
import Derived.Deep.AppendLies
import Derived.Maps.AppendAt
import Derived.OwnWalk
import Derived.Laws.BytesArg
import Derived.Laws.MakeOwn
import Derived.Laws.OwnMore
import Derived.Deep.OwnRows
import Derived.Tactics
import Derived.Lib.ConvBytes
import Derived.Laws.Slices
import Derived.WalkKit
import Derived.KernelRfl
import Derived.RowKit3
import Derived.Deep.LoopGhost
import Derived.Deep.QuietTactic
import Derived.BigQuiet
import Derived.WideLaws
import Derived.Deep.DeepCutAuto
import Derived.Deep.CutBlock
import Derived.Deep.RegionHeld3
import Derived.Laws.Rows
import Derived.Lib.AppendStr
import Derived.ArgAppend
import Derived.Laws.IdiomCopy
import Derived.OrdersHeld
import Derived.Laws.BitsLemmas
import Derived.RowKit
import Derived.Test.YtnbnalbomflafaaWWords
import Derived.Test.YtnbnalbomflafaaWLast
import Derived.Test.YtnbnalbomflafaaWTab
import Derived.Test.YtnbnalbomflafaaWFour
import Derived.Test.YtnbnalbomflafaaWQPut
import Derived.Test.YtnbnalbomflafaaWApart
import Derived.Test.YtnbnalbomflafaaWArr
import Derived.Test.YtnbnalbomflafaaWZeros
import Derived.Test.YtnbnalbomflafaaWFoot
import Derived.Test.YtnbnalbomflafaaWKept
import Derived.Test.YtnbnalbomflafaaWShare
import Derived.Test.YtnbnalbomflafaaWN
import Derived.Test.YtnbnalbomflafaaWFootNe
import Derived.Test.YtnbnalbomflafaaWAt
import Derived.Test.YtnbnalbomflafaaWEqStruct
import Derived.Test.YtnbnalbomflafaaWRepsOne
import Derived.Test.YtnbnalbomflafaaWInv
import Derived.Test.YtnbnalbomflafaaWInvWords
import Derived.Test.YtnbnalbomflafaaWGuard
import Derived.Test.YtnbnalbomflafaaWNEv
import Derived.Test.YtnbnalbomflafaaX82
/-! ## GD2 -/
namespace Go.Proofs.Ytnbnalbomflafaa.GD
open Go.RowKit Go.Proofs.YtnbnalbomflafaaW.PrintWords Go.Proofs.YtnbnalbomflafaaW.PrintLast Go.Proofs.YtnbnalbomflafaaW.PrintMore
open Go.Proofs.Ytnbnalbomflafaa.GA
attribute [local go_sem] max2_int min2_int max_two min_two max_three min_three max_four min_four   -- for this text's walks alone
set_option linter.unusedVariables false
set_option linter.unusedSimpArgs false
def spec_skTops.l0 : Nat → Int → List Int → List (List Int) → Int → Int → Option (List Int × Bool)
  | 0, _, _, _, _, _ => none
  | k + 1, x1, x8, x16, x17, x18 => if x18 < x17 then (if 0 ≤ x18 then (if x18 < (x16.length : Int) then (if x18 = x1 then (spec_skTops.l0 k x1 x8 x16 x17 (wrap64 (x18 + 1))) else (if ((rd_L1 x16 x18).length : Int) = 0 then (some (([] : List Int), false)) else (if 0 < ((rd_L1 x16 x18).length : Int) then (if x18 < (x8.length : Int) then (spec_skTops.l0 k x1 (x8.set (x18 : Int).toNat (rd (rd_L1 x16 x18) 0)) x16 x17 (wrap64 (x18 + 1))) else (none)) else (none)))) else (none)) else (none)) else (some (x8, true))
def spec_skTops.f (k : Nat) (l0_0 : List (List Int)) (a1 : Int) (l2_0 : List (List Int)) : Option (List Int × Bool) := if 0 ≤ (l0_0.length : Int) then (if ((l0_0.length : Int) : Int).toNat ≤ 35184372088832 then (spec_skTops.l0 k a1 (List.replicate ((l0_0.length : Int) : Int).toNat 0) l2_0 (l2_0.length : Int) 0) else (none)) else (none)
def spec_TopsOf.f (k : Nat) (l0_0 : List (List Int)) (a1 : Int) (l2_0 : List (List Int)) : Option (List Int × Bool) := (spec_skGood.f k l0_0 a1 l2_0).bind fun t209 => (if t209 = true then ((spec_skTops.f k l0_0 a1 l2_0).bind fun bt210 => (some (bt210.1, bt210.2))) else (some (([] : List Int), false)))
def impl_Stacks_tops.l0 : Nat → Int → List Int → List (List Int) → Int → Int → Option (List Int × Bool)
  | 0, _, _, _, _, _ => none
  | k + 1, x1, x6, x11, x12, x13 => if x13 < x12 then (if 0 ≤ x13 then (if x13 < (x11.length : Int) then (if x13 = x1 then (if x6.length < 17592186044416 then (impl_Stacks_tops.l0 k x1 (x6 ++ [0]) x11 x12 (wrap64 (x13 + 1))) else (none)) else (if ((rd_L1 x11 x13).length : Int) = 0 then (some (([] : List Int), false)) else (if 0 < ((rd_L1 x11 x13).length : Int) then (if x6.length < 17592186044416 then (impl_Stacks_tops.l0 k x1 (x6 ++ [rd (rd_L1 x11 x13) 0]) x11 x12 (wrap64 (x13 + 1))) else (none)) else (none)))) else (none)) else (none)) else (some (x6, true))
def impl_Stacks_tops.f (k : Nat) (l0_0 : List (List Int)) (a1 : Int) : Option (List Int × Bool) := impl_Stacks_tops.l0 k a1 (([] : List Int)) l0_0 (l0_0.length : Int) 0
mutual
def spec_waGood.j0 : Nat → Bool → List (List Int) → List Int → Int → Option (Bool)
  | 0, _, _, _, _ => none
  | k + 1, x20, x252000, x253000, x253001 => if x20 = true then (some false) else (spec_waGood.l0 k x252000 (x252000.length : Int) 0 x253000 x253001)
def spec_waGood.l0 : Nat → List (List Int) → Int → Int → List Int → Int → Option (Bool)
  | 0, _, _, _, _, _ => none
  | k + 1, x22, x23, x24, x253000, x253001 => if x24 < x23 then (if 0 ≤ x24 then (if x24 < (x22.length : Int) then (if x24 < (x253000.length : Int) then ((spec_l1Most.f 0 (wrap64 (((rd_L1 x22 x24).length : Int) - 1))).bind fun t256 => ((spec_l1In.f (rd x253000 x24) 0 t256).bind fun t257 => (if t257 = true then (spec_waGood.l0 k x22 x23 (wrap64 (x24 + 1)) x253000 x253001) else (some false)))) else (none)) else (none)) else (none)) else (some true)
end
def spec_waGood.f (k : Nat) (l0_0 : List (List Int)) (l1_0 : List Int) (a1_1 : Int) : Option (Bool) := (spec_grPlace.f k l0_0 a1_1).bind fun t253 => (if t253 = true then (spec_waGood.j0 k ((l1_0.length : Int) != (l0_0.length : Int)) l0_0 l1_0 a1_1) else (spec_waGood.j0 k true l0_0 l1_0 a1_1))
set_option maxHeartbeats 8000000 in
set_option maxRecDepth 100000 in
theorem spec_waGood.calls (k : Nat) (A0_0 : Option Addr) (c0_0 : Nat) (l0_0 : List (List Int)) (A1_0 : Option Addr) (c1_0 : Nat) (l1_0 : List Int) (a1_1 : Int) (r : Bool) (w : World) (hr0_0 : Kd.C (Kd.slice 3 (Kd.int .i64)) w A0_0 l0_0.length l0_0) (hc0_0 : l0_0.length ≤ c0_0) (hr1_0 : Kd.C (Kd.int .i64) w A1_0 l1_0.length l1_0) (hc1_0 : l1_0.length ≤ c1_0) (h : spec_waGood.f k l0_0 l1_0 a1_1 = some r) :
    Calls Try.prog 101 #[.agg #[.slice A0_0 l0_0.length c0_0], .agg #[.slice A1_0 l1_0.length c1_0, .int .i64 a1_1]] w fun e w' => e = .returned (.bool r) ∧ Below w.heap.size w w' := by
  have hu30 := Try.underlying30
  have hu98 := Try.underlying98
  have HR0_0 := Aside0.mk hr0_0
  have HC0_0 := Aside0.mk hc0_0
  clear hr0_0 hc0_0
  have HR1_0 := Aside0.mk hr1_0
  have HC1_0 := Aside0.mk hc1_0
  clear hr1_0 hc1_0
  have HB := Aside0.mk (Below.refl w.heap.size w)
  have H : ((spec_grPlace.f k l0_0 a1_1).bind fun t253 => (if t253 = true then (spec_waGood.j0 k ((l1_0.length : Int) != (l0_0.length : Int)) l0_0 l1_0 a1_1) else (spec_waGood.j0 k true l0_0 l1_0 a1_1))) = some r := h
  clear h
  have HC3 := Aside0.mk H
  clear H
  go_enter Try.func101, Try.ntmps101
  go_upto_region 1 with (first | ((with_reducible refine gate_dst (N := 2) rfl ?_); (try (refine gate_guard (by rfl) ?_; dsimp only)); refine box_event ?hg (N := 2) ?hd (cs := #[.slice A0_0 l0_0.length c0_0]) (t := 30) ?hr ?_; (case hd => rfl); (case hg => rfl); (case hr => first | (go_simp; done) | (go_simp; rfl)); intro gb251 hg w4 hbox hb; have n0_ := Aside0.mk (below_step (by repeat (first | (with_reducible first | exact HB.out | apply below_alloc | apply pw_below_drewN | apply below_drew1) | exact HB.out)) hb); have n1_ := Aside0.mk (hbox); have n2_ := Aside0.mk ((by rw [hg]; exact (below_size (by repeat (first | (with_reducible first | exact HB.out | apply below_alloc | apply pw_below_drewN | apply below_drew1) | exact HB.out))) : w.heap.size ≤ gb251)); have n3_ := Aside0.mk ((by rw [hg]; exact (below_size (by repeat (first | (with_reducible first | exact HB.out | apply below_alloc | apply pw_below_drewN | apply below_drew1) | exact HB.out))) : w.heap.size ≤ gb251)); clear HB; have HB := n0_; have BK251 := n1_; have GW251 := n2_; have GE251 := n3_; clear n0_ n1_ n2_ n3_; clear hb hbox hg) | ((with_reducible refine gate_dst (N := 3) rfl ?_); (try (refine gate_guard (by rfl) ?_; dsimp only)); refine box_event ?hg (N := 3) ?hd (cs := #[.slice A1_0 l1_0.length c1_0, .int .i64 a1_1]) (t := 98) ?hr ?_; (case hd => rfl); (case hg => rfl); (case hr => first | (go_simp; done) | (go_simp; rfl)); intro gb252 hg w5 hbox hb; have n0_ := Aside0.mk (blk_below (g := gb251) (o := .cells #[.slice A0_0 l0_0.length c0_0] 30 (0, 0)) (by (with_reducible repeat (first | refine blk_drewN ?_ _ | refine blk_drew ?_ | refine blk_alloc ?_ _)); exact BK251.out) hb); have n1_ := Aside0.mk (below_step (by repeat (first | (with_reducible first | exact HB.out | apply below_alloc | apply pw_below_drewN | apply below_drew1 | refine below_set ?_ GE251.out) | exact HB.out)) hb); have n2_ := Aside0.mk (hbox); have n3_ := Aside0.mk ((by rw [hg]; exact (below_size (by repeat (first | (with_reducible first | exact HB.out | apply below_alloc | apply pw_below_drewN | apply below_drew1 | refine below_set ?_ GE251.out) | exact HB.out))) : w.heap.size ≤ gb252)); have n4_ := Aside0.mk ((by rw [hg]; exact (below_size (by repeat (first | (with_reducible first | exact HB.out | apply below_alloc | apply pw_below_drewN | apply below_drew1 | refine below_set ?_ GE251.out) | exact HB.out))) : w.heap.size ≤ gb252)); have n5_ := Aside0.mk ((by rw [hg]; exact Nat.ne_of_lt (blk_lt (g := gb251) (o := .cells #[.slice A0_0 l0_0.length c0_0] 30 (0, 0)) (by (with_reducible repeat (first | refine blk_drewN ?_ _ | refine blk_drew ?_ | refine blk_alloc ?_ _)); exact BK251.out)) : gb251 ≠ gb252)); have n6_ := Aside0.mk ((by rw [hg]; exact Nat.ne_of_gt (blk_lt (g := gb251) (o := .cells #[.slice A0_0 l0_0.length c0_0] 30 (0, 0)) (by (with_reducible repeat (first | refine blk_drewN ?_ _ | refine blk_drew ?_ | refine blk_alloc ?_ _)); exact BK251.out)) : gb252 ≠ gb251)); clear BK251; clear HB; have BK251 := n0_; have HB := n1_; have BK252 := n2_; have GW252 := n3_; have GE252 := n4_; have NB251_252 := n5_; have NB252_251 := n6_; clear n0_ n1_ n2_ n3_ n4_ n5_ n6_; clear hb hbox hg))
  repeat (go_quiet (first | ((with_reducible refine gate_dst (N := 2) rfl ?_); (try (refine gate_guard (by rfl) ?_; dsimp only)); refine box_event ?hg (N := 2) ?hd (cs := #[.slice A0_0 l0_0.length c0_0]) (t := 30) ?hr ?_; (case hd => rfl); (case hg => rfl); (case hr => first | (go_simp; done) | (go_simp; rfl)); intro gb251 hg w4 hbox hb; have n0_ := Aside0.mk (below_step (by repeat (first | (with_reducible first | exact HB.out | apply below_alloc | apply pw_below_drewN | apply below_drew1) | exact HB.out)) hb); have n1_ := Aside0.mk (hbox); have n2_ := Aside0.mk ((by rw [hg]; exact (below_size (by repeat (first | (with_reducible first | exact HB.out | apply below_alloc | apply pw_below_drewN | apply below_drew1) | exact HB.out))) : w.heap.size ≤ gb251)); have n3_ := Aside0.mk ((by rw [hg]; exact (below_size (by repeat (first | (with_reducible first | exact HB.out | apply below_alloc | apply pw_below_drewN | apply below_drew1) | exact HB.out))) : w.heap.size ≤ gb251)); clear HB; have HB := n0_; have BK251 := n1_; have GW251 := n2_; have GE251 := n3_; clear n0_ n1_ n2_ n3_; clear hb hbox hg) | ((with_reducible refine gate_dst (N := 3) rfl ?_); (try (refine gate_guard (by rfl) ?_; dsimp only)); refine box_event ?hg (N := 3) ?hd (cs := #[.slice A1_0 l1_0.length c1_0, .int .i64 a1_1]) (t := 98) ?hr ?_; (case hd => rfl); (case hg => rfl); (case hr => first | (go_simp; done) | (go_simp; rfl)); intro gb252 hg w5 hbox hb; have n0_ := Aside0.mk (blk_below (g := gb251) (o := .cells #[.slice A0_0 l0_0.length c0_0] 30 (0, 0)) (by (with_reducible repeat (first | refine blk_drewN ?_ _ | refine blk_drew ?_ | refine blk_alloc ?_ _)); exact BK251.out) hb); have n1_ := Aside0.mk (below_step (by repeat (first | (with_reducible first | exact HB.out | apply below_alloc | apply pw_below_drewN | apply below_drew1 | refine below_set ?_ GE251.out) | exact HB.out)) hb); have n2_ := Aside0.mk (hbox); have n3_ := Aside0.mk ((by rw [hg]; exact (below_size (by repeat (first | (with_reducible first | exact HB.out | apply below_alloc | apply pw_below_drewN | apply below_drew1 | refine below_set ?_ GE251.out) | exact HB.out))) : w.heap.size ≤ gb252)); have n4_ := Aside0.mk ((by rw [hg]; exact (below_size (by repeat (first | (with_reducible first | exact HB.out | apply below_alloc | apply pw_below_drewN | apply below_drew1 | refine below_set ?_ GE251.out) | exact HB.out))) : w.heap.size ≤ gb252)); have n5_ := Aside0.mk ((by rw [hg]; exact Nat.ne_of_lt (blk_lt (g := gb251) (o := .cells #[.slice A0_0 l0_0.length c0_0] 30 (0, 0)) (by (with_reducible repeat (first | refine blk_drewN ?_ _ | refine blk_drew ?_ | refine blk_alloc ?_ _)); exact BK251.out)) : gb251 ≠ gb252)); have n6_ := Aside0.mk ((by rw [hg]; exact Nat.ne_of_gt (blk_lt (g := gb251) (o := .cells #[.slice A0_0 l0_0.length c0_0] 30 (0, 0)) (by (with_reducible repeat (first | refine blk_drewN ?_ _ | refine blk_drew ?_ | refine blk_alloc ?_ _)); exact BK251.out)) : gb252 ≠ gb251)); clear BK251; clear HB; have BK251 := n0_; have HB := n1_; have BK252 := n2_; have GW252 := n3_; have GE252 := n4_; have NB251_252 := n5_; have NB252_251 := n6_; clear n0_ n1_ n2_ n3_ n4_ n5_ n6_; clear hb hbox hg)); go_upto_region 1 with (first | ((with_reducible refine gate_dst (N := 2) rfl ?_); (try (refine gate_guard (by rfl) ?_; dsimp only)); refine box_event ?hg (N := 2) ?hd (cs := #[.slice A0_0 l0_0.length c0_0]) (t := 30) ?hr ?_; (case hd => rfl); (case hg => rfl); (case hr => first | (go_simp; done) | (go_simp; rfl)); intro gb251 hg w4 hbox hb; have n0_ := Aside0.mk (below_step (by repeat (first | (with_reducible first | exact HB.out | apply below_alloc | apply pw_below_drewN | apply below_drew1) | exact HB.out)) hb); have n1_ := Aside0.mk (hbox); have n2_ := Aside0.mk ((by rw [hg]; exact (below_size (by repeat (first | (with_reducible first | exact HB.out | apply below_alloc | apply pw_below_drewN | apply below_drew1) | exact HB.out))) : w.heap.size ≤ gb251)); have n3_ := Aside0.mk ((by rw [hg]; exact (below_size (by repeat (first | (with_reducible first | exact HB.out | apply below_alloc | apply pw_below_drewN | apply below_drew1) | exact HB.out))) : w.heap.size ≤ gb251)); clear HB; have HB := n0_; have BK251 := n1_; have GW251 := n2_; have GE251 := n3_; clear n0_ n1_ n2_ n3_; clear hb hbox hg) | ((with_reducible refine gate_dst (N := 3) rfl ?_); (try (refine gate_guard (by rfl) ?_; dsimp only)); refine box_event ?hg (N := 3) ?hd (cs := #[.slice A1_0 l1_0.length c1_0, .int .i64 a1_1]) (t := 98) ?hr ?_; (case hd => rfl); (case hg => rfl); (case hr => first | (go_simp; done) | (go_simp; rfl)); intro gb252 hg w5 hbox hb; have n0_ := Aside0.mk (blk_below (g := gb251) (o := .cells #[.slice A0_0 l0_0.length c0_0] 30 (0, 0)) (by (with_reducible repeat (first | refine blk_drewN ?_ _ | refine blk_drew ?_ | refine blk_alloc ?_ _)); exact BK251.out) hb); have n1_ := Aside0.mk (below_step (by repeat (first | (with_reducible first | exact HB.out | apply below_alloc | apply pw_below_drewN | apply below_drew1 | refine below_set ?_ GE251.out) | exact HB.out)) hb); have n2_ := Aside0.mk (hbox); have n3_ := Aside0.mk ((by rw [hg]; exact (below_size (by repeat (first | (with_reducible first | exact HB.out | apply below_alloc | apply pw_below_drewN | apply below_drew1 | refine below_set ?_ GE251.out) | exact HB.out))) : w.heap.size ≤ gb252)); have n4_ := Aside0.mk ((by rw [hg]; exact (below_size (by repeat (first | (with_reducible first | exact HB.out | apply below_alloc | apply pw_below_drewN | apply below_drew1 | refine below_set ?_ GE251.out) | exact HB.out))) : w.heap.size ≤ gb252)); have n5_ := Aside0.mk ((by rw [hg]; exact Nat.ne_of_lt (blk_lt (g := gb251) (o := .cells #[.slice A0_0 l0_0.length c0_0] 30 (0, 0)) (by (with_reducible repeat (first | refine blk_drewN ?_ _ | refine blk_drew ?_ | refine blk_alloc ?_ _)); exact BK251.out)) : gb251 ≠ gb252)); have n6_ := Aside0.mk ((by rw [hg]; exact Nat.ne_of_gt (blk_lt (g := gb251) (o := .cells #[.slice A0_0 l0_0.length c0_0] 30 (0, 0)) (by (with_reducible repeat (first | refine blk_drewN ?_ _ | refine blk_drew ?_ | refine blk_alloc ?_ _)); exact BK251.out)) : gb252 ≠ gb251)); clear BK251; clear HB; have BK251 := n0_; have HB := n1_; have BK252 := n2_; have GW252 := n3_; have GE252 := n4_; have NB251_252 := n5_; have NB252_251 := n6_; clear n0_ n1_ n2_ n3_ n4_ n5_ n6_; clear hb hbox hg)))
  (try simp only [Act.put, List.setIfInBounds_toArray, List.set_cons_zero, List.set_cons_succ])
  go_cut [20] (fun v20 wc => ∃ (kq : Nat) (x20_2 : Bool), v20 = .bool x20_2 ∧ Aside0 (spec_waGood.j0 kq x20_2 l0_0 l1_0 a1_1 = some r) ∧ Aside0 (kq ≤ k) ∧ Aside0 (wc.heap[gb251]? = some (.cells #[(.slice A0_0 l0_0.length c0_0)] 30 (0, 0))) ∧ Aside0 (wc.heap[gb252]? = some (.cells #[(.slice A1_0 l1_0.length c1_0), .int .i64 a1_1] 98 (0, 0))) ∧ Aside0 (Below w.heap.size w wc))
  case first =>
    have H := HC3.out
    clear HC3
    replace H := Option.bind_eq_some_iff.mp H
    obtain ⟨t253, A60, H⟩ := H
    replace H : (if t253 = true then (spec_waGood.j0 k ((l1_0.length : Int) != (l0_0.length : Int)) l0_0 l1_0 a1_1) else (spec_waGood.j0 k true l0_0 l1_0 a1_1)) = some r := H
    have A6 := Aside0.mk A60
    clear A60
    by_cases c7 : t253 = true
    · subst c7
      have H1 : (spec_waGood.j0 k ((l1_0.length : Int) != (l0_0.length : Int)) l0_0 l1_0 a1_1) = some r := by rw [if_pos rfl] at H; exact H
      clear H
      have H := H1
      clear H1
      have H' := Aside0.mk H
      clear H
      have hnb8 := NB251_252.out
      have hnc8 := NB252_251.out
      have hcz9_0 : w5.cell? ⟨gb251, 0, none⟩ = some (.slice A0_0 l0_0.length c0_0) := (blk_cell BK251.out 0).trans rfl
      have hfz9_0 := blk_frozen BK251.out 0
      have hcz10_0 : w5.cell? ⟨gb252, 0, none⟩ = some (.slice A1_0 l1_0.length c1_0) := (blk_cell BK252.out 0).trans rfl
      have hcz10_1 : w5.cell? ⟨gb252, 1, none⟩ = some (.int .i64 a1_1) := (blk_cell BK252.out 1).trans rfl
      have hfz10_0 := blk_frozen BK252.out 0
      have hfz10_1 := blk_frozen BK252.out 1
      go_wp2_with (first | (go_at_call 72; (with_reducible refine (spec_grPlace.calls k _ _ l0_0 a1_1 true _ ?side1 ?side2 A6.out).mono ?_); (case side1 => repeat (first | exact (Kd.C_below HR0_0.out HB.out) | (with_reducible refine Kd.C_alloc ?_ _) | (with_reducible refine Kd.C_drewN ?_ _) | (with_reducible refine Kd.C_drew ?_))); (case side2 => exact HC0_0.out); rintro e w11 ⟨rfl, hb⟩; have n0_ := Aside0.mk (blk_below (g := gb251) (o := .cells #[.slice A0_0 l0_0.length c0_0] 30 (0, 0)) (by (with_reducible repeat (first | refine blk_drewN ?_ _ | refine blk_drew ?_ | refine blk_alloc ?_ _)); exact BK251.out) hb); have n1_ := Aside0.mk (blk_below (g := gb252) (o := .cells #[.slice A1_0 l1_0.length c1_0, .int .i64 a1_1] 98 (0, 0)) (by (with_reducible repeat (first | refine blk_drewN ?_ _ | refine blk_drew ?_ | refine blk_alloc ?_ _)); exact BK252.out) hb); have n2_ := Aside0.mk (below_step (by repeat (first | (with_reducible first | exact HB.out | apply below_alloc | apply pw_below_drewN | apply below_drew1 | refine below_set ?_ GE251.out | refine below_set ?_ GE252.out) | exact HB.out)) hb); clear BK251; clear BK252; clear HB; have BK251 := n0_; have BK252 := n1_; have HB := n2_; clear n0_ n1_ n2_; (try clear hb); (try clear hb2); (try clear hk); (try clear hi); have hcz12_0 : w11.cell? ⟨gb252, 0, none⟩ = some (.slice A1_0 l1_0.length c1_0) := (blk_cell BK252.out 0).trans rfl; have hcz12_1 : w11.cell? ⟨gb252, 1, none⟩ = some (.int .i64 a1_1) := (blk_cell BK252.out 1).trans rfl; have hfz12_0 := blk_frozen BK252.out 0; have hfz12_1 := blk_frozen BK252.out 1; have hcz13_0 : w11.cell? ⟨gb251, 0, none⟩ = some (.slice A0_0 l0_0.length c0_0) := (blk_cell BK251.out 0).trans rfl; have hfz13_0 := blk_frozen BK251.out 0))
      repeat (go_quiet (first | (go_at_call 72; (with_reducible refine (spec_grPlace.calls k _ _ l0_0 a1_1 true _ ?side1 ?side2 A6.out).mono ?_); (case side1 => repeat (first | exact (Kd.C_below HR0_0.out HB.out) | (with_reducible refine Kd.C_alloc ?_ _) | (with_reducible refine Kd.C_drewN ?_ _) | (with_reducible refine Kd.C_drew ?_))); (case side2 => exact HC0_0.out); rintro e w11 ⟨rfl, hb⟩; have n0_ := Aside0.mk (blk_below (g := gb251) (o := .cells #[.slice A0_0 l0_0.length c0_0] 30 (0, 0)) (by (with_reducible repeat (first | refine blk_drewN ?_ _ | refine blk_drew ?_ | refine blk_alloc ?_ _)); exact BK251.out) hb); have n1_ := Aside0.mk (blk_below (g := gb252) (o := .cells #[.slice A1_0 l1_0.length c1_0, .int .i64 a1_1] 98 (0, 0)) (by (with_reducible repeat (first | refine blk_drewN ?_ _ | refine blk_drew ?_ | refine blk_alloc ?_ _)); exact BK252.out) hb); have n2_ := Aside0.mk (below_step (by repeat (first | (with_reducible first | exact HB.out | apply below_alloc | apply pw_below_drewN | apply below_drew1 | refine below_set ?_ GE251.out | refine below_set ?_ GE252.out) | exact HB.out)) hb); clear BK251; clear BK252; clear HB; have BK251 := n0_; have BK252 := n1_; have HB := n2_; clear n0_ n1_ n2_; (try clear hb); (try clear hb2); (try clear hk); (try clear hi); have hcz12_0 : w11.cell? ⟨gb252, 0, none⟩ = some (.slice A1_0 l1_0.length c1_0) := (blk_cell BK252.out 0).trans rfl; have hcz12_1 : w11.cell? ⟨gb252, 1, none⟩ = some (.int .i64 a1_1) := (blk_cell BK252.out 1).trans rfl; have hfz12_0 := blk_frozen BK252.out 0; have hfz12_1 := blk_frozen BK252.out 1; have hcz13_0 : w11.cell? ⟨gb251, 0, none⟩ = some (.slice A0_0 l0_0.length c0_0) := (blk_cell BK251.out 0).trans rfl; have hfz13_0 := blk_frozen BK251.out 0)); try go_wp2_with (first | (go_at_call 72; (with_reducible refine (spec_grPlace.calls k _ _ l0_0 a1_1 true _ ?side1 ?side2 A6.out).mono ?_); (case side1 => repeat (first | exact (Kd.C_below HR0_0.out HB.out) | (with_reducible refine Kd.C_alloc ?_ _) | (with_reducible refine Kd.C_drewN ?_ _) | (with_reducible refine Kd.C_drew ?_))); (case side2 => exact HC0_0.out); rintro e w11 ⟨rfl, hb⟩; have n0_ := Aside0.mk (blk_below (g := gb251) (o := .cells #[.slice A0_0 l0_0.length c0_0] 30 (0, 0)) (by (with_reducible repeat (first | refine blk_drewN ?_ _ | refine blk_drew ?_ | refine blk_alloc ?_ _)); exact BK251.out) hb); have n1_ := Aside0.mk (blk_below (g := gb252) (o := .cells #[.slice A1_0 l1_0.length c1_0, .int .i64 a1_1] 98 (0, 0)) (by (with_reducible repeat (first | refine blk_drewN ?_ _ | refine blk_drew ?_ | refine blk_alloc ?_ _)); exact BK252.out) hb); have n2_ := Aside0.mk (below_step (by repeat (first | (with_reducible first | exact HB.out | apply below_alloc | apply pw_below_drewN | apply below_drew1 | refine below_set ?_ GE251.out | refine below_set ?_ GE252.out) | exact HB.out)) hb); clear BK251; clear BK252; clear HB; have BK251 := n0_; have BK252 := n1_; have HB := n2_; clear n0_ n1_ n2_; (try clear hb); (try clear hb2); (try clear hk); (try clear hi); have hcz12_0 : w11.cell? ⟨gb252, 0, none⟩ = some (.slice A1_0 l1_0.length c1_0) := (blk_cell BK252.out 0).trans rfl; have hcz12_1 : w11.cell? ⟨gb252, 1, none⟩ = some (.int .i64 a1_1) := (blk_cell BK252.out 1).trans rfl; have hfz12_0 := blk_frozen BK252.out 0; have hfz12_1 := blk_frozen BK252.out 1; have hcz13_0 : w11.cell? ⟨gb251, 0, none⟩ = some (.slice A0_0 l0_0.length c0_0) := (blk_cell BK251.out 0).trans rfl; have hfz13_0 := blk_frozen BK251.out 0)))
      go_meet
      case rel => exact ⟨_, (((l1_0.length : Int) != (l0_0.length : Int))), (by first | rfl | (simp; done) | (simp [*]; done)), H', ⟨by first | omega | exact Nat.le_refl _⟩, ⟨by (with_reducible repeat (first | refine blk_drewN ?_ _ | refine blk_drew ?_ | refine blk_alloc ?_ _)); exact BK251.out⟩, ⟨by (with_reducible repeat (first | refine blk_drewN ?_ _ | refine blk_drew ?_ | refine blk_alloc ?_ _)); exact BK252.out⟩, ⟨by repeat (first | (with_reducible first | exact HB.out | apply below_alloc | apply pw_below_drewN | apply below_drew1 | refine below_set ?_ GE251.out | refine below_set ?_ GE252.out) | exact HB.out)⟩⟩
    · replace c7 := Bool.eq_false_iff.mpr c7
      subst c7
      have H1 : (spec_waGood.j0 k true l0_0 l1_0 a1_1) = some r := by rw [if_neg (show ¬ (false = true) by decide)] at H; exact H
      clear H
      have H := H1
      clear H1
      have H' := Aside0.mk H
      clear H
      have hnb14 := NB251_252.out
      have hnc14 := NB252_251.out
      have hcz15_0 : w5.cell? ⟨gb251, 0, none⟩ = some (.slice A0_0 l0_0.length c0_0) := (blk_cell BK251.out 0).trans rfl
      have hfz15_0 := blk_frozen BK251.out 0
      have hcz16_0 : w5.cell? ⟨gb252, 0, none⟩ = some (.slice A1_0 l1_0.length c1_0) := (blk_cell BK252.out 0).trans rfl
      have hcz16_1 : w5.cell? ⟨gb252, 1, none⟩ = some (.int .i64 a1_1) := (blk_cell BK252.out 1).trans rfl
      have hfz16_0 := blk_frozen BK252.out 0
      have hfz16_1 := blk_frozen BK252.out 1
      go_wp2_with (first | (go_at_call 72; (with_reducible refine (spec_grPlace.calls k _ _ l0_0 a1_1 false _ ?side1 ?side2 A6.out).mono ?_); (case side1 => repeat (first | exact (Kd.C_below HR0_0.out HB.out) | (with_reducible refine Kd.C_alloc ?_ _) | (with_reducible refine Kd.C_drewN ?_ _) | (with_reducible refine Kd.C_drew ?_))); (case side2 => exact HC0_0.out); rintro e w17 ⟨rfl, hb⟩; have n0_ := Aside0.mk (blk_below (g := gb251) (o := .cells #[.slice A0_0 l0_0.length c0_0] 30 (0, 0)) (by (with_reducible repeat (first | refine blk_drewN ?_ _ | refine blk_drew ?_ | refine blk_alloc ?_ _)); exact BK251.out) hb); have n1_ := Aside0.mk (blk_below (g := gb252) (o := .cells #[.slice A1_0 l1_0.length c1_0, .int .i64 a1_1] 98 (0, 0)) (by (with_reducible repeat (first | refine blk_drewN ?_ _ | refine blk_drew ?_ | refine blk_alloc ?_ _)); exact BK252.out) hb); have n2_ := Aside0.mk (below_step (by repeat (first | (with_reducible first | exact HB.out | apply below_alloc | apply pw_below_drewN | apply below_drew1 | refine below_set ?_ GE251.out | refine below_set ?_ GE252.out) | exact HB.out)) hb); clear BK251; clear BK252; clear HB; have BK251 := n0_; have BK252 := n1_; have HB := n2_; clear n0_ n1_ n2_; (try clear hb); (try clear hb2); (try clear hk); (try clear hi)))
      repeat (go_quiet (first | (go_at_call 72; (with_reducible refine (spec_grPlace.calls k _ _ l0_0 a1_1 false _ ?side1 ?side2 A6.out).mono ?_); (case side1 => repeat (first | exact (Kd.C_below HR0_0.out HB.out) | (with_reducible refine Kd.C_alloc ?_ _) | (with_reducible refine Kd.C_drewN ?_ _) | (with_reducible refine Kd.C_drew ?_))); (case side2 => exact HC0_0.out); rintro e w17 ⟨rfl, hb⟩; have n0_ := Aside0.mk (blk_below (g := gb251) (o := .cells #[.slice A0_0 l0_0.length c0_0] 30 (0, 0)) (by (with_reducible repeat (first | refine blk_drewN ?_ _ | refine blk_drew ?_ | refine blk_alloc ?_ _)); exact BK251.out) hb); have n1_ := Aside0.mk (blk_below (g := gb252) (o := .cells #[.slice A1_0 l1_0.length c1_0, .int .i64 a1_1] 98 (0, 0)) (by (with_reducible repeat (first | refine blk_drewN ?_ _ | refine blk_drew ?_ | refine blk_alloc ?_ _)); exact BK252.out) hb); have n2_ := Aside0.mk (below_step (by repeat (first | (with_reducible first | exact HB.out | apply below_alloc | apply pw_below_drewN | apply below_drew1 | refine below_set ?_ GE251.out | refine below_set ?_ GE252.out) | exact HB.out)) hb); clear BK251; clear BK252; clear HB; have BK251 := n0_; have BK252 := n1_; have HB := n2_; clear n0_ n1_ n2_; (try clear hb); (try clear hb2); (try clear hk); (try clear hi))); try go_wp2_with (first | (go_at_call 72; (with_reducible refine (spec_grPlace.calls k _ _ l0_0 a1_1 false _ ?side1 ?side2 A6.out).mono ?_); (case side1 => repeat (first | exact (Kd.C_below HR0_0.out HB.out) | (with_reducible refine Kd.C_alloc ?_ _) | (with_reducible refine Kd.C_drewN ?_ _) | (with_reducible refine Kd.C_drew ?_))); (case side2 => exact HC0_0.out); rintro e w17 ⟨rfl, hb⟩; have n0_ := Aside0.mk (blk_below (g := gb251) (o := .cells #[.slice A0_0 l0_0.length c0_0] 30 (0, 0)) (by (with_reducible repeat (first | refine blk_drewN ?_ _ | refine blk_drew ?_ | refine blk_alloc ?_ _)); exact BK251.out) hb); have n1_ := Aside0.mk (blk_below (g := gb252) (o := .cells #[.slice A1_0 l1_0.length c1_0, .int .i64 a1_1] 98 (0, 0)) (by (with_reducible repeat (first | refine blk_drewN ?_ _ | refine blk_drew ?_ | refine blk_alloc ?_ _)); exact BK252.out) hb); have n2_ := Aside0.mk (below_step (by repeat (first | (with_reducible first | exact HB.out | apply below_alloc | apply pw_below_drewN | apply below_drew1 | refine below_set ?_ GE251.out | refine below_set ?_ GE252.out) | exact HB.out)) hb); clear BK251; clear BK252; clear HB; have BK251 := n0_; have BK252 := n1_; have HB := n2_; clear n0_ n1_ n2_; (try clear hb); (try clear hb2); (try clear hk); (try clear hi))))
      go_meet
      case rel => exact ⟨_, (true), (by first | rfl | (simp; done) | (simp [*]; done)), H', ⟨by first | omega | exact Nat.le_refl _⟩, ⟨by (with_reducible repeat (first | refine blk_drewN ?_ _ | refine blk_drew ?_ | refine blk_alloc ?_ _)); exact BK251.out⟩, ⟨by (with_reducible repeat (first | refine blk_drewN ?_ _ | refine blk_drew ?_ | refine blk_alloc ?_ _)); exact BK252.out⟩, ⟨by repeat (first | (with_reducible first | exact HB.out | apply below_alloc | apply pw_below_drewN | apply below_drew1 | refine below_set ?_ GE251.out | refine below_set ?_ GE252.out) | exact HB.out)⟩⟩
  case rest =>
    clear HC3
    try clear c1
    try clear p2
    try clear c7
    try clear c8
    try clear c10
    try clear c14
    try clear hcz10_0
    try clear hcz10_1
    try clear hcz12_0
    try clear hcz12_1
    try clear hcz13_0
    try clear hcz15_0
    try clear hcz16_0
    try clear hcz16_1
    try clear hcz9_0
    try clear hfz10_0
    try clear hfz10_1
    try clear hfz12_0
    try clear hfz12_1
    try clear hfz13_0
    try clear hfz15_0
    try clear hfz16_0
    try clear hfz16_1
    try clear hfz9_0
    obtain ⟨kq, x20_2, rfl, HA, HJ2, BK251, BK252, HB⟩ := hcut
    cases kq with
    | zero => exact absurd HA.out (by simp [spec_waGood.j0])
    | succ kj2 =>
      have H := HA.out
      clear HA
      simp only [spec_waGood.j0] at H
      by_cases c18 : x20_2 = true
      · subst c18
        have H1 : (some false) = some r := by rw [if_pos rfl] at H; exact H
        clear H
        have H := H1
        clear H1
        obtain rfl := Option.some.inj H
        go_wp2
        repeat (go_quiet (fail); try go_wp2)
        go_ret
        exact ⟨by first | rfl | (simp [errW_none, errW_some] <;> rfl) | (simp [*, errW_none, errW_some] <;> rfl), by repeat (first | (with_reducible first | exact HB.out | apply below_alloc | apply pw_below_drewN | apply below_drew1 | refine below_set ?_ GE251.out | refine below_set ?_ GE252.out) | exact HB.out)⟩
      · replace c18 := Bool.eq_false_iff.mpr c18
        subst c18
        have H1 : (spec_waGood.l0 kj2 l0_0 (l0_0.length : Int) 0 l1_0 a1_1) = some r := by rw [if_neg (show ¬ (false = true) by decide)] at H; exact H
        clear H
        have H := H1
        clear H1
        have H' := Aside0.mk H
        clear H
        have hnb19 := NB251_252.out
        have hnc19 := NB252_251.out
        have hcz20_0 : wc.cell? ⟨gb251, 0, none⟩ = some (.slice A0_0 l0_0.length c0_0) := (blk_cell BK251.out 0).trans rfl
        have hfz20_0 := blk_frozen BK251.out 0
        go_wp2
        repeat (go_quiet (fail); try go_wp2)
        go_loopg [24] kj2 (fun kq v24 w' => ∃ (x24_2 : Int), v24 = .int .i64 x24_2 ∧ Aside0 (spec_waGood.l0 kq l0_0 (l0_0.length : Int) x24_2 l1_0 a1_1 = some r) ∧ Aside0 (kq ≤ kj2) ∧ Aside0 (w'.heap[gb251]? = some (.cells #[(.slice A0_0 l0_0.length c0_0)] 30 (0, 0))) ∧ Aside0 (w'.heap[gb252]? = some (.cells #[(.slice A1_0 l1_0.length c1_0), .int .i64 a1_1] 98 (0, 0))) ∧ Aside0 (Below w.heap.size w w'))
        case atStart => exact ⟨(0), (by first | rfl | (simp; done) | (simp [*]; done)), H', ⟨Nat.le_refl _⟩, ⟨by (with_reducible repeat (first | refine blk_drewN ?_ _ | refine blk_drew ?_ | refine blk_alloc ?_ _)); exact BK251.out⟩, ⟨by (with_reducible repeat (first | refine blk_drewN ?_ _ | refine blk_drew ?_ | refine blk_alloc ?_ _)); exact BK252.out⟩, ⟨by repeat (first | (with_reducible first | exact HB.out | apply below_alloc | apply pw_below_drewN | apply below_drew1 | refine below_set ?_ GE251.out | refine below_set ?_ GE252.out) | exact HB.out)⟩⟩
        case round =>
          clear H'
          try clear c1
          try clear p2
          try clear c7
          try clear c8
          try clear c10
          try clear c14
          try clear c18
          try clear c19
          try clear hcz10_0
          try clear hcz10_1
          try clear hcz12_0
          try clear hcz12_1
          try clear hcz13_0
          try clear hcz15_0
          try clear hcz16_0
          try clear hcz16_1
          try clear hcz20_0
          try clear hcz9_0
          try clear hfz10_0
          try clear hfz10_1
          try clear hfz12_0
          try clear hfz12_1
          try clear hfz13_0
          try clear hfz15_0
          try clear hfz16_0
          try clear hfz16_1
          try clear hfz20_0
          try clear hfz9_0
          try clear p2
          obtain ⟨x24_2, rfl, HA, HK2, BK251, BK252, HB⟩ := hrel
          cases gk with
          | zero => exact absurd HA.out (by simp [spec_waGood.l0])
          | succ k2 =>
            have H := HA.out
            clear HA
            simp only [spec_waGood.l0] at H
            by_cases c21 : x24_2 < (l0_0.length : Int)
            · rw [if_pos c21] at H
              have c21b0 : decide (x24_2 < (l0_0.length : Int)) = true := decide_eq_true c21
              clear c21
              by_cases c22 : 0 ≤ x24_2
              · rw [if_pos c22] at H
                have c22b0 : decide (0 ≤ x24_2) = true := decide_eq_true c22
                clear c22
                by_cases c23 : x24_2 < (l0_0.length : Int)
                · rw [if_pos c23] at H
                  have c23b0 : decide (x24_2 < (l0_0.length : Int)) = true := decide_eq_true c23
                  clear c23
                  by_cases c24 : x24_2 < (l1_0.length : Int)
                  · rw [if_pos c24] at H
                    have c24b0 : decide (x24_2 < (l1_0.length : Int)) = true := decide_eq_true c24
                    clear c24
                    replace H := Option.bind_eq_some_iff.mp H
                    obtain ⟨t256, A250, H⟩ := H
                    replace H : ((spec_l1In.f (rd l1_0 x24_2) 0 t256).bind fun t257 => (if t257 = true then (spec_waGood.l0 k2 l0_0 (l0_0.length : Int) (wrap64 (x24_2 + 1)) l1_0 a1_1) else (some false))) = some r := H
                    have A25 := Aside0.mk A250
                    clear A250
                    replace H := Option.bind_eq_some_iff.mp H
                    obtain ⟨t257, A260, H⟩ := H
                    replace H : (if t257 = true then (spec_waGood.l0 k2 l0_0 (l0_0.length : Int) (wrap64 (x24_2 + 1)) l1_0 a1_1) else (some false)) = some r := H
                    have A26 := Aside0.mk A260
                    clear A260
                    by_cases c27 : t257 = true
                    · subst c27
                      have H1 : (spec_waGood.l0 k2 l0_0 (l0_0.length : Int) (wrap64 (x24_2 + 1)) l1_0 a1_1) = some r := by rw [if_pos rfl] at H; exact H
                      clear H
                      have H := H1
                      clear H1
                      have H' := Aside0.mk H
                      clear H
                      have p254 : 0 ≤ (x24_2 : Int) := of_decide_eq_true (by first | (with_reducible assumption) | assumption)
                      have q254 : x24_2 < (l0_0.length : Int) := of_decide_eq_true (by first | (with_reducible assumption) | assumption)
                      obtain ⟨ad254, A254_0, c254_0, e254, hx254_0, hl254_0, hi254_0⟩ := at_L1 HR0_0.out x24_2 p254 q254
                      cases e254
                      replace hx254_0 := (HB.out.cell (World.block_lt_of_cell? w _ hx254_0)).trans hx254_0
                      have HR254_0 := Aside0.mk hi254_0
                      have HC254_0 := Aside0.mk hl254_0
                      clear hi254_0 hl254_0
                      replace p254 := eq_true p254
                      replace q254 := eq_true q254
                      have hnb28 := NB252_251.out
                      have hnc28 := NB251_252.out
                      have hcz29_0 : wr.cell? ⟨gb252, 0, none⟩ = some (.slice A1_0 l1_0.length c1_0) := (blk_cell BK252.out 0).trans rfl
                      have hcz29_1 : wr.cell? ⟨gb252, 1, none⟩ = some (.int .i64 a1_1) := (blk_cell BK252.out 1).trans rfl
                      have hfz29_0 := blk_frozen BK252.out 0
                      have hfz29_1 := blk_frozen BK252.out 1
                      have p255 : 0 ≤ (x24_2 : Int) := of_decide_eq_true (by first | (with_reducible assumption) | assumption)
                      have q255 : x24_2 < (l1_0.length : Int) := of_decide_eq_true (by first | (with_reducible assumption) | assumption)
                      obtain ⟨ad255, e255, hx255_0⟩ := Kd.at_int HR1_0.out x24_2 p255 q255
                      cases e255
                      replace hx255_0 := (HB.out.cell (World.block_lt_of_cell? w _ hx255_0)).trans hx255_0
                      replace p255 := eq_true p255
                      replace q255 := eq_true q255
                      go_wp2_with (first | (go_at_call 120; (with_reducible refine (spec_l1Most.calls 0 (wrap64 (((rd_L1 l0_0 x24_2).length : Int) - 1)) t256 _ A25.out).mono ?_); rintro e w' ⟨rfl, ⟨nd, rfl⟩⟩; (try first | exact ⟨rfl, _, World.drewN_drewN _ _ _⟩ | exact ⟨rfl, _, Eq.trans (World.drewN_drewN _ _ _) (congrArg (World.drewN _) (Nat.add_assoc _ _ _))⟩)) | (go_at_call 73; (with_reducible refine (spec_l1In.calls (rd l1_0 x24_2) 0 t256 true _ A26.out).mono ?_); rintro e w' ⟨rfl, ⟨nd, rfl⟩⟩; (try first | exact ⟨rfl, _, World.drewN_drewN _ _ _⟩ | exact ⟨rfl, _, Eq.trans (World.drewN_drewN _ _ _) (congrArg (World.drewN _) (Nat.add_assoc _ _ _))⟩)))
                      repeat (go_quiet (first | (go_at_call 120; (with_reducible refine (spec_l1Most.calls 0 (wrap64 (((rd_L1 l0_0 x24_2).length : Int) - 1)) t256 _ A25.out).mono ?_); rintro e w' ⟨rfl, ⟨nd, rfl⟩⟩; (try first | exact ⟨rfl, _, World.drewN_drewN _ _ _⟩ | exact ⟨rfl, _, Eq.trans (World.drewN_drewN _ _ _) (congrArg (World.drewN _) (Nat.add_assoc _ _ _))⟩)) | (go_at_call 73; (with_reducible refine (spec_l1In.calls (rd l1_0 x24_2) 0 t256 true _ A26.out).mono ?_); rintro e w' ⟨rfl, ⟨nd, rfl⟩⟩; (try first | exact ⟨rfl, _, World.drewN_drewN _ _ _⟩ | exact ⟨rfl, _, Eq.trans (World.drewN_drewN _ _ _) (congrArg (World.drewN _) (Nat.add_assoc _ _ _))⟩))); try go_wp2_with (first | (go_at_call 120; (with_reducible refine (spec_l1Most.calls 0 (wrap64 (((rd_L1 l0_0 x24_2).length : Int) - 1)) t256 _ A25.out).mono ?_); rintro e w' ⟨rfl, ⟨nd, rfl⟩⟩; (try first | exact ⟨rfl, _, World.drewN_drewN _ _ _⟩ | exact ⟨rfl, _, Eq.trans (World.drewN_drewN _ _ _) (congrArg (World.drewN _) (Nat.add_assoc _ _ _))⟩)) | (go_at_call 73; (with_reducible refine (spec_l1In.calls (rd l1_0 x24_2) 0 t256 true _ A26.out).mono ?_); rintro e w' ⟨rfl, ⟨nd, rfl⟩⟩; (try first | exact ⟨rfl, _, World.drewN_drewN _ _ _⟩ | exact ⟨rfl, _, Eq.trans (World.drewN_drewN _ _ _) (congrArg (World.drewN _) (Nat.add_assoc _ _ _))⟩))))
                      go_roundg k2
                      case measure => have := HJ2.out; have := HK2.out; omega
                      case rel => exact ⟨(wrap64 (x24_2 + 1)), (by first | rfl | (simp; done) | (simp [*]; done)), H', ⟨by have := HJ2.out; have := HK2.out; omega⟩, ⟨by (with_reducible repeat (first | refine blk_drewN ?_ _ | refine blk_drew ?_ | refine blk_alloc ?_ _)); exact BK251.out⟩, ⟨by (with_reducible repeat (first | refine blk_drewN ?_ _ | refine blk_drew ?_ | refine blk_alloc ?_ _)); exact BK252.out⟩, ⟨by repeat (first | (with_reducible first | exact HB.out | apply below_alloc | apply pw_below_drewN | apply below_drew1 | refine below_set ?_ GE251.out | refine below_set ?_ GE252.out) | exact HB.out)⟩⟩
                    · replace c27 := Bool.eq_false_iff.mpr c27
                      subst c27
                      have H1 : (some false) = some r := by rw [if_neg (show ¬ (false = true) by decide)] at H; exact H
                      clear H
                      have H := H1
                      clear H1
                      obtain rfl := Option.some.inj H
                      have p254 : 0 ≤ (x24_2 : Int) := of_decide_eq_true (by first | (with_reducible assumption) | assumption)
                      have q254 : x24_2 < (l0_0.length : Int) := of_decide_eq_true (by first | (with_reducible assumption) | assumption)
                      obtain ⟨ad254, A254_0, c254_0, e254, hx254_0, hl254_0, hi254_0⟩ := at_L1 HR0_0.out x24_2 p254 q254
                      cases e254
                      replace hx254_0 := (HB.out.cell (World.block_lt_of_cell? w _ hx254_0)).trans hx254_0
                      have HR254_0 := Aside0.mk hi254_0
                      have HC254_0 := Aside0.mk hl254_0
                      clear hi254_0 hl254_0
                      replace p254 := eq_true p254
                      replace q254 := eq_true q254
                      have hnb30 := NB252_251.out
                      have hnc30 := NB251_252.out
                      have hcz31_0 : wr.cell? ⟨gb252, 0, none⟩ = some (.slice A1_0 l1_0.length c1_0) := (blk_cell BK252.out 0).trans rfl
                      have hcz31_1 : wr.cell? ⟨gb252, 1, none⟩ = some (.int .i64 a1_1) := (blk_cell BK252.out 1).trans rfl
                      have hfz31_0 := blk_frozen BK252.out 0
                      have hfz31_1 := blk_frozen BK252.out 1
                      have p255 : 0 ≤ (x24_2 : Int) := of_decide_eq_true (by first | (with_reducible assumption) | assumption)
                      have q255 : x24_2 < (l1_0.length : Int) := of_decide_eq_true (by first | (with_reducible assumption) | assumption)
                      obtain ⟨ad255, e255, hx255_0⟩ := Kd.at_int HR1_0.out x24_2 p255 q255
                      cases e255
                      replace hx255_0 := (HB.out.cell (World.block_lt_of_cell? w _ hx255_0)).trans hx255_0
                      replace p255 := eq_true p255
                      replace q255 := eq_true q255
                      go_wp2_with (first | (go_at_call 120; (with_reducible refine (spec_l1Most.calls 0 (wrap64 (((rd_L1 l0_0 x24_2).length : Int) - 1)) t256 _ A25.out).mono ?_); rintro e w' ⟨rfl, ⟨nd, rfl⟩⟩; (try first | exact ⟨rfl, _, World.drewN_drewN _ _ _⟩ | exact ⟨rfl, _, Eq.trans (World.drewN_drewN _ _ _) (congrArg (World.drewN _) (Nat.add_assoc _ _ _))⟩)) | (go_at_call 73; (with_reducible refine (spec_l1In.calls (rd l1_0 x24_2) 0 t256 false _ A26.out).mono ?_); rintro e w' ⟨rfl, ⟨nd, rfl⟩⟩; (try first | exact ⟨rfl, _, World.drewN_drewN _ _ _⟩ | exact ⟨rfl, _, Eq.trans (World.drewN_drewN _ _ _) (congrArg (World.drewN _) (Nat.add_assoc _ _ _))⟩)))
                      repeat (go_quiet (first | (go_at_call 120; (with_reducible refine (spec_l1Most.calls 0 (wrap64 (((rd_L1 l0_0 x24_2).length : Int) - 1)) t256 _ A25.out).mono ?_); rintro e w' ⟨rfl, ⟨nd, rfl⟩⟩; (try first | exact ⟨rfl, _, World.drewN_drewN _ _ _⟩ | exact ⟨rfl, _, Eq.trans (World.drewN_drewN _ _ _) (congrArg (World.drewN _) (Nat.add_assoc _ _ _))⟩)) | (go_at_call 73; (with_reducible refine (spec_l1In.calls (rd l1_0 x24_2) 0 t256 false _ A26.out).mono ?_); rintro e w' ⟨rfl, ⟨nd, rfl⟩⟩; (try first | exact ⟨rfl, _, World.drewN_drewN _ _ _⟩ | exact ⟨rfl, _, Eq.trans (World.drewN_drewN _ _ _) (congrArg (World.drewN _) (Nat.add_assoc _ _ _))⟩))); try go_wp2_with (first | (go_at_call 120; (with_reducible refine (spec_l1Most.calls 0 (wrap64 (((rd_L1 l0_0 x24_2).length : Int) - 1)) t256 _ A25.out).mono ?_); rintro e w' ⟨rfl, ⟨nd, rfl⟩⟩; (try first | exact ⟨rfl, _, World.drewN_drewN _ _ _⟩ | exact ⟨rfl, _, Eq.trans (World.drewN_drewN _ _ _) (congrArg (World.drewN _) (Nat.add_assoc _ _ _))⟩)) | (go_at_call 73; (with_reducible refine (spec_l1In.calls (rd l1_0 x24_2) 0 t256 false _ A26.out).mono ?_); rintro e w' ⟨rfl, ⟨nd, rfl⟩⟩; (try first | exact ⟨rfl, _, World.drewN_drewN _ _ _⟩ | exact ⟨rfl, _, Eq.trans (World.drewN_drewN _ _ _) (congrArg (World.drewN _) (Nat.add_assoc _ _ _))⟩))))
                      go_ret
                      exact ⟨by first | rfl | (simp [errW_none, errW_some] <;> rfl) | (simp [*, errW_none, errW_some] <;> rfl), by repeat (first | (with_reducible first | exact HB.out | apply below_alloc | apply pw_below_drewN | apply below_drew1 | refine below_set ?_ GE251.out | refine below_set ?_ GE252.out) | exact HB.out)⟩
                  · rw [if_neg c24] at H
                    exact absurd H (by simp)
                · rw [if_neg c23] at H
                  exact absurd H (by simp)
              · rw [if_neg c22] at H
                exact absurd H (by simp)
            · rw [if_neg c21] at H
              have c21b0 : decide (x24_2 < (l0_0.length : Int)) = false := decide_eq_false c21
              clear c21
              obtain rfl := Option.some.inj H
              go_wp2
              repeat (go_quiet (fail); try go_wp2)
              go_ret
              exact ⟨by first | rfl | (simp [errW_none, errW_some] <;> rfl) | (simp [*, errW_none, errW_some] <;> rfl), by repeat (first | (with_reducible first | exact HB.out | apply below_alloc | apply pw_below_drewN | apply below_drew1 | refine below_set ?_ GE251.out | refine below_set ?_ GE252.out) | exact HB.out)⟩
end Go.Proofs.Ytnbnalbomflafaa.GD
/-! ## GD3 -/
namespace Go.Proofs.Ytnbnalbomflafaa.GD
open Go.RowKit Go.Proofs.YtnbnalbomflafaaW.PrintWords Go.Proofs.YtnbnalbomflafaaW.PrintLast Go.Proofs.YtnbnalbomflafaaW.PrintMore
open Go.Proofs.Ytnbnalbomflafaa.GA
attribute [local go_sem] max2_int min2_int max_two min_two max_three min_three max_four min_four   -- for this text's walks alone
set_option linter.unusedVariables false
set_option linter.unusedSimpArgs false
mutual
def spec_RotorStacks.j0 : Nat → Int → List Int → Int → Bool → List (List Int) → Option ((List (List Int)) × Bool)
  | 0, _, _, _, _, _ => none
  | k + 1, x1, x2, x3, x31, x259000 => if x31 = true then (some (([] : List (List Int)), false)) else (spec_RotorStacks.l0 k x1 x2 x3 x259000 (x259000.length : Int) 0 ([] : List (List Int)))
def spec_RotorStacks.l0 : Nat → Int → List Int → Int → List (List Int) → Int → Int → List (List Int) → Option ((List (List Int)) × Bool)
  | 0, _, _, _, _, _, _, _ => none
  | k + 1, x1, x2, x3, x35, x36, x37, x264000 => if x37 < x36 then (if 0 ≤ x37 then (if x37 < (x35.length : Int) then (spec_RotorStacks.l1 k x1 x2 x3 x37 (rd_L1 x35 x37) ([] : List Int) 1 x35 x36 x37 x264000) else (none)) else (none)) else (some (x264000, true))
def spec_RotorStacks.l1 : Nat → Int → List Int → Int → Int → List Int → List Int → Int → List (List Int) → Int → Int → List (List Int) → Option ((List (List Int)) × Bool)
  | 0, _, _, _, _, _, _, _, _, _, _, _ => none
  | k + 1, x1, x2, x3, x11, x12, x13, x14, x35, x36, x37, x264000 => if x14 ≤ x3 then (if x11 = x1 then (if x264000.length < 5864062014805 then (spec_RotorStacks.l0 k x1 x2 x3 x35 x36 (wrap64 (x37 + 1)) (x264000 ++ [x13])) else (none)) else (if (x12.length : Int) > 0 then (if 0 ≤ x11 then (if x11 < (x2.length : Int) then (if (x12.length : Int) = 0 then (none) else (if x13.length < 17592186044416 then (spec_RotorStacks.l1 k x1 x2 x3 x11 x12 (x13 ++ [Int.tmod (wrap64 ((rd x2 x11) + x14)) (x12.length : Int)]) (wrap64 (x14 + 1)) x35 x36 x37 x264000) else (none))) else (none)) else (none)) else (if x264000.length < 5864062014805 then (spec_RotorStacks.l0 k x1 x2 x3 x35 x36 (wrap64 (x37 + 1)) (x264000 ++ [x13])) else (none)))) else (if x264000.length < 5864062014805 then (spec_RotorStacks.l0 k x1 x2 x3 x35 x36 (wrap64 (x37 + 1)) (x264000 ++ [x13])) else (none))
end
def spec_RotorStacks.f (k : Nat) (l0_0 : List (List Int)) (a1 : Int) (l2 : List Int) (a3 : Int) : Option ((List (List Int)) × Bool) := (spec_grPlace.f k l0_0 a1).bind fun t260 => (if t260 = true then ((spec_waGood.f k l0_0 l2 a1).bind fun t261 => (if t261 = true then ((spec_l1In.f a3 0 12).bind fun t262 => (spec_RotorStacks.j0 k a1 l2 a3 (!t262) l0_0)) else (spec_RotorStacks.j0 k a1 l2 a3 true l0_0))) else (spec_RotorStacks.j0 k a1 l2 a3 true l0_0))
def laws_heldIntSS.l0 : Nat → List (List Int) → Int → Int → Option (Int)
  | 0, _, _, _ => none
  | k + 1, x0, x1, x5 => if x5 < (x0.length : Int) then (if 0 ≤ x5 then ((laws_heldIntS.f k (rd_L1 x0 x5) x1).bind fun t290 => (if t290 < 0 then (some (-1)) else (laws_heldIntSS.l0 k x0 t290 (wrap64 (x5 + 1))))) else (none)) else (some x1)
def laws_heldIntSS.f (k : Nat) (l0 : List (List Int)) (a1 : Int) : Option (Int) := laws_heldIntSS.l0 k l0 a1 0
def laws_heldStacks.f (k : Nat) (l0_0 : List (List Int)) (a1 : Int) : Option (Int) := (laws_heldIntSS.f k l0_0 a1).bind fun t292 => (if t292 < 0 then (some (-1)) else (some t292))
end Go.Proofs.Ytnbnalbomflafaa.GD
/-! ## Ra -/
namespace Go.Proofs.Ytnbnalbomflafaa.RA
open Go.RowKit Go.Proofs.YtnbnalbomflafaaW.PrintWords Go.Proofs.YtnbnalbomflafaaW.PrintLast Go.Proofs.YtnbnalbomflafaaW.PrintMore
open Go.Proofs.Ytnbnalbomflafaa.GA
open Go.Proofs.Ytnbnalbomflafaa.GD hiding rd_L1 at_L1
set_option linter.unusedVariables false
set_option linter.unusedSimpArgs false
theorem wrap_id {x : Int} (h0 : -9223372036854775808 ≤ x) (h1 : x ≤ 9223372036854775807) : wrap64 x = x := by unfold wrap64; omega
theorem rd_at (l : List Int) (i : Nat) (h : i < l.length) : rd l (i : Int) = l[i] := by
  unfold rd
  rw [Int.toNat_natCast, List.getD_eq_getElem?_getD, List.getElem?_eq_getElem h]
  rfl
theorem eqIntS_loop (l : List Int) (hn : l.length ≤ 1000000000000) (d : Nat) : ∀ (k i : Nat), i + d = l.length → d < k → laws_eqIntS.l0 k l l (i : Int) = some true := by
  induction d with
  | zero =>
    intro k i hi hk
    obtain ⟨k, rfl⟩ : ∃ m, k = m + 1 := ⟨k - 1, by omega⟩
    simp only [laws_eqIntS.l0]
    rw [if_neg (by omega)]
  | succ d ih =>
    intro k i hi hk
    obtain ⟨k, rfl⟩ : ∃ m, k = m + 1 := ⟨k - 1, by omega⟩
    simp only [laws_eqIntS.l0]
    have e2 : wrap64 ((i : Int) + 1) = ((i + 1 : Nat) : Int) := by rw [wrap_id (by omega) (by omega)]; omega
    rw [if_pos (by omega), if_pos (by omega), if_pos (by omega), if_pos trivial, e2]
    exact ih k (i + 1) (by omega) (by omega)
theorem eqIntS_refl (l : List Int) (hn : l.length ≤ 1000000000000) (k : Nat) (hk : l.length < k) : laws_eqIntS.f k l l = some true := by
  unfold laws_eqIntS.f
  rw [if_pos rfl]
  exact eqIntS_loop l hn l.length k 0 (by omega) hk
def marks (n : Nat) (m : Int) : List Int := (List.range n).map fun (i : Nat) => m + (i : Int)
abbrev encI (r : List Int) : List Value := r.map (Value.int .i64)
def RowsL (w : World) (base : Nat) (rows : List (List Int)) (L : List Value) : Prop :=
  (∀ (i : Nat) (r : List Int), rows[i]? = some r → ∃ v, L[i]? = some v ∧ w.ownsRow base 3 1 v r.length (encI r)) ∧ ∀ (i j : Nat) (v u : Value) (k : Nat), L[i]? = some v → L[j]? = some u → i ≠ j → v.ownBlock = some k → u.ownBlock ≠ some k
def RowsD (w : World) (base : Nat) (vc : Value) (rows : List (List Int)) : Prop := ∃ L, w.ownsRow base 37 1 vc rows.length L ∧ RowsL w base rows L
section
variable {w w1 : World} {base : Nat} {vc : Value} {rows : List (List Int)} {L : List Value}
theorem RowsL.move (h : RowsL w base rows L) (hn : L.length = rows.length) (e : ∀ (i : Nat) (v : Value) (k : Nat), L[i]? = some v → v.ownBlock = some k → w1.heap[k]? = w.heap[k]?) : RowsL w1 base rows L := by
  refine ⟨fun i r hr => ?_, h.2⟩
  obtain ⟨v, h1, h2⟩ := h.1 i r hr
  exact ⟨v, h1, own_move h2 fun k hk => e i v k h1 hk⟩
theorem own_len {e : TypeId} {size n : Nat} (h : w.ownsRow base e size vc n L) : L.length = n * size := h.1
theorem RowsL.row (h : RowsL w base rows L) (hn : L.length = rows.length) {i : Nat} {v : Value} (hv : L[i]? = some v) : ∃ r, rows[i]? = some r ∧ w.ownsRow base 3 1 v r.length (encI r) := by
  have hi : i < rows.length := by rw [← hn]; exact (List.getElem?_eq_some_iff.1 hv).1
  obtain ⟨u, h1, h2⟩ := h.1 i rows[i] (List.getElem?_eq_getElem hi)
  rw [hv] at h1
  cases h1
  exact ⟨_, List.getElem?_eq_getElem hi, h2⟩
theorem RowsL.blk (h : RowsL w base rows L) (hn : L.length = rows.length) {i k : Nat} {v : Value} (hv : L[i]? = some v) (hk : v.ownBlock = some k) : base ≤ k ∧ k < w.heap.size ∧ ∃ cells, w.heap[k]? = some (.cells cells 3 (0, 0)) := by
  obtain ⟨r, _, ho⟩ := h.row hn hv
  exact ⟨own_base ho k hk, own_lt ho k hk, own_typed ho k hk⟩
theorem RowsD.nil (w : World) (base : Nat) : RowsD w base (.slice none 0 0) [] := ⟨[], own_nil _ _ _ _, fun i r h => by simp at h, fun i j v u k h => by simp at h⟩
theorem RowsD.keep (h : RowsD w base vc rows) (e : ∀ b, b < w.heap.size → w1.heap[b]? = w.heap[b]?) : RowsD w1 base vc rows := by
  obtain ⟨L, h1, h2⟩ := h
  have hn : L.length = rows.length := by have := own_len h1; omega
  exact ⟨L, own_move h1 (fun k hk => e k (own_lt h1 k hk)), h2.move hn fun i v k hv hk => e k (h2.blk hn hv hk).2.1⟩
theorem RowsD.drewN (h : RowsD w base vc rows) (n : Nat) : RowsD (w.drewN n) base vc rows := h.keep fun _ _ => by simp
theorem RowsD.alloc (h : RowsD w base vc rows) (o : Obj) : RowsD (w.alloc o) base vc rows := h.keep fun b hb => Below.heap_alloc w o b hb
theorem RowsD.below (h : RowsD w base vc rows) (hB : Below w.heap.size w w1) : RowsD w1 base vc rows := h.keep fun b hb => hB.block b hb
theorem rowI_reads {v : Value} {r : List Int} (h : w.ownsRow base 3 1 v r.length (encI r)) : ∃ A c, v = .slice A r.length c ∧ r.length ≤ c ∧ Kd.C (Kd.int .i64) w A r.length r :=
  Kd.R_reads (Kd.R_of_own (ok := fun _ => True) h (fun _ _ => trivial))
/-- Rows, as the printed contracts read them. -/
theorem rows_reads (ho : w.ownsRow base 37 1 vc rows.length L) (h : ∀ (i : Nat) (r : List Int), rows[i]? = some r → ∃ v, L[i]? = some v ∧ ∃ A c, v = .slice A r.length c ∧ r.length ≤ c ∧ Kd.C (Kd.int .i64) w A r.length r) :
    ∃ A c, vc = .slice A rows.length c ∧ rows.length ≤ c ∧ Kd.C (Kd.slice 3 (Kd.int .i64)) w A rows.length rows := by
  have hn : L.length = rows.length := by have := own_len ho; omega
  have hR : Reps (fun p c => (Kd.slice 3 (Kd.int .i64)).K w p c) 1 rows L := ⟨by omega, fun j p hp => by
    obtain ⟨v, h1, A, c, h2, h3, h4⟩ := h j p hp
    refine ⟨A, c, ?_, h3, h4⟩
    have hj := (List.getElem?_eq_some_iff.1 h1).1
    have e : L[j] = v := by rw [List.getElem?_eq_getElem hj] at h1; exact Option.some.inj h1
    rw [Nat.mul_one, List.drop_eq_getElem_cons hj, e, h2]
    rfl⟩
  obtain ⟨A, c, he, hr⟩ := own_reads_row ho hR rfl
  refine ⟨A, c, he, ?_, hr⟩
  rcases ho.2 with ⟨h1, h2⟩ | ⟨g, cap, cur, h1, _, _, h3, _⟩
  · rw [h1] at he
    injection he with _ e2 e3
    omega
  · rw [h1] at he
    injection he with _ e2 e3
    omega
theorem RowsD.reads (h : RowsD w base vc rows) : ∃ A c, vc = .slice A rows.length c ∧ rows.length ≤ c ∧ Kd.C (Kd.slice 3 (Kd.int .i64)) w A rows.length rows := by
  obtain ⟨L, h1, h2⟩ := h
  refine rows_reads h1 fun i r hr => ?_
  obtain ⟨v, q1, q2⟩ := h2.1 i r hr
  exact ⟨v, q1, rowI_reads q2⟩
/-- One more row, in a block of its own. -/
theorem RowsD.app {vc' v : Value} {r : List Int} (h1 : w.ownsRow base 37 1 vc rows.length L) (h2 : RowsL w base rows L) (hv : w1.ownsRow base 3 1 v r.length (encI r)) (hf : ∀ k, v.ownBlock = some k → w.heap.size ≤ k) (ho : w1.ownsRow base 37 1 vc' (rows.length + 1) (L ++ [v])) (e : ∀ b, b < w.heap.size → some b ≠ vc.ownBlock → w1.heap[b]? = w.heap[b]?) : RowsD w1 base vc' (rows ++ [r]) := by
  have hn : L.length = rows.length := by have := own_len h1; omega
  refine ⟨L ++ [v], by rw [List.length_append, List.length_singleton]; exact ho, fun i s hs => ?_, fun i j x y k hx hy hij hk => ?_⟩
  · rcases Nat.lt_trichotomy i rows.length with hi | hi | hi
    · rw [List.getElem?_append_left hi] at hs
      obtain ⟨u, q1, q2⟩ := h2.1 i s hs
      refine ⟨u, by rw [List.getElem?_append_left (by omega)]; exact q1, own_move q2 fun k hk => e k (own_lt q2 k hk) (fun c => ?_)⟩
      obtain ⟨cells, hc⟩ := own_typed q2 k hk
      obtain ⟨cells2, hc2⟩ := own_typed h1 k c.symm
      rw [hc] at hc2
      simp at hc2
    · subst hi
      rw [List.getElem?_append_right (Nat.le_refl _)] at hs
      simp at hs
      subst hs
      exact ⟨v, by rw [List.getElem?_append_right (by omega), hn]; simp, hv⟩
    · rw [List.getElem?_append_right (by omega)] at hs
      rw [List.getElem?_eq_none (by simp; omega)] at hs
      cases hs
  · have aux : ∀ (a : Nat) (x : Value), (L ++ [v])[a]? = some x → (a < rows.length ∧ L[a]? = some x) ∨ (a = rows.length ∧ x = v) := fun a x hx => by
      rcases Nat.lt_trichotomy a rows.length with ha | ha | ha
      · rw [List.getElem?_append_left (by omega)] at hx
        exact .inl ⟨ha, hx⟩
      · rw [List.getElem?_append_right (by omega), ha, hn] at hx
        simp at hx
        exact .inr ⟨ha, hx.symm⟩
      · rw [List.getElem?_append_right (by omega), List.getElem?_eq_none (by simp; omega)] at hx
        cases hx
    rcases aux i x hx with ⟨hi, hx2⟩ | ⟨hi, rfl⟩ <;> rcases aux j y hy with ⟨hj, hy2⟩ | ⟨hj, rfl⟩
    · exact h2.2 i j x y k hx2 hy2 hij hk
    · intro c
      have := (h2.blk hn hx2 hk).2.1
      have := hf k c
      omega
    · intro c
      have := (h2.blk hn hy2 c).2.1
      have := hf k hk
      omega
    · omega
/-- A row's place in the list. -/
theorem RowsD.at (h : w.ownsRow base 37 1 vc rows.length L) {i : Nat} {v : Value} (hv : L[i]? = some v) : ∃ g cap, vc = .slice (some ⟨g, 0, none⟩) rows.length cap ∧ base ≤ g ∧ w.cell? ⟨g, i, none⟩ = some v ∧ w.frozen? ⟨g, i, none⟩ = false := by
  have hi := (List.getElem?_eq_some_iff.1 hv).1
  have hn := own_len h
  rcases h.2 with ⟨h1, h2⟩ | ⟨g, cap, cur, h1, hb, hh, h3, h4, h5, h6⟩
  · omega
  · refine ⟨g, cap, h1, hb, (blk_cell hh i).trans ?_, blk_frozen hh i⟩
    rw [← h6, List.getElem?_take] at hv
    split at hv
    · simpa using hv
    · cases hv
/-- A row is written, in its own block. -/
theorem RowsD.put (h1 : w.ownsRow base 37 1 vc rows.length L) (h2 : RowsL w base rows L) {i : Nat} {v : Value} {r : List Int} (hi : L[i]? = some v) (hv : w1.ownsRow base 3 1 v r.length (encI r)) (e : ∀ b, b < w.heap.size → v.ownBlock ≠ some b → w1.heap[b]? = w.heap[b]?) :
    w1.ownsRow base 37 1 vc (rows.set i r).length L ∧ RowsL w1 base (rows.set i r) L := by
  have hn : L.length = rows.length := by have := own_len h1; omega
  have hil : i < rows.length := by rw [← hn]; exact (List.getElem?_eq_some_iff.1 hi).1
  rw [List.length_set]
  refine ⟨own_move h1 (fun k hk => e k (own_lt h1 k hk) (fun c => ?_)), fun j s hs => ?_, h2.2⟩
  · obtain ⟨_, _, cells, hc⟩ := h2.blk hn hi c
    obtain ⟨cells2, hc2⟩ := own_typed h1 k hk
    rw [hc] at hc2
    simp at hc2
  · by_cases q : i = j
    · subst q
      rw [List.getElem?_set_self hil] at hs
      cases hs
      exact ⟨v, hi, hv⟩
    · rw [List.getElem?_set_ne q] at hs
      obtain ⟨u, q1, q2⟩ := h2.1 j s hs
      exact ⟨u, q1, own_move q2 fun k hk => e k (own_lt q2 k hk) (fun c => h2.2 i j v u k hi q1 q c hk)⟩
end
theorem markIntS_from (n : Nat) (m : Int) (hm : 0 ≤ m ∧ m + (n : Int) ≤ 1000000000000) (d : Nat) : ∀ (k i : Nat) (l : List Int), l.length = n → i + d = n → d < k → l.take i = marks i m →
    laws_markIntS.l0 k l (m + (i : Int)) (i : Int) = some (m + (n : Int), marks n m) := by
  induction d with
  | zero =>
    intro k i l hl hi hk ht
    obtain ⟨k, rfl⟩ : ∃ m, k = m + 1 := ⟨k - 1, by omega⟩
    simp only [laws_markIntS.l0]
    obtain rfl : i = n := by omega
    rw [if_neg (by omega), ← ht, List.take_of_length_le (by omega)]
  | succ d ih =>
    intro k i l hl hi hk ht
    obtain ⟨k, rfl⟩ : ∃ m, k = m + 1 := ⟨k - 1, by omega⟩
    simp only [laws_markIntS.l0]
    have e1 : wrap64 (m + (i : Int) + 1) = m + ((i + 1 : Nat) : Int) := by rw [wrap_id (by omega) (by omega)]; omega
    have e2 : wrap64 ((i : Int) + 1) = ((i + 1 : Nat) : Int) := by rw [wrap_id (by omega) (by omega)]; omega
    rw [if_pos (by omega), if_pos (by omega), e1, e2, Int.toNat_natCast]
    refine ih k (i + 1) _ (by simpa using hl) (by omega) (by omega) ?_
    have hlt : i < l.length := by omega
    rw [List.take_add_one, List.take_set_of_le (by omega), ht]
    simp [marks, List.range_succ, hlt]
theorem markIntS_m (l : List Int) (m : Int) (hm : 0 ≤ m ∧ m + (l.length : Int) ≤ 1000000000000) (k : Nat) (hk : l.length < k) : laws_markIntS.f k l m = some (m + (l.length : Int), marks l.length m) := by
  unfold laws_markIntS.f
  have := markIntS_from l.length m hm l.length k 0 l rfl (by omega) hk (by simp [marks])
  simpa using this
theorem heldIntS_from (n : Nat) (m : Int) (hm : 0 ≤ m ∧ m + (n : Int) ≤ 1000000000000) (d : Nat) : ∀ (k i : Nat), i + d = n → d < k → laws_heldIntS.l0 k (marks n m) (m + (i : Int)) (i : Int) = some (m + (n : Int)) := by
  have hl : (marks n m).length = n := by simp [marks]
  induction d with
  | zero =>
    intro k i hi hk
    obtain ⟨k, rfl⟩ : ∃ m, k = m + 1 := ⟨k - 1, by omega⟩
    simp only [laws_heldIntS.l0]
    obtain rfl : i = n := by omega
    rw [if_neg (by omega)]
  | succ d ih =>
    intro k i hi hk
    obtain ⟨k, rfl⟩ : ∃ m, k = m + 1 := ⟨k - 1, by omega⟩
    simp only [laws_heldIntS.l0]
    have e1 : wrap64 (m + (i : Int) + 1) = m + ((i + 1 : Nat) : Int) := by rw [wrap_id (by omega) (by omega)]; omega
    have e2 : wrap64 ((i : Int) + 1) = ((i + 1 : Nat) : Int) := by rw [wrap_id (by omega) (by omega)]; omega
    have e3 : rd (marks n m) (i : Int) = m + (i : Int) := by rw [rd_at _ _ (by omega)]; simp [marks]
    rw [if_pos (by omega), if_pos (by omega), if_pos e3, e1, e2]
    exact ih k (i + 1) (by omega) (by omega)
theorem heldIntS_m (n : Nat) (m : Int) (hm : 0 ≤ m ∧ m + (n : Int) ≤ 1000000000000) (k : Nat) (hk : n < k) : laws_heldIntS.f k (marks n m) m = some (m + (n : Int)) := by
  unfold laws_heldIntS.f
  have := heldIntS_from n m hm n k 0 (by omega) hk
  simpa using this
def tot : List (List Int) → Int
  | [] => 0
  | r :: rs => (r.length : Int) + tot rs
def markRows : List (List Int) → Int → List (List Int)
  | [], _ => []
  | r :: rs, m => marks r.length m :: markRows rs (m + (r.length : Int))
theorem tot_pos : ∀ rs, 0 ≤ tot rs
  | [] => Int.le_refl _
  | r :: rs => by have := tot_pos rs; unfold tot; omega
theorem tot_app : ∀ a b, tot (a ++ b) = tot a + tot b
  | [], b => by simp [tot]
  | r :: a, b => by
    have := tot_app a b
    simp only [List.cons_append, tot, this]
    omega
theorem markRows_len : ∀ rs m, (markRows rs m).length = rs.length
  | [], _ => rfl
  | r :: rs, m => by simp [markRows, markRows_len rs]
theorem markRows_app : ∀ a b m, markRows (a ++ b) m = markRows a m ++ markRows b (m + tot a)
  | [], b, m => by simp [markRows, tot]
  | r :: a, b, m => by
    simp only [List.cons_append, markRows, tot]
    rw [markRows_app a b, Int.add_assoc]
/-- The rows in the middle of the loop. -/
def midRows (rows : List (List Int)) (m : Int) (i : Nat) : List (List Int) := markRows (rows.take i) m ++ rows.drop i
theorem mid_len (rows : List (List Int)) (m : Int) (i : Nat) : (midRows rows m i).length = rows.length := by
  unfold midRows
  rw [List.length_append, markRows_len, List.length_take, List.length_drop]
  omega
theorem mid_get {rows : List (List Int)} {m : Int} {i : Nat} (hi : i < rows.length) : (midRows rows m i)[i]? = some rows[i] := by
  unfold midRows
  rw [List.getElem?_append_right (by rw [markRows_len, List.length_take]; omega), markRows_len, List.length_take, List.getElem?_drop]
  rw [show i + (i - min i rows.length) = i by omega]
  exact List.getElem?_eq_getElem hi
theorem mid_set {rows : List (List Int)} {m : Int} {i : Nat} (hi : i < rows.length) : (midRows rows m i).set i (marks rows[i].length (m + tot (rows.take i))) = midRows rows m (i + 1) := by
  unfold midRows
  have hl : (markRows (rows.take i) m).length = i := by rw [markRows_len, List.length_take]; omega
  rw [List.take_succ_eq_append_getElem hi, markRows_app, List.drop_eq_getElem_cons hi]
  rw [List.set_append, if_neg (by omega), hl, Nat.sub_self, List.set_cons_zero, List.append_assoc]
  rfl
theorem tot_take {rows : List (List Int)} {i : Nat} (hi : i < rows.length) : tot (rows.take (i + 1)) = tot (rows.take i) + (rows[i].length : Int) := by
  rw [List.take_succ_eq_append_getElem hi, tot_app]
  simp [tot]
theorem tot_le (rows : List (List Int)) (i : Nat) : tot (rows.take i) ≤ tot rows := by
  have h := tot_app (rows.take i) (rows.drop i)
  rw [List.take_append_drop] at h
  have := tot_pos (rows.drop i)
  omega
theorem RowsD.slice {w : World} {base : Nat} {vc : Value} {rows : List (List Int)} (h : RowsD w base vc rows) : ∃ A c, vc = .slice A rows.length c ∧ rows.length ≤ c := by
  obtain ⟨A, c, h1, h2, _⟩ := h.reads
  exact ⟨A, c, h1, h2⟩
theorem rdL_at (l : List (List Int)) (i : Nat) (h : i < l.length) : rd_L1 l (i : Int) = l[i] := by
  unfold rd_L1
  rw [Int.toNat_natCast, List.getD_eq_getElem?_getD, List.getElem?_eq_getElem h]
  rfl
theorem eqIntSS_loop (l : List (List Int)) (hn : l.length ≤ 10000000) (N : Nat) (hN : ∀ r ∈ l, r.length ≤ N) (hN2 : N ≤ 10000000) (d : Nat) : ∀ (k i : Nat), i + d = l.length → N + d + 1 < k → laws_eqIntSS.l0 k l l (i : Int) = some true := by
  induction d with
  | zero =>
    intro k i hi hk
    obtain ⟨k, rfl⟩ : ∃ m, k = m + 1 := ⟨k - 1, by omega⟩
    simp only [laws_eqIntSS.l0]
    rw [if_neg (by omega)]
  | succ d ih =>
    intro k i hi hk
    obtain ⟨k, rfl⟩ : ∃ m, k = m + 1 := ⟨k - 1, by omega⟩
    have hin : i < l.length := by omega
    simp only [laws_eqIntSS.l0]
    have e2 : wrap64 ((i : Int) + 1) = ((i + 1 : Nat) : Int) := by rw [wrap_id (by omega) (by omega)]; omega
    have h3 := hN _ (List.getElem_mem hin)
    rw [if_pos (by omega), if_pos (by omega), if_pos (by omega), rdL_at l i hin, eqIntS_refl l[i] (by omega) k (by omega)]
    simp only [Option.bind_some, if_true]
    rw [e2]
    exact ih k (i + 1) (by omega) (by omega)
theorem eqIntSS_refl (l : List (List Int)) (hn : l.length ≤ 10000000) (N : Nat) (hN : ∀ r ∈ l, r.length ≤ N) (hN2 : N ≤ 10000000) : laws_eqIntSS.f (N + l.length + 2) l l = some true := by
  unfold laws_eqIntSS.f
  rw [if_pos rfl]
  exact eqIntSS_loop l hn N hN hN2 l.length _ 0 (by omega) (by omega)
/-- Rows, read: what the tests ask. -/
def RowsC (w : World) (vc : Value) (rows : List (List Int)) : Prop := ∃ A c, vc = .slice A rows.length c ∧ rows.length ≤ c ∧ Kd.C (Kd.slice 3 (Kd.int .i64)) w A rows.length rows
theorem RowsC.below {w w1 : World} {vc : Value} {rows : List (List Int)} (h : RowsC w vc rows) (hB : Below w.heap.size w w1) : RowsC w1 vc rows := by
  obtain ⟨A, c, h1, h2, h3⟩ := h
  exact ⟨A, c, h1, h2, Kd.C_below h3 hB⟩
/-- The world with its first n blocks alone. -/
def cutW (w : World) (n : Nat) : World := { w with heap := w.heap.extract 0 n }
theorem cutW_size {w : World} {n : Nat} (h : n ≤ w.heap.size) : (cutW w n).heap.size = n := by unfold cutW; simp; omega
theorem cutW_below {w : World} {n : Nat} (h : n ≤ w.heap.size) : Below (cutW w n).heap.size (cutW w n) w := by
  refine ⟨rfl, rfl, rfl, by rw [cutW_size h]; exact h, fun k hk => ?_⟩
  rw [cutW_size h] at hk
  unfold cutW
  simp only
  rw [Array.getElem?_extract, if_pos (by omega), Nat.zero_add]
theorem RowsD.moveIn {w w1 : World} {base : Nat} {vc : Value} {rows : List (List Int)} (h : RowsD w base vc rows) (e : ∀ b, base ≤ b → b < w.heap.size → w1.heap[b]? = w.heap[b]?) : RowsD w1 base vc rows := by
  obtain ⟨L, h1, h2⟩ := h
  have hn : L.length = rows.length := by have := own_len h1; omega
  exact ⟨L, own_move h1 (fun k hk => e k (own_base h1 k hk) (own_lt h1 k hk)), h2.move hn fun i v k hv hk => e k (h2.blk hn hv hk).1 (h2.blk hn hv hk).2.1⟩
theorem RowsD.upto {w w1 : World} {base n : Nat} {vc : Value} {rows : List (List Int)} (h : RowsD w base vc rows) (hB : Below w.heap.size w w1) : ∀ (L : List Value) (i : Nat) (v : Value) (k : Nat), w1.ownsRow n 37 1 vc rows.length L → L[i]? = some v → v.ownBlock = some k → k < w.heap.size := by
  intro L i v k hL hv hk
  obtain ⟨L2, h1, h2⟩ := h
  have e : L = L2 := by
    have h3 : w1.ownsRow base 37 1 vc rows.length L2 := own_move h1 fun b hb => hB.block b (own_lt h1 b hb)
    rcases hL.2 with ⟨q1, q2⟩ | ⟨g, cap, cur, q1, _, q3, _, _, _, q7⟩
    · have l1 := hL.1
      have l2 := h3.1
      rw [q2] at l1 l2
      simp at l1 l2
      rw [l1, l2]
    · rcases h3.2 with ⟨p1, _⟩ | ⟨g2, cap2, cur2, p1, _, p3, _, _, _, p7⟩
      · rw [q1] at p1; cases p1
      · rw [q1] at p1
        injection p1 with p1 _ _
        injection p1 with p1
        injection p1 with p1
        subst p1
        rw [q3] at p3
        simp at p3
        subst p3
        rw [← q7, ← p7]
  subst e
  have hn : L.length = rows.length := by have := own_len h1; omega
  exact (h2.blk hn hv hk).2.1
/-- Rows that a copy has made. -/
theorem rowsD_of_S {w : World} {base : Nat} {ok : Nat → Prop} {v : Value} {rows : List (List Int)} (h : Kd.S (Kd.slice 3 (Kd.int .i64)) 37 w base ok v rows) : RowsD w base v rows := by
  obtain ⟨f, h0, inner, ho, hr⟩ := h
  rw [List.length_zipIdx] at ho
  have hl : inner.length = rows.length := by have h1 : inner.length = rows.length * 1 := ho.1; omega
  have hat : ∀ (i : Nat) (r : List Int), rows[i]? = some r → ∃ u, inner[i]? = some u ∧ w.ownsRow base 3 1 u r.length (encI r) ∧ ∀ k, u.ownBlock = some k → f k = i := fun i r hi => by
    obtain ⟨u, h1, h2⟩ := hr.2 i (r, i) (Kd.zip_at hi)
    have hin : i < inner.length := by rw [hl]; exact (List.getElem?_eq_some_iff.1 hi).1
    have e : inner[i] = u := by
      have h1' : (inner.drop (i * 1)).take 1 = [u] := h1
      rw [Nat.mul_one, List.drop_eq_getElem_cons hin, List.take_succ_cons, List.take_zero] at h1'
      exact (List.cons.inj h1').1
    refine ⟨u, by rw [List.getElem?_eq_getElem hin, e], Kd.own_of_R h2, fun k hk => (h2.1 k hk).2⟩
  refine ⟨inner, ho, fun i r hi => ?_, fun i j x y k hx hy hij hk hk2 => ?_⟩
  · obtain ⟨u, h1, h2, _⟩ := hat i r hi
    exact ⟨u, h1, h2⟩
  · have hi : i < rows.length := by rw [← hl]; exact (List.getElem?_eq_some_iff.1 hx).1
    have hj : j < rows.length := by rw [← hl]; exact (List.getElem?_eq_some_iff.1 hy).1
    obtain ⟨u, h1, _, h3⟩ := hat i _ (List.getElem?_eq_getElem hi)
    obtain ⟨u2, h4, _, h5⟩ := hat j _ (List.getElem?_eq_getElem hj)
    rw [hx] at h1
    rw [hy] at h4
    cases h1
    cases h4
    exact hij ((h3 k hk).symm.trans (h5 k hk2))
def szR : List (List Int) → Int → Int
  | [], a => a
  | r :: rs, a => if a - (r.length : Int) < 0 then -1 else szR rs (a - (r.length : Int))
theorem szR_is : ∀ (rs : List (List Int)) (a : Int), 0 ≤ a → szR rs a = -1 ∨ (szR rs a = a - tot rs ∧ tot rs ≤ a)
  | [], a, h => .inr ⟨by simp [szR, tot], by simpa [tot] using h⟩
  | r :: rs, a, h => by
    unfold szR
    split
    · exact .inl rfl
    · rcases szR_is rs (a - (r.length : Int)) (by omega) with h1 | ⟨h1, h2⟩
      · exact .inl h1
      · exact .inr ⟨by rw [h1]; simp only [tot]; omega, by simp only [tot]; omega⟩
theorem szI_is (r : List Int) (a : Int) (h : 0 ≤ a ∧ a ≤ 1048576) (hl : (r.length : Int) ≤ 9223372036854775807) : laws_szIntS.f r a = some (if a - (r.length : Int) < 0 then -1 else a - (r.length : Int)) := by
  unfold laws_szIntS.f
  rw [wrap_id (x := a - (r.length : Int)) (by omega) (by omega)]
  split <;> rfl
theorem szSS_loop (rows : List (List Int)) (hl : (rows.length : Int) ≤ 1048576) (hr : ∀ r ∈ rows, (r.length : Int) ≤ 9223372036854775807) (d : Nat) : ∀ (k i : Nat) (a : Int), i + d = rows.length → d < k → 0 ≤ a → a ≤ 1048576 → laws_szIntSS.l0 k rows a (i : Int) = some (szR (rows.drop i) a) := by
  induction d with
  | zero =>
    intro k i a hi hk h0 h1
    obtain ⟨k, rfl⟩ : ∃ m, k = m + 1 := ⟨k - 1, by omega⟩
    simp only [laws_szIntSS.l0]
    rw [if_neg (by omega), List.drop_eq_nil_of_le (by omega)]
    rfl
  | succ d ih =>
    intro k i a hi hk h0 h1
    obtain ⟨k, rfl⟩ : ∃ m, k = m + 1 := ⟨k - 1, by omega⟩
    have hin : i < rows.length := by omega
    simp only [laws_szIntSS.l0]
    have e2 : wrap64 ((i : Int) + 1) = ((i + 1 : Nat) : Int) := by rw [wrap_id (by omega) (by omega)]; omega
    have e3 : rd_L1 rows (i : Int) = rows[i] := rdL_at rows i hin
    rw [if_pos (by omega), if_pos (by omega), e3, szI_is _ _ ⟨h0, h1⟩ (hr _ (List.getElem_mem hin)), List.drop_eq_getElem_cons hin]
    simp only [Option.bind_some]
    by_cases q : a - (rows[i].length : Int) < 0
    · rw [if_pos q, if_pos (by decide)]
      unfold szR
      rw [if_pos q]
    · rw [if_neg q, if_neg q, e2, ih k (i + 1) _ (by omega) (by omega) (by omega) (by omega)]
      conv => rhs; unfold szR
      rw [if_neg q]
theorem toS_loop (l : List Int) (hn : l.length ≤ 1048576) (d : Nat) : ∀ (k i : Nat) (x : List Int), x.length = l.length → i + d = l.length → d < k → x.take i = l.take i → laws_toIntS.l0 k l x (i : Int) = some l := by
  induction d with
  | zero =>
    intro k i x hx hi hk ht
    obtain ⟨k, rfl⟩ : ∃ m, k = m + 1 := ⟨k - 1, by omega⟩
    simp only [laws_toIntS.l0]
    rw [if_neg (by omega)]
    rw [List.take_of_length_le (by omega), List.take_of_length_le (by omega)] at ht
    rw [ht]
  | succ d ih =>
    intro k i x hx hi hk ht
    obtain ⟨k, rfl⟩ : ∃ m, k = m + 1 := ⟨k - 1, by omega⟩
    have hin : i < l.length := by omega
    simp only [laws_toIntS.l0]
    have e2 : wrap64 ((i : Int) + 1) = ((i + 1 : Nat) : Int) := by rw [wrap_id (by omega) (by omega)]; omega
    rw [if_pos (by omega), if_pos (by omega), if_pos (by omega), e2, rd_at l i hin, Int.toNat_natCast]
    refine ih k (i + 1) _ (by simpa using hx) (by omega) (by omega) ?_
    rw [List.take_succ_eq_append_getElem (by rw [List.length_set]; omega), List.take_set_of_le (by omega), ht, List.take_succ_eq_append_getElem hin]
    simp
theorem toS_is (l : List Int) (hn : l.length ≤ 1048576) (k : Nat) (hk : l.length < k) : laws_toIntS.f k l = some l := by
  unfold laws_toIntS.f
  rw [if_pos (by omega), if_pos (by omega), Int.toNat_natCast]
  exact toS_loop l hn l.length k 0 _ (by simp) (by omega) hk (by simp)
theorem toSS_loop (l : List (List Int)) (hn : l.length ≤ 1048576) (hr : ∀ r ∈ l, r.length ≤ 1048576) (d : Nat) : ∀ (k i : Nat) (x : List (List Int)), x.length = l.length → i + d = l.length → 1048576 + d + 1 < k → x.take i = l.take i → laws_toIntSS.l0 k l x (i : Int) = some l := by
  induction d with
  | zero =>
    intro k i x hx hi hk ht
    obtain ⟨k, rfl⟩ : ∃ m, k = m + 1 := ⟨k - 1, by omega⟩
    simp only [laws_toIntSS.l0]
    rw [if_neg (by omega)]
    rw [List.take_of_length_le (by omega), List.take_of_length_le (by omega)] at ht
    rw [ht]
  | succ d ih =>
    intro k i x hx hi hk ht
    obtain ⟨k, rfl⟩ : ∃ m, k = m + 1 := ⟨k - 1, by omega⟩
    have hin : i < l.length := by omega
    simp only [laws_toIntSS.l0]
    have e2 : wrap64 ((i : Int) + 1) = ((i + 1 : Nat) : Int) := by rw [wrap_id (by omega) (by omega)]; omega
    have e3 : rd_L1 l (i : Int) = l[i] := rdL_at l i hin
    have h1 := hr _ (List.getElem_mem hin)
    rw [if_pos (by omega), if_pos (by omega), e3, toS_is l[i] h1 k (by omega)]
    simp only [Option.bind_some]
    rw [if_pos (by omega), e2, Int.toNat_natCast]
    refine ih k (i + 1) _ (by simpa using hx) (by omega) (by omega) ?_
    rw [List.take_succ_eq_append_getElem (by rw [List.length_set]; omega), List.take_set_of_le (by omega), ht, List.take_succ_eq_append_getElem hin]
    simp
theorem toSS_is (l : List (List Int)) (hn : l.length ≤ 1048576) (hr : ∀ r ∈ l, r.length ≤ 1048576) : laws_toIntSS.f (1048576 + l.length + 2) l = some l := by
  unfold laws_toIntSS.f
  rw [if_pos (by omega), if_pos (by omega), Int.toNat_natCast]
  exact toSS_loop l hn hr l.length _ 0 _ (by simp) (by omega) (by omega) (by simp)
theorem tot_mem {rows : List (List Int)} : ∀ r ∈ rows, (r.length : Int) ≤ tot rows := fun r hr => by
  obtain ⟨i, hi, rfl⟩ := List.mem_iff_getElem.1 hr
  have h1 := tot_take hi
  have h2 := tot_le rows (i + 1)
  have h3 := tot_pos (rows.take i)
  omega
def RowsU (w : World) (base u : Nat) (vc : Value) (rows : List (List Int)) : Prop := RowsD w base vc rows ∧ (∀ k, vc.ownBlock = some k → k < u) ∧ ∀ (L : List Value) (i : Nat) (v : Value) (k : Nat), w.ownsRow base 37 1 vc rows.length L → L[i]? = some v → v.ownBlock = some k → k < u
theorem RowsD.toU {w : World} {base : Nat} {vc : Value} {rows : List (List Int)} (h : RowsD w base vc rows) : RowsU w base w.heap.size vc rows :=
  ⟨h, fun k hk => by obtain ⟨L, h1, _⟩ := h; exact own_lt h1 k hk, h.upto (Below.refl _ _)⟩
theorem RowsU.reads {w : World} {base u : Nat} {vc : Value} {rows : List (List Int)} (h : RowsU w base u vc rows) : RowsC w vc rows := h.1.reads
theorem RowsU.moveIn {w w1 : World} {base u : Nat} {vc : Value} {rows : List (List Int)} (h : RowsU w base u vc rows) (e : ∀ b, base ≤ b → b < u → w1.heap[b]? = w.heap[b]?) : RowsU w1 base u vc rows := by
  obtain ⟨⟨L, h1, h2⟩, h3, h4⟩ := h
  have hn : L.length = rows.length := by have := own_len h1; omega
  refine ⟨⟨L, own_move h1 (fun k hk => e k (own_base h1 k hk) (h3 k hk)), h2.move hn fun i v k hv hk => e k (h2.blk hn hv hk).1 (h4 L i v k h1 hv hk)⟩, h3, fun L2 i v k hL hv hk => ?_⟩
  exact h4 L2 i v k (own_move hL fun k hk => (e k (own_base hL k hk) (h3 k hk)).symm) hv hk
theorem RowsU.below {w w1 : World} {base u : Nat} {vc : Value} {rows : List (List Int)} (h : RowsU w base u vc rows) (hu : u ≤ w.heap.size) (hB : Below w.heap.size w w1) : RowsU w1 base u vc rows := h.moveIn fun b _ hb => hB.block b (by omega)
theorem RowsU.drewN {w : World} {base u : Nat} {vc : Value} {rows : List (List Int)} (h : RowsU w base u vc rows) (n : Nat) : RowsU (w.drewN n) base u vc rows := h.moveIn fun _ _ _ => by simp
def MarkU (w : World) (n u : Nat) (vc : Value) (rows : List (List Int)) (m : Int) (e : Ending) (w' : World) : Prop := e = .returned (.int .i64 (m + tot rows)) ∧ Below n w w' ∧ Aside0 (RowsU w' n u vc (markRows rows m)) ∧ Aside0 (∀ b, u ≤ b → b < w.heap.size → w'.heap[b]? = w.heap[b]?)
theorem own_same {w w1 : World} {base n : Nat} {vc : Value} {L L2 : List Value} (h1 : w.ownsRow base 37 1 vc n L) (h2 : w1.ownsRow base 37 1 vc n L2) (e : ∀ k, vc.ownBlock = some k → w1.heap[k]? = w.heap[k]?) : L = L2 := by
  have h3 : w1.ownsRow base 37 1 vc n L := own_move h1 e
  rcases h3.2 with ⟨q1, q2⟩ | ⟨g, cap, cur, q1, _, q3, _, _, _, q7⟩
  · have l1 := h3.1
    have l2 := h2.1
    rw [q2] at l1 l2
    simp at l1 l2
    rw [l1, l2]
  · rcases h2.2 with ⟨p1, _⟩ | ⟨g2, cap2, cur2, p1, _, p3, _, _, _, p7⟩
    · rw [q1] at p1; cases p1
    · rw [q1] at p1
      injection p1 with p1 _ _
      injection p1 with p1
      injection p1 with p1
      subst p1
      rw [q3] at p3
      simp at p3
      subst p3
      rw [← q7, ← p7]
set_option maxHeartbeats 4000000 in
set_option maxRecDepth 100000 in
theorem markIntSS_U (n u : Nat) (w : World) (hn : n ≤ w.heap.size) (vc : Value) (rows : List (List Int)) (m : Int) (hh : RowsU w n u vc rows) (hm : 0 ≤ m ∧ m + tot rows ≤ 1000000000) (hl : rows.length ≤ 10000000) : Calls Try.prog 67 #[vc, .int .i64 m] w (MarkU w n u vc rows m) := by
  obtain ⟨h, hvu, hu⟩ := hh
  obtain ⟨A, cap, hvc, hcap⟩ := h.slice
  subst hvc
  obtain ⟨L, hL, hE⟩ := h
  have HU : Aside0 (∀ (i : Nat) (v : Value) (k : Nat), L[i]? = some v → v.ownBlock = some k → k < u) := ⟨fun i v k => hu L i v k hL⟩
  have HVU := Aside0.mk hvu
  have HL := Aside0.mk (And.intro hL hE)
  obtain ⟨w0, hw0⟩ : ∃ w0, w0 = cutW w n := ⟨_, rfl⟩
  have HN : Aside0 (w0.heap.size = n) := ⟨by rw [hw0]; exact cutW_size hn⟩
  have HB0 : Aside0 (Below w0.heap.size w0 w) := ⟨by rw [hw0]; exact cutW_below hn⟩
  clear hL hE hu hvu hw0
  go_enter Try.func67, Try.ntmps67
  go_wp2_with (fail)
  go_loopg [1, 5] rows.length (fun q v1 v5 wr => ∃ (i : Nat), v1 = .int .i64 (m + tot (rows.take i)) ∧ v5 = .int .i64 (i : Int) ∧ Aside0 (i + q = rows.length) ∧ Aside0 (wr.ownsRow n 37 1 (.slice A rows.length cap) rows.length L ∧ RowsL wr n (midRows rows m i) L) ∧ Aside0 (Below n w wr) ∧ Aside0 (∀ b, u ≤ b → b < w.heap.size → wr.heap[b]? = w.heap[b]?))
  case atStart => exact ⟨0, by simp [tot], rfl, ⟨by omega⟩, ⟨by simpa [midRows, markRows] using HL.out⟩, ⟨Below.refl _ _⟩, ⟨fun _ _ _ => rfl⟩⟩
  case round =>
    clear HL
    obtain ⟨i, rfl, rfl, HI, HL, HB, HK⟩ := hrel
    cases gk with
    | zero =>
      have hi : ¬ ((i : Int) < (rows.length : Int)) := by have := HI.out; omega
      have hir : i = rows.length := by have := HI.out; omega
      subst hir
      have e1 : Aside0 (rows.take rows.length = rows ∧ midRows rows m rows.length = markRows rows m) := ⟨by rw [List.take_of_length_le (Nat.le_refl _)]; simp [midRows]⟩
      go_wp2_with (fail)
      go_ret
      refine ⟨by first | rfl | (rw [e1.out.1]; rfl), HB.out, ⟨⟨L, ?_, ?_⟩, HVU.out, fun L2 i v k hL2 hv hk => ?_⟩, HK⟩
      · rw [markRows_len]; exact HL.out.1
      · rw [← e1.out.2]; exact HL.out.2
      · rw [markRows_len] at hL2
        have := own_same HL.out.1 hL2 (fun _ _ => rfl)
        subst this
        exact HU.out i v k hv hk
    | succ q =>
      have hin : i < rows.length := by have := HI.out; omega
      have hi : (i : Int) < (rows.length : Int) := by omega
      have hw := wrap_id (x := (i : Int) + 1) (by omega) (by omega)
      obtain ⟨v, hv, hown⟩ := HL.out.2.1 i rows[i] (mid_get hin)
      have ho1 := HL.out.1
      have ho2 : wr.ownsRow n 37 1 (.slice A rows.length cap) (midRows rows m i).length L := by rw [mid_len]; exact ho1
      obtain ⟨g, cap', hA, _, hcell, _⟩ := RowsD.at ho2 hv
      injection hA with hA hA2 hA3
      clear hA2
      subst hA hA3
      have hmm : 0 ≤ m + tot (rows.take i) ∧ m + tot (rows.take i) + (rows[i].length : Int) ≤ 1000000000000 := by
        have h1 := tot_pos (rows.take i)
        have h2 := tot_le rows (i + 1)
        rw [tot_take hin] at h2
        omega
      have HM := Aside0.mk (markIntS_m rows[i] _ hmm (rows[i].length + 1) (by omega))
      have HT := Aside0.mk (tot_take hin)
      have HS := Aside0.mk (mid_set (m := m) hin)
      have HV := Aside0.mk (And.intro hv hown)
      have hR : Aside0 (Kd.R (Kd.int .i64) 3 wr w0.heap.size (fun k => v.ownBlock = some k) v rows[i]) := ⟨by rw [HN.out]; exact Kd.R_of_own hown (fun _ hk => hk)⟩
      have HBw : Aside0 (Below w0.heap.size w0 wr) := ⟨HB0.out.trans (by rw [HN.out]; exact HB.out)⟩
      clear hv hown ho1 ho2 hmm
      generalize rows[i] = r at *
      generalize hmi : m + tot (rows.take i) = mi at *
      replace hmi := Aside0.mk hmi
      go_wp2_with (first | (go_at_call 36; refine (laws_markIntS.calls (r.length + 1) (fun k => v.ownBlock = some k) v r mi _ _ w0 _ HBw.out hR.out HM.out).mono ?_; rintro e w1 ⟨rfl, ho, hb, hk⟩; have HK1 := Aside0.mk hk; have HO := Aside0.mk (Kd.own_of_R ho); have HB1 := Aside0.mk hb; clear ho hb hk))
      go_roundg q
      case measure => omega
      case rel =>
        have hown1 : w1.ownsRow n 3 1 v (marks r.length mi).length (encI (marks r.length mi)) := by have := HO.out; rw [HN.out] at this; exact this
        have hput := RowsD.put (w1 := w1) (r := marks r.length mi) (by rw [mid_len]; exact HL.out.1) HL.out.2 HV.out.1 hown1 (fun b hb hne => HK1.out.2 b hb (fun c => hne c))
        rw [HS.out] at hput
        rw [mid_len] at hput
        have hb1 : Below n w w1 := by
          have h1 := HB1.out
          rw [HN.out] at h1
          have h0 := HB0.out
          rw [HN.out] at h0
          refine ⟨h1.os.trans h0.os.symm, h1.tape.trans h0.tape.symm, h1.output.trans h0.output.symm, Nat.le_trans HB.out.size HK1.out.1, fun k hk => (h1.block k hk).trans (h0.block k hk).symm⟩
        refine ⟨i + 1, by rw [HT.out, ← Int.add_assoc, hmi.out], by first | rfl | go_num, ⟨by have := HI.out; omega⟩, ⟨hput⟩, ⟨hb1⟩, ⟨fun b h1 h2 => ?_⟩⟩
        exact (HK1.out.2 b (by have := HB.out.size; omega) (fun c => by have := HU.out i v b HV.out.1 c; omega)).trans (HK.out b h1 h2)
def ListD (w : World) (base : Nat) (v : Value) (l : List Int) : Prop := w.ownsRow base 3 1 v l.length (encI l)
def ListC (w : World) (v : Value) (l : List Int) : Prop := ∃ A c, v = .slice A l.length c ∧ l.length ≤ c ∧ Kd.C (Kd.int .i64) w A l.length l
def ListU (w : World) (base u : Nat) (v : Value) (l : List Int) : Prop := ListD w base v l ∧ ∀ k, v.ownBlock = some k → k < u
theorem ListC.below {w w1 : World} {v : Value} {l : List Int} (h : ListC w v l) (hB : Below w.heap.size w w1) : ListC w1 v l := by
  obtain ⟨A, c, h1, h2, h3⟩ := h
  exact ⟨A, c, h1, h2, Kd.C_below h3 hB⟩
theorem ListD.reads {w : World} {base : Nat} {v : Value} {l : List Int} (h : ListD w base v l) : ListC w v l := rowI_reads h
theorem ListD.toU {w : World} {base : Nat} {v : Value} {l : List Int} (h : ListD w base v l) : ListU w base w.heap.size v l := ⟨h, fun k hk => own_lt h k hk⟩
theorem ListU.reads {w : World} {base u : Nat} {v : Value} {l : List Int} (h : ListU w base u v l) : ListC w v l := h.1.reads
theorem ListU.moveIn {w w1 : World} {base u : Nat} {v : Value} {l : List Int} (h : ListU w base u v l) (e : ∀ b, base ≤ b → b < u → w1.heap[b]? = w.heap[b]?) : ListU w1 base u v l :=
  ⟨own_move h.1 fun k hk => e k (own_base h.1 k hk) (h.2 k hk), h.2⟩
theorem ListU.below {w w1 : World} {base u : Nat} {v : Value} {l : List Int} (h : ListU w base u v l) (hu : u ≤ w.heap.size) (hB : Below w.heap.size w w1) : ListU w1 base u v l := h.moveIn fun b _ hb => hB.block b (by omega)
theorem ListU.drewN {w : World} {base u : Nat} {v : Value} {l : List Int} (h : ListU w base u v l) (n : Nat) : ListU (w.drewN n) base u v l := h.moveIn fun _ _ _ => by simp
theorem ListC.max {w : World} {v : Value} {l : List Int} (h : ListC w v l) : (l.length : Int) ≤ 9223372036854775807 := by
  obtain ⟨A, c, _, _, h3⟩ := h
  have := h3.2.1
  omega
def MarkL (w : World) (n u : Nat) (v : Value) (l : List Int) (m : Int) (e : Ending) (w' : World) : Prop := e = .returned (.int .i64 (m + (l.length : Int))) ∧ Below n w w' ∧ Aside0 (ListU w' n u v (marks l.length m)) ∧ Aside0 (∀ b, u ≤ b → b < w.heap.size → w'.heap[b]? = w.heap[b]?)
theorem markIntS_U (n u : Nat) (w : World) (hn : n ≤ w.heap.size) (v : Value) (l : List Int) (m : Int) (h : ListU w n u v l) (hm : 0 ≤ m ∧ m + (l.length : Int) ≤ 1000000000) : Calls Try.prog 36 #[v, .int .i64 m] w (MarkL w n u v l m) := by
  have hs := cutW_size hn
  have hb := cutW_below hn
  have hR : Kd.R (Kd.int .i64) 3 w (cutW w n).heap.size (fun k => v.ownBlock = some k) v l := by rw [hs]; exact Kd.R_of_own h.1 (fun _ hk => hk)
  refine (laws_markIntS.calls (l.length + 1) (fun k => v.ownBlock = some k) v l m _ _ (cutW w n) w hb hR (markIntS_m l m (by omega) (l.length + 1) (by omega))).mono ?_
  rintro e w1 ⟨rfl, ho, h1, hk⟩
  rw [hs] at h1 hb
  have ho2 := Kd.own_of_R ho
  rw [hs] at ho2
  exact ⟨rfl, ⟨h1.os.trans hb.os.symm, h1.tape.trans hb.tape.symm, h1.output.trans hb.output.symm, hk.1, fun k hlt => (h1.block k hlt).trans (hb.block k hlt).symm⟩, ⟨ho2, h.2⟩, ⟨fun b h2 h3 => hk.2 b h3 fun c => by have := h.2 b c; omega⟩⟩
theorem eqIntS_calls (w : World) (v u : Value) (l : List Int) (hv : ListC w v l) (hu : ListC w u l) (hn : l.length ≤ 10000000) : Calls Try.prog 30 #[v, u] w fun e w' => e = .returned (.bool true) ∧ Drawn0 w w' := by
  obtain ⟨A, c, rfl, hc, hC⟩ := hv
  obtain ⟨A2, c2, rfl, hc2, hC2⟩ := hu
  exact laws_eqIntS.calls (l.length + 2) A c l A2 c2 l true w hC hc hC2 hc2 (eqIntS_refl l (by omega) _ (by omega))
theorem heldIntS_calls (w : World) (v : Value) (l : List Int) (m : Int) (hv : ListC w v (marks l.length m)) (hm : 0 ≤ m ∧ m + (l.length : Int) ≤ 1000000000) : Calls Try.prog 37 #[v, .int .i64 m] w fun e w' => e = .returned (.int .i64 (m + (l.length : Int))) ∧ Drawn0 w w' := by
  obtain ⟨A, c, rfl, hc, hC⟩ := hv
  exact laws_heldIntS.calls (l.length + 2) A c (marks l.length m) m _ w hC hc (heldIntS_m l.length m (by omega) _ (by omega))
def SmallL (l : List Int) : Prop := (l.length : Int) ≤ 1048576
theorem toIntS_calls (w : World) (v : Value) (l : List Int) (h : ListC w v l) (hn : l.length ≤ 1048576) : Calls Try.prog 28 #[v] w fun e w' => ∃ u, e = .returned u ∧ Below w.heap.size w w' ∧ Aside0 (ListD w' w.heap.size u l) := by
  obtain ⟨A, c, rfl, hc, hC⟩ := h
  refine (laws_toIntS.calls (l.length + 1) A c l l w hC hc (toS_is l hn _ (by omega))).mono ?_
  rintro e w' ⟨u, rfl, hR, hB⟩
  exact ⟨u, rfl, hB, ⟨Kd.own_of_R hR⟩⟩
/-- The size test, with what it tells. -/
def Small (l : List (List Int)) : Prop := l.length ≤ 1048576 ∧ tot l ≤ 1048576 ∧ ∀ r ∈ l, r.length ≤ 1048576
theorem RowsC.maxs {w : World} {vc : Value} {rows : List (List Int)} (h : RowsC w vc rows) : (rows.length : Int) ≤ 9223372036854775807 ∧ ∀ r ∈ rows, (r.length : Int) ≤ 9223372036854775807 := by
  obtain ⟨A, c, rfl, hc, hC⟩ := h
  refine ⟨by have := hC.2.1; omega, fun r hr => ?_⟩
  obtain ⟨i, hi, rfl⟩ := List.mem_iff_getElem.1 hr
  obtain ⟨ad, A0, c0, _, _, _, h4⟩ := at_L1 hC (i : Int) (by omega) (by omega)
  rw [rdL_at rows i hi] at h4
  have := h4.2.1
  omega
def szZ (l : List (List Int)) (x : Int) : Int := if x - (l.length : Int) < 0 then -1 else szR l (x - (l.length : Int))
theorem szZ_is (rows : List (List Int)) (x : Int) (hx : 0 ≤ x ∧ x ≤ 1048576) : szZ rows x = -1 ∨ (0 ≤ szZ rows x ∧ szZ rows x ≤ 1048576 ∧ Small rows) := by
  unfold szZ
  split
  · exact .inl rfl
  · rcases szR_is rows (x - (rows.length : Int)) (by omega) with h1 | ⟨h1, h2⟩
    · exact .inl h1
    · have h3 := tot_pos rows
      refine .inr ⟨by omega, by omega, by omega, by omega, fun r hr => ?_⟩
      have := tot_mem r hr
      omega
theorem szSS_f (rows : List (List Int)) (x : Int) (hx : 0 ≤ x ∧ x ≤ 1048576) (hl : (rows.length : Int) ≤ 9223372036854775807) (hr : ∀ r ∈ rows, (r.length : Int) ≤ 9223372036854775807) : laws_szIntSS.f (rows.length + 1) rows x = some (szZ rows x) := by
  unfold laws_szIntSS.f szZ
  rw [wrap_id (x := x - (rows.length : Int)) (by omega) (by omega)]
  by_cases q : x - (rows.length : Int) < 0
  · rw [if_pos q, if_pos q]
  · rw [if_neg q, if_neg q]
    have := szSS_loop rows (by omega) hr rows.length (rows.length + 1) 0 (x - (rows.length : Int)) (by omega) (by omega) (by omega) (by omega)
    rw [show ((0 : Nat) : Int) = 0 from rfl, List.drop_zero] at this
    exact this
def FitsL (R : List Int) : Prop := R.length ≤ 1000000
theorem eqL_c (w : World) (v u : Value) (l : List Int) (hv : ListC w v l) (hu : ListC w u l) (hs : SmallL l) : Calls Try.prog 30 #[v, u] w fun e w' => e = .returned (.bool true) ∧ Drawn0 w w' :=
  eqIntS_calls w v u l hv hu (by unfold SmallL at hs; omega)
theorem eqRL_c (w : World) (v u : Value) (l : List Int) (hv : ListC w v l) (hu : ListC w u l) (hs : FitsL l) : Calls Try.prog 30 #[v, u] w fun e w' => e = .returned (.bool true) ∧ Drawn0 w w' :=
  eqIntS_calls w v u l hv hu (by unfold FitsL at hs; omega)
theorem heldRL_c (w : World) (v : Value) (R : List Int) (h : ListC w v (marks R.length 1)) (hf : FitsL R) : Calls Try.prog 37 #[v, .int .i64 1] w fun e w' => e = .returned (.int .i64 (1 + (R.length : Int))) ∧ Drawn0 w w' :=
  heldIntS_calls w v R 1 h (by unfold FitsL at hf; omega)
theorem markRL_U (n u : Nat) (w : World) (hn : n ≤ w.heap.size) (v : Value) (R : List Int) (m : Int) (hm1 : m = 1) (h : ListU w n u v R) (hf : FitsL R) : Calls Try.prog 36 #[v, .int .i64 m] w (MarkL w n u v R m) :=
  markIntS_U n u w hn v R m h (by unfold FitsL at hf; omega)
theorem markL_U (n u : Nat) (w : World) (hn : n ≤ w.heap.size) (v : Value) (l : List Int) (m : Int) (h : ListU w n u v l) (hs : SmallL l) (hm : 0 ≤ m + (l.length : Int) ∧ m + (l.length : Int) ≤ 100000000) (h0 : 0 ≤ m) : Calls Try.prog 36 #[v, .int .i64 m] w (MarkL w n u v l m) :=
  markIntS_U n u w hn v l m h (by omega)
end Go.Proofs.Ytnbnalbomflafaa.RA
/-! ## Rb -/
namespace Go.Proofs.Ytnbnalbomflafaa.RA
open Go.RowKit Go.Proofs.YtnbnalbomflafaaW.PrintWords Go.Proofs.YtnbnalbomflafaaW.PrintLast Go.Proofs.YtnbnalbomflafaaW.PrintMore
open Go.Proofs.Ytnbnalbomflafaa.GA
open Go.Proofs.Ytnbnalbomflafaa.GD hiding rd_L1 at_L1
set_option linter.unusedVariables false
set_option linter.unusedSimpArgs false
theorem RowsU.moveIn' {w w1 : World} {base u : Nat} {vc : Value} {rows : List (List Int)} (h : RowsU w base u vc rows) (e : ∀ b, b < w.heap.size → w1.heap[b]? = w.heap[b]?) : RowsU w1 base u vc rows := by
  obtain ⟨⟨L, h1, h2⟩, h3, h4⟩ := h
  have hn : L.length = rows.length := by have := own_len h1; omega
  refine ⟨⟨L, own_move h1 (fun k hk => e k (own_lt h1 k hk)), h2.move hn fun i v k hv hk => e k (h2.blk hn hv hk).2.1⟩, h3, fun L2 i v k hL hv hk => ?_⟩
  exact h4 L2 i v k (own_move hL fun k hk => (e k (own_lt h1 k hk)).symm) hv hk
theorem cell_same {w w1 : World} {g : Nat} (h : w1.heap[g]? = w.heap[g]?) (i : Nat) : w1.cell? ⟨g, i, none⟩ = w.cell? ⟨g, i, none⟩ := by
  unfold World.cell?
  simp only [h]
theorem box_10 (w : World) (v : Value) (t : TypeId) : (w.alloc (.cells #[v] t)).cell? ⟨w.heap.size, 0, none⟩ = some v := (blk_cell (blk_new w _) 0).trans rfl
theorem toL_c (w : World) (v : Value) (l : List Int) (h : ListC w v l) (hs : SmallL l) : Calls Try.prog 28 #[v] w fun e w' => ∃ u, e = .returned u ∧ Below w.heap.size w w' ∧ Aside0 (ListD w' w.heap.size u l) := toIntS_calls w v l h (by unfold SmallL at hs; omega)
theorem szG_c (w : World) (v : Value) (l : List (List Int)) (h : RowsC w v l) (x : Int) (hx : 0 ≤ x ∧ x ≤ 1048576) : Calls Try.prog 19 #[.agg #[v], .int .i64 x] w fun e w' => e = .returned (.int .i64 (szZ l x)) ∧ Below w.heap.size w w' := by
  have h2 := szSS_f l x hx h.maxs.1 h.maxs.2
  have h3 := szZ_is l x hx
  obtain ⟨A, c, rfl, hc, hC⟩ := h
  refine laws_szGraph.calls (l.length + 1) A c l x _ w hC hc ?_
  unfold laws_szGraph.f
  rw [h2, Option.bind_some]
  rcases h3 with h3 | ⟨h3, _⟩
  · rw [h3]; rfl
  · rw [if_neg (by omega)]
theorem toG_c (w : World) (v : Value) (l : List (List Int)) (h : RowsC w v l) (hs : Small l) : Calls Try.prog 21 #[.agg #[v]] w fun e w' => ∃ u, e = .returned (.agg #[u]) ∧ Below w.heap.size w w' ∧ Aside0 (RowsD w' w.heap.size u l) := by
  obtain ⟨A, c, rfl, hc, hC⟩ := h
  refine (laws_toGraph.calls (1048576 + l.length + 2) A c l l w hC hc ?_).mono ?_
  · unfold laws_toGraph.f
    rw [toSS_is l hs.1 hs.2.2]
    rfl
  · rintro e w' ⟨u, rfl, hS, hB⟩
    exact ⟨u, rfl, hB, ⟨rowsD_of_S hS⟩⟩
theorem eqG_c (w : World) (v u : Value) (l : List (List Int)) (hv : RowsC w v l) (hu : RowsC w u l) (hs : Small l) : Calls Try.prog 24 #[.agg #[v], .agg #[u]] w fun e w' => e = .returned (.bool true) ∧ Below w.heap.size w w' := by
  obtain ⟨A, c, rfl, hc, hC⟩ := hv
  obtain ⟨A2, c2, rfl, hc2, hC2⟩ := hu
  refine laws_eqGraph.calls (1048576 + l.length + 2) A c l A2 c2 l true w hC hc hC2 hc2 ?_
  unfold laws_eqGraph.f
  rw [eqIntSS_refl l (by have := hs.1; omega) 1048576 hs.2.2 (by decide)]
  rfl
set_option maxHeartbeats 1000000 in
set_option maxRecDepth 100000 in
theorem markG_F (n u : Nat) (w : World) (hn : n ≤ w.heap.size) (v : Value) (l : List (List Int)) (m : Int) (h : RowsU w n u v l) (hm : m + tot l ≤ 1000000000) (hl : l.length ≤ 10000000) (h0 : 0 ≤ m) : Calls Try.prog 35 #[.agg #[v], .int .i64 m] w (MarkU w n u v l m) := by
  have HM := Aside0.mk (markIntSS_U n u (w.alloc (.cells #[v] 30)) (by simp; omega) v l m (h.moveIn' (fun b hb => Below.heap_alloc w _ b hb)) (by omega) hl)
  obtain ⟨A, c, hv, hc⟩ := h.1.slice
  subst hv
  have q0 := (blk_cell (blk_new w (.cells #[.slice A l.length c] 30)) 0).trans rfl
  go_enter Try.func35, Try.ntmps35
  go_wp2_with (first | (go_at_call 67; refine HM.out.mono ?_; rintro e w1 ⟨rfl, hB, hU, hK⟩))
  go_ret
  refine ⟨rfl, ⟨hB.os, hB.tape, hB.output, Nat.le_trans (by simp) hB.size, fun k hk => (hB.block k hk).trans (Below.heap_alloc w _ k (by omega))⟩, hU, ⟨fun b h1 h2 => (hK.out b h1 (by simp; omega)).trans (Below.heap_alloc w _ b h2)⟩⟩
theorem markG_U (n u : Nat) (w : World) (hn : n ≤ w.heap.size) (v : Value) (l : List (List Int)) (m : Int) (h : RowsU w n u v l) (hs : Small l) (hm : 0 ≤ m + tot l ∧ m + tot l ≤ 100000000) (h0 : 0 ≤ m) : Calls Try.prog 35 #[.agg #[v], .int .i64 m] w (MarkU w n u v l m) :=
  markG_F n u w hn v l m h (by omega) (by have := hs.1; omega) h0
end Go.Proofs.Ytnbnalbomflafaa.RA
/-! ## Kt -/
namespace Go.Proofs.Ytnbnalbomflafaa.KA
open Go.RowKit Go.Proofs.YtnbnalbomflafaaW.PrintWords Go.Proofs.YtnbnalbomflafaaW.PrintLast Go.Proofs.YtnbnalbomflafaaW.PrintMore
open Go.Proofs.Ytnbnalbomflafaa.GA
open Go.Shelf Go.Lib
set_option linter.unusedVariables false
set_option linter.unusedSimpArgs false
theorem pred122 (ad : Addr) (n c : Nat) (B B2 i m : Nat) (A1 : Option Addr) (c1 : Nat) (w : World) (hB : B < w.heap.size) (hB2 : B2 < w.heap.size) (hcell : w.cell? ⟨B, 0, none⟩ = some (.slice (some ad) n c)) (hp : w.cell? ⟨B2, 0, none⟩ = some (.int .i64 (i : Int)))
    (hrow : w.cell? (ad.add i) = some (.slice A1 m c1)) (hi : i < n) (h1 : m ≤ 100) :
    PredAt Try.prog 122 #[.pointer (some ⟨B, 0, none⟩), .pointer (some ⟨B2, 0, none⟩)] (Value.int .i64) (fun q => !inB q 0 ((m : Int) - 1)) w := fun W x hb => by
  have hc : W.cell? ⟨B, 0, none⟩ = some (.slice (some ad) n c) := (hb.cell (p := ⟨B, 0, none⟩) hB).trans hcell
  have hc2 : W.cell? ⟨B2, 0, none⟩ = some (.int .i64 (i : Int)) := (hb.cell (p := ⟨B2, 0, none⟩) hB2).trans hp
  have hc3 : W.cell? (ad.add i) = some (.slice A1 m c1) := (hb.cell (World.block_lt_of_cell? w _ hrow)).trans hrow
  have HI := in_eq x 0 ((m : Int) - 1)
  have hi1 : (0 : Int) ≤ (i : Int) := by omega
  have hi2 : (i : Int) < (n : Int) := by omega
  show Calls Try.prog 122 #[.int .i64 x, .pointer (some ⟨B, 0, none⟩), .pointer (some ⟨B2, 0, none⟩)] W _
  obtain ⟨b, hbb⟩ : ∃ b, b = inB x 0 ((m : Int) - 1) := ⟨_, rfl⟩
  rw [← hbb] at HI
  replace HI := Aside0.mk HI
  replace hbb := Aside0.mk hbb
  clear hcell hp hrow
  cases b
  all_goals go_enter Try.func122, Try.ntmps122
  all_goals go_wp2_with (go_at_call 77; (with_reducible refine (impl_in.calls x 0 ((m : Int) - 1) _ _ HI.out).mono ?_); rintro e w' ⟨rfl, ⟨nd, rfl⟩⟩)
  all_goals (go_ret; exact ⟨by rw [← hbb.out]; rfl, nd, rfl⟩)
theorem enters122 : ∀ args w, (callFunc 122 args).run Try.prog w = .ok (.enter 122 args) w := enters_of Try.func122 (by kernel_rfl) rfl
def okStack (n : Nat) (row : List Int) : Bool := decide (row.length ≤ 12) && !(row.any fun q => !inB q 0 ((n : Int) - 1))
/-- Each list is fine for the exits of its place. -/
def okStacks : List (List Int) → List (List Int) → Bool
  | e :: l, r :: s => okStack e.length r && okStacks l s
  | _, _ => true
def stacksB (l : List (List Int)) (a : Int) (s : List (List Int)) : Bool := placeB l a && decide (s.length = l.length) && decide ((s.getD a.toNat []).length = 0) && okStacks l s
def impl_areStacks.f (l0_0 : List (List Int)) (a1 : Int) (l2_0 : List (List Int)) : Option Bool := some (stacksB l0_0 a1 l2_0)
theorem at_row' {w : World} {ad : Addr} {l : List (List Int)} (h : Kd.C (Kd.slice 3 (Kd.int .i64)) w (some ad) l.length l) (i : Nat) (hi : i < l.length) :
    ∃ A1 c1, w.cell? (ad.add i) = some (.slice A1 l[i].length c1) ∧ l[i].length ≤ c1 ∧ Kd.C (Kd.int .i64) w A1 l[i].length l[i] := by
  obtain ⟨ad', A1, c1, e, hx, hl, hc⟩ := at_row h i hi
  injection e with e
  subst e
  exact ⟨A1, c1, hx, hl, hc⟩
theorem box3 (W : World) (v : Value) : (W.alloc (.cells #[v] 3)).cell? ⟨W.heap.size, 0, none⟩ = some v := (blk_cell (blk_new W (.cells #[v] 3)) 0).trans rfl
theorem okStacks_drop (l s : List (List Int)) (i : Nat) (h1 : i < l.length) (h2 : i < s.length) : okStacks (l.drop i) (s.drop i) = (okStack l[i].length s[i] && okStacks (l.drop (i + 1)) (s.drop (i + 1))) := by
  rw [List.drop_eq_getElem_cons h1, List.drop_eq_getElem_cons h2]
  rfl
set_option maxHeartbeats 4000000 in
set_option maxRecDepth 100000 in
theorem impl_areStacks.walk (A0 : Option Addr) (c0 : Nat) (l : List (List Int)) (a1 : Int) (A2 : Option Addr) (c2 : Nat) (s : List (List Int)) (w : World) (hr0 : Kd.C (Kd.slice 3 (Kd.int .i64)) w A0 l.length l) (hc0 : l.length ≤ c0) (hr2 : Kd.C (Kd.slice 3 (Kd.int .i64)) w A2 s.length s) :
    Calls Try.prog 98 #[.agg #[.slice A0 l.length c0], .int .i64 a1, .agg #[.slice A2 s.length c2]] w fun e w' => e = .returned (.bool (stacksB l a1 s)) ∧ Below w.heap.size w w' := by
  have hu30 := Try.underlying30
  have hu59 := Try.underlying59
  have W0 := below_alloc (below_alloc (Below.refl w.heap.size w) (.cells #[.slice A0 l.length c0] 30)) (.cells #[.slice A2 s.length c2] 59)
  have W1 := below_alloc W0 (.cells #[.int .i64 a1] 3)
  have HR0 := Aside0.mk (Kd.C_below hr0 W1)
  have HR1 := Kd.C_of_reads (enc := Value.int .i64) (h1 := fun _ => rfl) (d := (0 : Int)) (w := ((w.alloc (.cells #[.slice A0 l.length c0] 30)).alloc (.cells #[.slice A2 s.length c2] 59)).alloc (.cells #[.int .i64 a1] 3)) (A := some ⟨w.heap.size + 2, 0, none⟩) (n := 1) (xs := [a1]) ⟨rfl, by decide, fun _ => ⟨_, rfl, fun j hj => by
    obtain rfl : j = 0 := by omega
    have h := (blk_cell (blk_new ((w.alloc (.cells #[.slice A0 l.length c0] 30)).alloc (.cells #[.slice A2 s.length c2] 59)) (.cells #[.int .i64 a1] 3)) 0)
    simpa [Addr.add] using h⟩⟩
  replace HR1 := Aside0.mk HR1
  replace W0 := Aside0.mk W0
  replace W1 := Aside0.mk W1
  cases hp : placeB l a1 with
  | false =>
    have h0 : stacksB l a1 s = false := by unfold stacksB; rw [hp]; rfl
    rw [h0]
    have hp2 := hasB_one l a1
    rw [hp] at hp2
    replace hp2 := Aside0.mk hp2
    clear hr0 hr2 h0 hp
    go_enter Try.func98, Try.ntmps98
    go_wp2_with (go_at_call 76; refine (impl_has.walk A0 c0 l _ 1 [a1] _ HR0.out HR1.out).mono ?_; rw [hp2.out]; rintro e w1 ⟨rfl, hB⟩; have HB := Aside0.mk hB; clear hB)
    go_ret
    exact ⟨rfl, below_then W1.out (by simp; omega) HB.out⟩
  | true =>
    obtain ⟨hg, hl1, hl8, ha0, hal⟩ := place_is hp
    obtain ⟨a, rfl⟩ := Int.eq_ofNat_of_zero_le ha0
    obtain ⟨ad0, _, _, rfl, _, _, _⟩ := at_row hr0 a (by omega)
    have hp2 := hasB_one l (a : Int)
    rw [hp] at hp2
    replace hp2 := Aside0.mk hp2
    have b0 : (((w.alloc (.cells #[.slice (some ad0) l.length c0] 30)).alloc (.cells #[.slice A2 s.length c2] 59)).alloc (.cells #[.int .i64 (a : Int)] 3)).cell? ⟨w.heap.size, 0, none⟩ = some (.slice (some ad0) l.length c0) := by
      rw [World.cell?_alloc_lt _ _ _ (by simp; omega), World.cell?_alloc_lt _ _ _ (by simp)]
      exact (blk_cell (blk_new w (.cells #[.slice (some ad0) l.length c0] 30)) 0).trans rfl
    have b1 : (((w.alloc (.cells #[.slice (some ad0) l.length c0] 30)).alloc (.cells #[.slice A2 s.length c2] 59)).alloc (.cells #[.int .i64 (a : Int)] 3)).cell? ⟨w.heap.size + 1, 0, none⟩ = some (.slice A2 s.length c2) := by
      rw [World.cell?_alloc_lt _ _ _ (by simp)]
      have h := (blk_cell (blk_new (w.alloc (.cells #[.slice (some ad0) l.length c0] 30)) (.cells #[.slice A2 s.length c2] 59)) 0)
      rw [show (w.alloc (.cells #[.slice (some ad0) l.length c0] 30)).heap.size = w.heap.size + 1 by simp] at h
      exact h.trans rfl
    replace b0 := Aside0.mk b0
    replace b1 := Aside0.mk b1
    by_cases hsl : s.length = l.length
    · obtain ⟨ad2, A3, c3, rfl, hx3, hl3, hC3⟩ := at_row hr2 a (by omega)
      have hx3 := W1.out.cell (World.block_lt_of_cell? w _ hx3) |>.trans hx3
      have hgd : s.getD ((a : Int)).toNat [] = s[a] := by rw [Int.toNat_natCast, List.getD_eq_getElem?_getD, List.getElem?_eq_getElem (by omega)]; rfl
      have e1 : ((s.length : Int) != (l.length : Int)) = false := by simp; omega
      have e2 : (s.length != l.length) = false := by simpa using hsl
      have i1 : (0 : Int) ≤ (a : Int) := by omega
      have i2 : (a : Int) < (s.length : Int) := by omega
      by_cases hz : s[a].length = 0
      · have hr : stacksB l (a : Int) s = okStacks l s := by unfold stacksB; rw [hp, decide_eq_true hsl, hgd, decide_eq_true hz]; rfl
        rw [hr]
        obtain ⟨r, hr⟩ : ∃ r, r = okStacks l s := ⟨_, rfl⟩
        rw [← hr]
        replace hr := Aside0.mk hr
        have e3 : ((s[a].length : Int) != 0) = false := by rw [bne_eq_false_iff_eq]; omega
        have e4 : (s[a].length != 0) = false := by simpa using hz
        generalize s[a] = row0 at *
        replace hz := Aside0.mk hz
        replace hsl := Aside0.mk hsl
        replace hgd := Aside0.mk hgd
        have HS := Aside0.mk hr2
        have HL := Aside0.mk hr0
        clear hp hr2 hr0
        go_enter Try.func98, Try.ntmps98
        go_wp2_with (go_at_call 76; refine (impl_has.walk (some ad0) c0 l _ 1 [(a : Int)] _ HR0.out HR1.out).mono ?_; rw [hp2.out]; rintro e w1 ⟨rfl, hB⟩; have HB := Aside0.mk hB; have k0 := (hB.cell (p := ⟨w.heap.size, 0, none⟩) (by simp; omega)).trans b0.out; have k1 := (hB.cell (p := ⟨w.heap.size + 1, 0, none⟩) (by simp)).trans b1.out; have k2 := (hB.cell (World.block_lt_of_cell? _ _ hx3)).trans hx3; have KB := Aside0.mk (below_then W1.out (by simp; omega) hB); have kz := hB.size; simp at kz; clear hB)
        clear k2
        go_loopg [35] s.length (fun kq v35 wr => ∃ i : Nat, v35 = .int .i64 (i : Int) ∧ Aside0 (i + kq = s.length ∧ okStacks (l.drop i) (s.drop i) = r) ∧ Aside0 (wr.cell? ⟨w.heap.size, 0, none⟩ = some (.slice (some ad0) l.length c0) ∧ w.heap.size < wr.heap.size) ∧ Aside0 (Below w.heap.size w wr))
        case atStart => exact ⟨0, rfl, ⟨by omega, by rw [List.drop_zero, List.drop_zero]; exact hr.out.symm⟩, ⟨k0, by omega⟩, KB⟩
        case round =>
          clear k0 k1 KB hr
          obtain ⟨i, rfl, HA, HC, HB⟩ := hrel
          by_cases hlt : i < s.length
          · obtain ⟨q1, rfl⟩ : ∃ m, gk = m + 1 := ⟨gk - 1, by have := HA.out.1; omega⟩
            have hil : i < l.length := by have := hsl.out; omega
            have h2 := HA.out.2
            rw [okStacks_drop l s i hil hlt] at h2
            replace h2 := Aside0.mk h2
            obtain ⟨A5, c5, hx5, hl5, hC5⟩ := at_row' HL.out i (by have := hsl.out; omega)
            obtain ⟨A6, c6, hx6, hl6, hC6⟩ := at_row' HS.out i hlt
            replace hx6 := (HB.out.cell (World.block_lt_of_cell? w _ hx6)).trans hx6
            replace hx5 := (HB.out.cell (World.block_lt_of_cell? w _ hx5)).trans hx5
            have hC6r := Kd.C_alloc (Kd.C_below hC6 HB.out) (.cells #[.int .i64 (i : Int)] 3)
            have h100 : l[i].length ≤ 100 := by have := (graph_row hg (List.getElem_mem hil)).1; omega
            generalize l[i] = lrow at *
            generalize s[i] = srow at *
            have hi1 : (0 : Int) ≤ (i : Int) := by omega
            have hi2 : (i : Int) < (s.length : Int) := by omega
            have HP := pred122 ad0 l.length c0 w.heap.size wr.heap.size i lrow.length A5 c5 (wr.alloc (.cells #[.int .i64 (i : Int)] 3)) (by simp; have := HC.out.2; omega) (by simp) ((World.cell?_alloc_lt _ _ _ (by have := HC.out.2; omega)).trans HC.out.1) (box3 _ _)
              ((World.cell?_alloc_lt _ _ _ (World.block_lt_of_cell? wr _ hx5)).trans hx5) (by have := hsl.out; omega) h100
            replace HP := Aside0.mk HP
            replace hx5 := Aside0.mk hx5
            replace hC5 := Aside0.mk hC5
            replace hC6 := Aside0.mk hC6
            replace hC6r := Aside0.mk hC6r
            obtain ⟨b, hb⟩ : ∃ b, b = srow.any (fun q => !inB q 0 ((lrow.length : Int) - 1)) := ⟨_, rfl⟩
            replace hb := Aside0.mk hb
            have HB2 := Aside0.mk (below_alloc HB.out (.cells #[.int .i64 (i : Int)] 3))
            have HC2 := Aside0.mk ((World.cell?_alloc_lt wr (.cells #[.int .i64 (i : Int)] 3) ⟨w.heap.size, 0, none⟩ (by have := HC.out.2; omega)).trans HC.out.1)
            by_cases h12 : srow.length ≤ 12
            · have h5' : decide (12 < (srow.length : Int)) = false := decide_eq_false (by omega)
              have h5'' : decide (12 < srow.length) = false := decide_eq_false (by omega)
              have h6 : okStack lrow.length srow = !b := by unfold okStack; rw [hb.out, decide_eq_true h12, Bool.true_and]
              replace h6 := Aside0.mk h6
              cases b with
              | true =>
                go_wp2_with (go_at_call 108; refine (contains_calls _ 122 _ enters122 A6 c6 srow _ HP.out hC6r.out).mono ?_; rw [← hb.out]; rintro e w' ⟨rfl, ⟨nd2, rfl⟩⟩)
                go_ret
                exact ⟨by have := h2.out; rw [h6.out] at this; simp at this; rw [← this]; rfl, pw_below_drewN HB2.out _⟩
              | false =>
                go_wp2_with (go_at_call 108; refine (contains_calls _ 122 _ enters122 A6 c6 srow _ HP.out hC6r.out).mono ?_; rw [← hb.out]; rintro e w' ⟨rfl, ⟨nd2, rfl⟩⟩)
                go_roundg q1
                case measure => omega
                case rel => exact ⟨i + 1, by go_num, ⟨by have := HA.out.1; omega, by have := h2.out; rw [h6.out] at this; simpa using this⟩, ⟨HC2.out, Nat.lt_of_lt_of_le HC.out.2 (by simp)⟩, ⟨pw_below_drewN HB2.out _⟩⟩
            · have h5' : decide (12 < (srow.length : Int)) = true := decide_eq_true (by omega)
              have h5'' : decide (12 < srow.length) = true := decide_eq_true (by omega)
              have h6 : okStack lrow.length srow = false := by unfold okStack; rw [decide_eq_false h12, Bool.false_and]
              replace h6 := Aside0.mk h6
              go_wp2_with (fail)
              go_ret
              exact ⟨by have := h2.out; rw [h6.out] at this; simp at this; rw [← this]; rfl, HB2.out⟩
          · have h2 := HA.out.2
            rw [List.drop_of_length_le (by have := hsl.out; omega), List.drop_of_length_le (by omega)] at h2
            replace h2 := Aside0.mk h2
            go_wp2_with (fail)
            go_ret
            exact ⟨by rw [← h2.out]; rfl, HB.out⟩
      · have h0 : stacksB l (a : Int) s = false := by unfold stacksB; rw [hgd, decide_eq_false hz]; simp
        rw [h0]
        have e3 : ((s[a].length : Int) != 0) = true := by rw [bne_iff_ne]; omega
        have e4 : (s[a].length != 0) = true := by simpa using hz
        generalize s[a] = row0 at *
        clear hr0 hr2 h0 hp hsl hz hgd
        go_enter Try.func98, Try.ntmps98
        go_wp2_with (go_at_call 76; refine (impl_has.walk (some ad0) c0 l _ 1 [(a : Int)] _ HR0.out HR1.out).mono ?_; rw [hp2.out]; rintro e w1 ⟨rfl, hB⟩; have HB := Aside0.mk hB; have k0 := (hB.cell (p := ⟨w.heap.size, 0, none⟩) (by simp; omega)).trans b0.out; have k1 := (hB.cell (p := ⟨w.heap.size + 1, 0, none⟩) (by simp)).trans b1.out; have k2 := (hB.cell (World.block_lt_of_cell? _ _ hx3)).trans hx3; clear hB)
        go_ret
        exact ⟨rfl, below_then W1.out (by simp; omega) HB.out⟩
    · have h0 : stacksB l (a : Int) s = false := by unfold stacksB; rw [decide_eq_false hsl]; simp
      rw [h0]
      have e1 : ((s.length : Int) != (l.length : Int)) = true := by simp; omega
      have e2 : (s.length != l.length) = true := by simpa using hsl
      clear hr0 hr2 h0 hp hsl
      go_enter Try.func98, Try.ntmps98
      go_wp2_with (go_at_call 76; refine (impl_has.walk (some ad0) c0 l _ 1 [(a : Int)] _ HR0.out HR1.out).mono ?_; rw [hp2.out]; rintro e w1 ⟨rfl, hB⟩; have HB := Aside0.mk hB; have k0 := (hB.cell (p := ⟨w.heap.size, 0, none⟩) (by simp; omega)).trans b0.out; have k1 := (hB.cell (p := ⟨w.heap.size + 1, 0, none⟩) (by simp)).trans b1.out; clear hB)
      go_ret
      exact ⟨rfl, below_then W1.out (by simp; omega) HB.out⟩
end Go.Proofs.Ytnbnalbomflafaa.KA
/-! ## GR0 -/
namespace Go.Proofs.Ytnbnalbomflafaa.GR
open Go.RowKit Go.Proofs.YtnbnalbomflafaaW.PrintWords Go.Proofs.YtnbnalbomflafaaW.PrintLast Go.Proofs.YtnbnalbomflafaaW.PrintMore
open Go.Proofs.Ytnbnalbomflafaa.GA Go.Proofs.Ytnbnalbomflafaa.GB Go.Proofs.Ytnbnalbomflafaa.GD Go.Proofs.Ytnbnalbomflafaa.KA
attribute [local go_sem] max2_int min2_int max_two min_two max_three min_three max_four min_four   -- for this text's walks alone
set_option linter.unusedVariables false
set_option linter.unusedSimpArgs false
def errW : Option Int → Value
  | none => .nilIface
  | some c => .iface 0 (.int .i64 c)
theorem errW_none : errW none = .nilIface := rfl
theorem errW_some (c : Int) : errW (some c) = .iface 0 (.int .i64 c) := rfl
theorem info3 : (Try.prog.info? 3).map (fun i => (i.zero, i.size, i.bytes)) = some (some (.int .i64 0), 1, 8) := by kernel_rfl
theorem info37 : (Try.prog.info? 37).map (fun i => (i.zero, i.size, i.bytes)) = some (some (.slice none 0 0), 1, 24) := by kernel_rfl
def rd_L1 (xs : List (List Int)) (i : Int) : (List Int) := xs.getD i.toNat ([] : List Int)
theorem at_L1 {w : World} {A : Option Addr} {n : Nat} {xs : List (List Int)} (h : Kd.C (Kd.slice 3 (Kd.int .i64)) w A n xs) (i : Int) (h0 : 0 ≤ i) (h1 : i < n) : ∃ ad A0 c0, A = some ad ∧ w.cell? (ad.add i.toNat) = some (.slice A0 (rd_L1 xs i).length c0) ∧ (rd_L1 xs i).length ≤ c0 ∧ (Kd.int .i64).C w A0 (rd_L1 xs i).length (rd_L1 xs i) := by
  obtain ⟨ad, c, e, _, hK, hc0⟩ := Kd.C_get h ([] : List Int) i h0 h1
  have hc : ∀ j u, c[j]? = some u → w.cell? (ad.add (i.toNat * 1 + j)) = some u := hc0
  obtain ⟨A0, c0, rfl, l0, g0⟩ := hK
  exact ⟨ad, A0, c0, e, by have hq := hc 0 _ rfl; rwa [Nat.mul_one, Nat.add_zero] at hq, l0, g0⟩
end Go.Proofs.Ytnbnalbomflafaa.GR
/-! ## GR1 -/
namespace Go.Proofs.Ytnbnalbomflafaa.GR
open Go.RowKit Go.Proofs.YtnbnalbomflafaaW.PrintWords Go.Proofs.YtnbnalbomflafaaW.PrintLast Go.Proofs.YtnbnalbomflafaaW.PrintMore
open Go.Proofs.Ytnbnalbomflafaa.GA Go.Proofs.Ytnbnalbomflafaa.GB Go.Proofs.Ytnbnalbomflafaa.GD Go.Proofs.Ytnbnalbomflafaa.KA
attribute [local go_sem] max2_int min2_int max_two min_two max_three min_three max_four min_four   -- for this text's walks alone
set_option linter.unusedVariables false
set_option linter.unusedSimpArgs false
def impl_TopsOf.f (k : Nat) (l0_0 : List (List Int)) (a1 : Int) (l2_0 : List (List Int)) : Option (List Int × Bool) := (impl_areStacks.f l0_0 a1 l2_0).bind fun t192 => (if t192 = true then ((impl_Stacks_tops.f k l2_0 a1).bind fun bt193 => (some (bt193.1, bt193.2))) else (some (([] : List Int), false)))
mutual
def impl_isWalk.j0 : Nat → Bool → List (List Int) → List Int → Int → Option (Bool)
  | 0, _, _, _, _ => none
  | k + 1, x21, x261000, x262000, x262001 => if x21 = true then (some false) else (impl_isWalk.l0 k x262000 (x262000.length : Int) 0 x261000)
def impl_isWalk.l0 : Nat → List Int → Int → Int → List (List Int) → Option (Bool)
  | 0, _, _, _, _ => none
  | k + 1, x23, x24, x25, x261000 => if x25 < x24 then (if 0 ≤ x25 then (if x25 < (x23.length : Int) then (if x25 < (x261000.length : Int) then ((impl_in.f (rd x23 x25) 0 (mx (wrap64 (((rd_L1 x261000 x25).length : Int) - 1)) 0)).bind fun t268 => (if t268 = true then (impl_isWalk.l0 k x23 x24 (wrap64 (x25 + 1)) x261000) else (some false))) else (none)) else (none)) else (none)) else (some true)
end
def impl_isWalk.f (k : Nat) (l0_0 : List (List Int)) (l1_0 : List Int) (a1_1 : Int) : Option (Bool) := (impl_has.f l0_0 (([a1_1] : List Int))).bind fun t265 => (if t265 = true then (impl_isWalk.j0 k ((l1_0.length : Int) != (l0_0.length : Int)) l0_0 l1_0 a1_1) else (impl_isWalk.j0 k true l0_0 l1_0 a1_1))
set_option maxHeartbeats 8000000 in
set_option maxRecDepth 100000 in
theorem impl_isWalk.calls (k : Nat) (A0_0 : Option Addr) (c0_0 : Nat) (l0_0 : List (List Int)) (A1_0 : Option Addr) (c1_0 : Nat) (l1_0 : List Int) (a1_1 : Int) (r : Bool) (w : World) (hr0_0 : Kd.C (Kd.slice 3 (Kd.int .i64)) w A0_0 l0_0.length l0_0) (hc0_0 : l0_0.length ≤ c0_0) (hr1_0 : Kd.C (Kd.int .i64) w A1_0 l1_0.length l1_0) (hc1_0 : l1_0.length ≤ c1_0) (h : impl_isWalk.f k l0_0 l1_0 a1_1 = some r) :
    Calls Try.prog 123 #[.agg #[.slice A0_0 l0_0.length c0_0], .agg #[.slice A1_0 l1_0.length c1_0, .int .i64 a1_1]] w fun e w' => e = .returned (.bool r) ∧ Below w.heap.size w w' := by
  have hu30 := Try.underlying30
  have hu98 := Try.underlying98
  have HR0_0 := Aside0.mk hr0_0
  have HC0_0 := Aside0.mk hc0_0
  clear hr0_0 hc0_0
  have HR1_0 := Aside0.mk hr1_0
  have HC1_0 := Aside0.mk hc1_0
  clear hr1_0 hc1_0
  have HB := Aside0.mk (Below.refl w.heap.size w)
  have H : ((impl_has.f l0_0 (([a1_1] : List Int))).bind fun t265 => (if t265 = true then (impl_isWalk.j0 k ((l1_0.length : Int) != (l0_0.length : Int)) l0_0 l1_0 a1_1) else (impl_isWalk.j0 k true l0_0 l1_0 a1_1))) = some r := h
  clear h
  have HC3 := Aside0.mk H
  clear H
  go_enter Try.func123, Try.ntmps123
  go_upto_region 1 with (first | ((with_reducible refine gate_dst (N := 2) rfl ?_); (try (refine gate_guard (by rfl) ?_; dsimp only)); refine box_event ?hg (N := 2) ?hd (cs := #[.slice A0_0 l0_0.length c0_0]) (t := 30) ?hr ?_; (case hd => rfl); (case hg => rfl); (case hr => first | (go_simp; done) | (go_simp; rfl)); intro gb260 hg w4 hbox hb; have n0_ := Aside0.mk (below_step (by repeat (first | (with_reducible first | exact HB.out | apply below_alloc | apply pw_below_drewN | apply below_drew1) | exact HB.out)) hb); have n1_ := Aside0.mk (hbox); have n2_ := Aside0.mk ((by rw [hg]; exact (below_size (by repeat (first | (with_reducible first | exact HB.out | apply below_alloc | apply pw_below_drewN | apply below_drew1) | exact HB.out))) : w.heap.size ≤ gb260)); have n3_ := Aside0.mk ((by rw [hg]; exact (below_size (by repeat (first | (with_reducible first | exact HB.out | apply below_alloc | apply pw_below_drewN | apply below_drew1) | exact HB.out))) : w.heap.size ≤ gb260)); clear HB; have HB := n0_; have BK260 := n1_; have GW260 := n2_; have GE260 := n3_; clear n0_ n1_ n2_ n3_; clear hb hbox hg) | ((with_reducible refine gate_dst (N := 3) rfl ?_); (try (refine gate_guard (by rfl) ?_; dsimp only)); refine box_event ?hg (N := 3) ?hd (cs := #[.slice A1_0 l1_0.length c1_0, .int .i64 a1_1]) (t := 98) ?hr ?_; (case hd => rfl); (case hg => rfl); (case hr => first | (go_simp; done) | (go_simp; rfl)); intro gb261 hg w5 hbox hb; have n0_ := Aside0.mk (blk_below (g := gb260) (o := .cells #[.slice A0_0 l0_0.length c0_0] 30 (0, 0)) (by (with_reducible repeat (first | refine blk_drewN ?_ _ | refine blk_drew ?_ | refine blk_alloc ?_ _)); exact BK260.out) hb); have n1_ := Aside0.mk (below_step (by repeat (first | (with_reducible first | exact HB.out | apply below_alloc | apply pw_below_drewN | apply below_drew1 | refine below_set ?_ GE260.out) | exact HB.out)) hb); have n2_ := Aside0.mk (hbox); have n3_ := Aside0.mk ((by rw [hg]; exact (below_size (by repeat (first | (with_reducible first | exact HB.out | apply below_alloc | apply pw_below_drewN | apply below_drew1 | refine below_set ?_ GE260.out) | exact HB.out))) : w.heap.size ≤ gb261)); have n4_ := Aside0.mk ((by rw [hg]; exact (below_size (by repeat (first | (with_reducible first | exact HB.out | apply below_alloc | apply pw_below_drewN | apply below_drew1 | refine below_set ?_ GE260.out) | exact HB.out))) : w.heap.size ≤ gb261)); have n5_ := Aside0.mk ((by rw [hg]; exact Nat.ne_of_lt (blk_lt (g := gb260) (o := .cells #[.slice A0_0 l0_0.length c0_0] 30 (0, 0)) (by (with_reducible repeat (first | refine blk_drewN ?_ _ | refine blk_drew ?_ | refine blk_alloc ?_ _)); exact BK260.out)) : gb260 ≠ gb261)); have n6_ := Aside0.mk ((by rw [hg]; exact Nat.ne_of_gt (blk_lt (g := gb260) (o := .cells #[.slice A0_0 l0_0.length c0_0] 30 (0, 0)) (by (with_reducible repeat (first | refine blk_drewN ?_ _ | refine blk_drew ?_ | refine blk_alloc ?_ _)); exact BK260.out)) : gb261 ≠ gb260)); clear BK260; clear HB; have BK260 := n0_; have HB := n1_; have BK261 := n2_; have GW261 := n3_; have GE261 := n4_; have NB260_261 := n5_; have NB261_260 := n6_; clear n0_ n1_ n2_ n3_ n4_ n5_ n6_; clear hb hbox hg))
  (try simp only [Act.put, List.setIfInBounds_toArray, List.set_cons_zero, List.set_cons_succ])
  go_cut [21] (fun v21 wc => ∃ (kq : Nat) (x21_2 : Bool), v21 = .bool x21_2 ∧ Aside0 (impl_isWalk.j0 kq x21_2 l0_0 l1_0 a1_1 = some r) ∧ Aside0 (kq ≤ k) ∧ Aside0 (wc.heap[gb260]? = some (.cells #[(.slice A0_0 l0_0.length c0_0)] 30 (0, 0))) ∧ Aside0 (wc.heap[gb261]? = some (.cells #[(.slice A1_0 l1_0.length c1_0), .int .i64 a1_1] 98 (0, 0))) ∧ Aside0 (Below w.heap.size w wc))
  case first =>
    have H := HC3.out
    clear HC3
    obtain ⟨y262, hy262⟩ : ∃ y_ : List Int, y_ = (([a1_1] : List Int)) := ⟨_, rfl⟩
    replace H : ((impl_has.f l0_0 y262).bind fun t265 => (if t265 = true then (impl_isWalk.j0 k ((l1_0.length : Int) != (l0_0.length : Int)) l0_0 l1_0 a1_1) else (impl_isWalk.j0 k true l0_0 l1_0 a1_1))) = some r := by first | (rw [hy262]; with_reducible exact H) | (have H2_ := (Option.bind_some _ _).symm.trans H; rw [hy262]; with_reducible exact H2_) | (have H2_ := (Option.bind_some _ _).symm.trans H; with_reducible exact H2_) | with_reducible exact H | (rw [hy262]; exact H) | exact H
    have Ny262 := Aside0.mk hy262
    clear hy262
    replace H := Option.bind_eq_some_iff.mp H
    obtain ⟨t265, A60, H⟩ := H
    replace H : (if t265 = true then (impl_isWalk.j0 k ((l1_0.length : Int) != (l0_0.length : Int)) l0_0 l1_0 a1_1) else (impl_isWalk.j0 k true l0_0 l1_0 a1_1)) = some r := H
    have A6 := Aside0.mk A60
    clear A60
    by_cases c7 : t265 = true
    · subst c7
      have H1 : (impl_isWalk.j0 k ((l1_0.length : Int) != (l0_0.length : Int)) l0_0 l1_0 a1_1) = some r := by rw [if_pos rfl] at H; exact H
      clear H
      have H := H1
      clear H1
      have H' := Aside0.mk H
      clear H
      have hnb8 := NB260_261.out
      have hnc8 := NB261_260.out
      have hcz9_0 : w5.cell? ⟨gb260, 0, none⟩ = some (.slice A0_0 l0_0.length c0_0) := (blk_cell BK260.out 0).trans rfl
      have hfz9_0 := blk_frozen BK260.out 0
      have hcz10_0 : w5.cell? ⟨gb261, 0, none⟩ = some (.slice A1_0 l1_0.length c1_0) := (blk_cell BK261.out 0).trans rfl
      have hcz10_1 : w5.cell? ⟨gb261, 1, none⟩ = some (.int .i64 a1_1) := (blk_cell BK261.out 1).trans rfl
      have hfz10_0 := blk_frozen BK261.out 0
      have hfz10_1 := blk_frozen BK261.out 1
      go_wp2_with (first | ((with_reducible refine gate_dst (N := 10) rfl ?_); (try (refine gate_guard (by rfl) ?_; dsimp only)); refine Kd.R_lit (Kd.int .i64) _ 3 ?hg (N := 10) ?hd (xs := ([a1_1] : List Int)) (inner := [.int .i64 a1_1]) (ok := fun _ => True) (okp := fun _ => True) ?hr ?hp (fun _ hk => hk) trivial (Below.refl _ _) (Nat.le_refl _) (by simp) ?_; (case hd => rfl); (case hg => rfl); (case hr => first | (go_simp; done) | (go_simp; rfl)); (case hp => exact (Reps.one (show Kd.M (Kd.int .i64) _ _ _ a1_1 [.int .i64 a1_1] from rfl) (Reps.none _ _))); intro v263 w11 ho12 hb hg_ hnew_; clear hg_ hnew_; (first | rw [← Ny262.out] at ho12 | (simp only [Int.reduceToNat] at ho12; rw [← Ny262.out] at ho12)); have n0_ := Aside0.mk (Kd.R_lower ho12 (below_size (by repeat (first | (with_reducible first | exact HB.out | apply below_alloc | apply pw_below_drewN | apply below_drew1 | refine below_set ?_ GE260.out | refine below_set ?_ GE261.out) | exact HB.out)))); have n1_ := Aside0.mk (blk_below (g := gb260) (o := .cells #[.slice A0_0 l0_0.length c0_0] 30 (0, 0)) (by (with_reducible repeat (first | refine blk_drewN ?_ _ | refine blk_drew ?_ | refine blk_alloc ?_ _)); exact BK260.out) hb); have n2_ := Aside0.mk (blk_below (g := gb261) (o := .cells #[.slice A1_0 l1_0.length c1_0, .int .i64 a1_1] 98 (0, 0)) (by (with_reducible repeat (first | refine blk_drewN ?_ _ | refine blk_drew ?_ | refine blk_alloc ?_ _)); exact BK261.out) hb); have n3_ := Aside0.mk (below_step (by repeat (first | (with_reducible first | exact HB.out | apply below_alloc | apply pw_below_drewN | apply below_drew1 | refine below_set ?_ GE260.out | refine below_set ?_ GE261.out) | exact HB.out)) hb); clear BK260; clear BK261; clear HB; have HO264 := n0_; have BK260 := n1_; have BK261 := n2_; have HB := n3_; clear n0_ n1_ n2_ n3_; clear hb ho12; obtain ⟨Ao13, co13, eo13⟩ := Kd.R_slice HO264.out; subst eo13) | ((with_reducible refine gate_callee (f := 76) rfl ?_); refine goesL_ (some 11) rfl rfl Try.func76 (by kernel_rfl) rfl #[.agg #[.slice A0_0 l0_0.length c0_0], .slice Ao13 y262.length co13] rfl (by (try simp only [List.map_toArray, List.map_cons, List.map_nil]); first | done | rfl | (simp only [List.length_drop, List.length_take]; rfl)) ?_; (with_reducible refine (impl_has.calls _ _ l0_0 _ _ y262 true _ ?side1 ?side2 ?side3 ?side4 A6.out).mono ?_); (case side1 => repeat (first | exact (Kd.C_below HR0_0.out HB.out) | (with_reducible refine Kd.C_alloc ?_ _) | (with_reducible refine Kd.C_drewN ?_ _) | (with_reducible refine Kd.C_drew ?_))); (case side2 => exact HC0_0.out); (case side3 => repeat (first | exact (Kd.R_reads' HO264.out).2.2 | (with_reducible refine Kd.C_alloc ?_ _) | (with_reducible refine Kd.C_drewN ?_ _) | (with_reducible refine Kd.C_drew ?_))); (case side4 => exact (Kd.R_reads' HO264.out).2.1); rintro e w14 ⟨rfl, hb⟩; refine ⟨_, rfl, ?_⟩; have n0_ := Aside0.mk (Kd.R_below (by (with_reducible repeat (first | apply Kd.R_alloc | apply Kd.R_drewN | apply Kd.R_drew)); exact HO264.out) hb); have n1_ := Aside0.mk (blk_below (g := gb260) (o := .cells #[.slice A0_0 l0_0.length c0_0] 30 (0, 0)) (by (with_reducible repeat (first | refine blk_drewN ?_ _ | refine blk_drew ?_ | refine blk_alloc ?_ _)); exact BK260.out) hb); have n2_ := Aside0.mk (blk_below (g := gb261) (o := .cells #[.slice A1_0 l1_0.length c1_0, .int .i64 a1_1] 98 (0, 0)) (by (with_reducible repeat (first | refine blk_drewN ?_ _ | refine blk_drew ?_ | refine blk_alloc ?_ _)); exact BK261.out) hb); have n3_ := Aside0.mk (below_step (by repeat (first | (with_reducible first | exact HB.out | apply below_alloc | apply pw_below_drewN | apply below_drew1 | refine below_set ?_ GE260.out | refine below_set ?_ GE261.out) | exact HB.out)) hb); clear HO264; clear BK260; clear BK261; clear HB; have HO264 := n0_; have BK260 := n1_; have BK261 := n2_; have HB := n3_; clear n0_ n1_ n2_ n3_; (try clear hb); (try clear hb2); (try clear hk); (try clear hi); have hcz15_0 : w14.cell? ⟨gb261, 0, none⟩ = some (.slice A1_0 l1_0.length c1_0) := (blk_cell BK261.out 0).trans rfl; have hcz15_1 : w14.cell? ⟨gb261, 1, none⟩ = some (.int .i64 a1_1) := (blk_cell BK261.out 1).trans rfl; have hfz15_0 := blk_frozen BK261.out 0; have hfz15_1 := blk_frozen BK261.out 1; have hcz16_0 : w14.cell? ⟨gb260, 0, none⟩ = some (.slice A0_0 l0_0.length c0_0) := (blk_cell BK260.out 0).trans rfl; have hfz16_0 := blk_frozen BK260.out 0))
      go_meet
      case rel => exact ⟨_, (((l1_0.length : Int) != (l0_0.length : Int))), (by first | rfl | (simp; done) | (simp [*]; done)), H', ⟨by first | omega | exact Nat.le_refl _⟩, ⟨by (with_reducible repeat (first | refine blk_drewN ?_ _ | refine blk_drew ?_ | refine blk_alloc ?_ _)); exact BK260.out⟩, ⟨by (with_reducible repeat (first | refine blk_drewN ?_ _ | refine blk_drew ?_ | refine blk_alloc ?_ _)); exact BK261.out⟩, ⟨by repeat (first | (with_reducible first | exact HB.out | apply below_alloc | apply pw_below_drewN | apply below_drew1 | refine below_set ?_ GE260.out | refine below_set ?_ GE261.out) | exact HB.out)⟩⟩
    · replace c7 := Bool.eq_false_iff.mpr c7
      subst c7
      have H1 : (impl_isWalk.j0 k true l0_0 l1_0 a1_1) = some r := by rw [if_neg (show ¬ (false = true) by decide)] at H; exact H
      clear H
      have H := H1
      clear H1
      have H' := Aside0.mk H
      clear H
      have hnb17 := NB260_261.out
      have hnc17 := NB261_260.out
      have hcz18_0 : w5.cell? ⟨gb260, 0, none⟩ = some (.slice A0_0 l0_0.length c0_0) := (blk_cell BK260.out 0).trans rfl
      have hfz18_0 := blk_frozen BK260.out 0
      have hcz19_0 : w5.cell? ⟨gb261, 0, none⟩ = some (.slice A1_0 l1_0.length c1_0) := (blk_cell BK261.out 0).trans rfl
      have hcz19_1 : w5.cell? ⟨gb261, 1, none⟩ = some (.int .i64 a1_1) := (blk_cell BK261.out 1).trans rfl
      have hfz19_0 := blk_frozen BK261.out 0
      have hfz19_1 := blk_frozen BK261.out 1
      go_wp2_with (first | ((with_reducible refine gate_dst (N := 10) rfl ?_); (try (refine gate_guard (by rfl) ?_; dsimp only)); refine Kd.R_lit (Kd.int .i64) _ 3 ?hg (N := 10) ?hd (xs := ([a1_1] : List Int)) (inner := [.int .i64 a1_1]) (ok := fun _ => True) (okp := fun _ => True) ?hr ?hp (fun _ hk => hk) trivial (Below.refl _ _) (Nat.le_refl _) (by simp) ?_; (case hd => rfl); (case hg => rfl); (case hr => first | (go_simp; done) | (go_simp; rfl)); (case hp => exact (Reps.one (show Kd.M (Kd.int .i64) _ _ _ a1_1 [.int .i64 a1_1] from rfl) (Reps.none _ _))); intro v263 w20 ho21 hb hg_ hnew_; clear hg_ hnew_; (first | rw [← Ny262.out] at ho21 | (simp only [Int.reduceToNat] at ho21; rw [← Ny262.out] at ho21)); have n0_ := Aside0.mk (Kd.R_lower ho21 (below_size (by repeat (first | (with_reducible first | exact HB.out | apply below_alloc | apply pw_below_drewN | apply below_drew1 | refine below_set ?_ GE260.out | refine below_set ?_ GE261.out) | exact HB.out)))); have n1_ := Aside0.mk (blk_below (g := gb260) (o := .cells #[.slice A0_0 l0_0.length c0_0] 30 (0, 0)) (by (with_reducible repeat (first | refine blk_drewN ?_ _ | refine blk_drew ?_ | refine blk_alloc ?_ _)); exact BK260.out) hb); have n2_ := Aside0.mk (blk_below (g := gb261) (o := .cells #[.slice A1_0 l1_0.length c1_0, .int .i64 a1_1] 98 (0, 0)) (by (with_reducible repeat (first | refine blk_drewN ?_ _ | refine blk_drew ?_ | refine blk_alloc ?_ _)); exact BK261.out) hb); have n3_ := Aside0.mk (below_step (by repeat (first | (with_reducible first | exact HB.out | apply below_alloc | apply pw_below_drewN | apply below_drew1 | refine below_set ?_ GE260.out | refine below_set ?_ GE261.out) | exact HB.out)) hb); clear BK260; clear BK261; clear HB; have HO264 := n0_; have BK260 := n1_; have BK261 := n2_; have HB := n3_; clear n0_ n1_ n2_ n3_; clear hb ho21; obtain ⟨Ao22, co22, eo22⟩ := Kd.R_slice HO264.out; subst eo22) | ((with_reducible refine gate_callee (f := 76) rfl ?_); refine goesL_ (some 11) rfl rfl Try.func76 (by kernel_rfl) rfl #[.agg #[.slice A0_0 l0_0.length c0_0], .slice Ao22 y262.length co22] rfl (by (try simp only [List.map_toArray, List.map_cons, List.map_nil]); first | done | rfl | (simp only [List.length_drop, List.length_take]; rfl)) ?_; (with_reducible refine (impl_has.calls _ _ l0_0 _ _ y262 false _ ?side1 ?side2 ?side3 ?side4 A6.out).mono ?_); (case side1 => repeat (first | exact (Kd.C_below HR0_0.out HB.out) | (with_reducible refine Kd.C_alloc ?_ _) | (with_reducible refine Kd.C_drewN ?_ _) | (with_reducible refine Kd.C_drew ?_))); (case side2 => exact HC0_0.out); (case side3 => repeat (first | exact (Kd.R_reads' HO264.out).2.2 | (with_reducible refine Kd.C_alloc ?_ _) | (with_reducible refine Kd.C_drewN ?_ _) | (with_reducible refine Kd.C_drew ?_))); (case side4 => exact (Kd.R_reads' HO264.out).2.1); rintro e w23 ⟨rfl, hb⟩; refine ⟨_, rfl, ?_⟩; have n0_ := Aside0.mk (Kd.R_below (by (with_reducible repeat (first | apply Kd.R_alloc | apply Kd.R_drewN | apply Kd.R_drew)); exact HO264.out) hb); have n1_ := Aside0.mk (blk_below (g := gb260) (o := .cells #[.slice A0_0 l0_0.length c0_0] 30 (0, 0)) (by (with_reducible repeat (first | refine blk_drewN ?_ _ | refine blk_drew ?_ | refine blk_alloc ?_ _)); exact BK260.out) hb); have n2_ := Aside0.mk (blk_below (g := gb261) (o := .cells #[.slice A1_0 l1_0.length c1_0, .int .i64 a1_1] 98 (0, 0)) (by (with_reducible repeat (first | refine blk_drewN ?_ _ | refine blk_drew ?_ | refine blk_alloc ?_ _)); exact BK261.out) hb); have n3_ := Aside0.mk (below_step (by repeat (first | (with_reducible first | exact HB.out | apply below_alloc | apply pw_below_drewN | apply below_drew1 | refine below_set ?_ GE260.out | refine below_set ?_ GE261.out) | exact HB.out)) hb); clear HO264; clear BK260; clear BK261; clear HB; have HO264 := n0_; have BK260 := n1_; have BK261 := n2_; have HB := n3_; clear n0_ n1_ n2_ n3_; (try clear hb); (try clear hb2); (try clear hk); (try clear hi)))
      go_meet
      case rel => exact ⟨_, (true), (by first | rfl | (simp; done) | (simp [*]; done)), H', ⟨by first | omega | exact Nat.le_refl _⟩, ⟨by (with_reducible repeat (first | refine blk_drewN ?_ _ | refine blk_drew ?_ | refine blk_alloc ?_ _)); exact BK260.out⟩, ⟨by (with_reducible repeat (first | refine blk_drewN ?_ _ | refine blk_drew ?_ | refine blk_alloc ?_ _)); exact BK261.out⟩, ⟨by repeat (first | (with_reducible first | exact HB.out | apply below_alloc | apply pw_below_drewN | apply below_drew1 | refine below_set ?_ GE260.out | refine below_set ?_ GE261.out) | exact HB.out)⟩⟩
  case rest =>
    clear HC3
    try clear c1
    try clear p2
    try clear c7
    try clear c8
    try clear c12
    try clear c17
    try clear hcz10_0
    try clear hcz10_1
    try clear hcz15_0
    try clear hcz15_1
    try clear hcz16_0
    try clear hcz18_0
    try clear hcz19_0
    try clear hcz19_1
    try clear hcz9_0
    try clear hfz10_0
    try clear hfz10_1
    try clear hfz15_0
    try clear hfz15_1
    try clear hfz16_0
    try clear hfz18_0
    try clear hfz19_0
    try clear hfz19_1
    try clear hfz9_0
    obtain ⟨kq, x21_2, rfl, HA, HJ2, BK260, BK261, HB⟩ := hcut
    cases kq with
    | zero => exact absurd HA.out (by simp [impl_isWalk.j0])
    | succ kj2 =>
      have H := HA.out
      clear HA
      simp only [impl_isWalk.j0] at H
      by_cases c24 : x21_2 = true
      · subst c24
        have H1 : (some false) = some r := by rw [if_pos rfl] at H; exact H
        clear H
        have H := H1
        clear H1
        obtain rfl := Option.some.inj H
        go_wp2
        go_ret
        exact ⟨by first | rfl | (simp [errW_none, errW_some] <;> rfl) | (simp [*, errW_none, errW_some] <;> rfl), by repeat (first | (with_reducible first | exact HB.out | apply below_alloc | apply pw_below_drewN | apply below_drew1 | refine below_set ?_ GE260.out | refine below_set ?_ GE261.out) | exact HB.out)⟩
      · replace c24 := Bool.eq_false_iff.mpr c24
        subst c24
        have H1 : (impl_isWalk.l0 kj2 l1_0 (l1_0.length : Int) 0 l0_0) = some r := by rw [if_neg (show ¬ (false = true) by decide)] at H; exact H
        clear H
        have H := H1
        clear H1
        have H' := Aside0.mk H
        clear H
        have hnb25 := NB261_260.out
        have hnc25 := NB260_261.out
        have hcz26_0 : wc.cell? ⟨gb261, 0, none⟩ = some (.slice A1_0 l1_0.length c1_0) := (blk_cell BK261.out 0).trans rfl
        have hcz26_1 : wc.cell? ⟨gb261, 1, none⟩ = some (.int .i64 a1_1) := (blk_cell BK261.out 1).trans rfl
        have hfz26_0 := blk_frozen BK261.out 0
        have hfz26_1 := blk_frozen BK261.out 1
        go_wp2
        go_loopg [25] kj2 (fun kq v25 w' => ∃ (x25_2 : Int), v25 = .int .i64 x25_2 ∧ Aside0 (impl_isWalk.l0 kq l1_0 (l1_0.length : Int) x25_2 l0_0 = some r) ∧ Aside0 (kq ≤ kj2) ∧ Aside0 (w'.heap[gb260]? = some (.cells #[(.slice A0_0 l0_0.length c0_0)] 30 (0, 0))) ∧ Aside0 (w'.heap[gb261]? = some (.cells #[(.slice A1_0 l1_0.length c1_0), .int .i64 a1_1] 98 (0, 0))) ∧ Aside0 (Below w.heap.size w w'))
        case atStart => exact ⟨(0), (by first | rfl | (simp; done) | (simp [*]; done)), H', ⟨Nat.le_refl _⟩, ⟨by (with_reducible repeat (first | refine blk_drewN ?_ _ | refine blk_drew ?_ | refine blk_alloc ?_ _)); exact BK260.out⟩, ⟨by (with_reducible repeat (first | refine blk_drewN ?_ _ | refine blk_drew ?_ | refine blk_alloc ?_ _)); exact BK261.out⟩, ⟨by repeat (first | (with_reducible first | exact HB.out | apply below_alloc | apply pw_below_drewN | apply below_drew1 | refine below_set ?_ GE260.out | refine below_set ?_ GE261.out) | exact HB.out)⟩⟩
        case round =>
          clear H'
          try clear c1
          try clear c2
          try clear p2
          try clear c7
          try clear c8
          try clear c12
          try clear c17
          try clear c24
          try clear c25
          try clear hcz10_0
          try clear hcz10_1
          try clear hcz15_0
          try clear hcz15_1
          try clear hcz16_0
          try clear hcz18_0
          try clear hcz19_0
          try clear hcz19_1
          try clear hcz26_0
          try clear hcz26_1
          try clear hcz9_0
          try clear hfz10_0
          try clear hfz10_1
          try clear hfz15_0
          try clear hfz15_1
          try clear hfz16_0
          try clear hfz18_0
          try clear hfz19_0
          try clear hfz19_1
          try clear hfz26_0
          try clear hfz26_1
          try clear hfz9_0
          try clear p2
          obtain ⟨x25_2, rfl, HA, HK2, BK260, BK261, HB⟩ := hrel
          cases gk with
          | zero => exact absurd HA.out (by simp [impl_isWalk.l0])
          | succ k2 =>
            have H := HA.out
            clear HA
            simp only [impl_isWalk.l0] at H
            by_cases c27 : x25_2 < (l1_0.length : Int)
            · rw [if_pos c27] at H
              have c27b0 : decide (x25_2 < (l1_0.length : Int)) = true := decide_eq_true c27
              clear c27
              by_cases c28 : 0 ≤ x25_2
              · rw [if_pos c28] at H
                have c28b0 : decide (0 ≤ x25_2) = true := decide_eq_true c28
                clear c28
                by_cases c29 : x25_2 < (l1_0.length : Int)
                · rw [if_pos c29] at H
                  have c29b0 : decide (x25_2 < (l1_0.length : Int)) = true := decide_eq_true c29
                  clear c29
                  by_cases c30 : x25_2 < (l0_0.length : Int)
                  · rw [if_pos c30] at H
                    have c30b0 : decide (x25_2 < (l0_0.length : Int)) = true := decide_eq_true c30
                    clear c30
                    obtain ⟨ji31, hji31⟩ : ∃ j_ : Int, (mx (wrap64 (((rd_L1 l0_0 x25_2).length : Int) - 1)) 0) = j_ := ⟨_, rfl⟩
                    replace H : ((impl_in.f (rd l1_0 x25_2) 0 (ji31)).bind fun t268 => (if t268 = true then (impl_isWalk.l0 k2 l1_0 (l1_0.length : Int) (wrap64 (x25_2 + 1)) l0_0) else (some false))) = some r := by first | (rw [hji31] at H; exact H) | (simp only [hji31] at H ⊢; exact H)
                    have hji31_ : (if (wrap64 (((rd_L1 l0_0 x25_2).length : Int) - 1)) < 0 then 0 else (wrap64 (((rd_L1 l0_0 x25_2).length : Int) - 1))) = ji31 := hji31
                    replace H := Option.bind_eq_some_iff.mp H
                    obtain ⟨t268, A320, H⟩ := H
                    replace H : (if t268 = true then (impl_isWalk.l0 k2 l1_0 (l1_0.length : Int) (wrap64 (x25_2 + 1)) l0_0) else (some false)) = some r := H
                    have A32 := Aside0.mk A320
                    clear A320
                    by_cases c33 : t268 = true
                    · subst c33
                      have H1 : (impl_isWalk.l0 k2 l1_0 (l1_0.length : Int) (wrap64 (x25_2 + 1)) l0_0) = some r := by rw [if_pos rfl] at H; exact H
                      clear H
                      have H := H1
                      clear H1
                      have H' := Aside0.mk H
                      clear H
                      have p266 : 0 ≤ (x25_2 : Int) := of_decide_eq_true (by first | (with_reducible assumption) | assumption)
                      have q266 : x25_2 < (l1_0.length : Int) := of_decide_eq_true (by first | (with_reducible assumption) | assumption)
                      obtain ⟨ad266, e266, hx266_0⟩ := Kd.at_int HR1_0.out x25_2 p266 q266
                      cases e266
                      replace hx266_0 := (HB.out.cell (World.block_lt_of_cell? w _ hx266_0)).trans hx266_0
                      replace p266 := eq_true p266
                      replace q266 := eq_true q266
                      have hnb34 := NB260_261.out
                      have hnc34 := NB261_260.out
                      have hcz35_0 : wr.cell? ⟨gb260, 0, none⟩ = some (.slice A0_0 l0_0.length c0_0) := (blk_cell BK260.out 0).trans rfl
                      have hfz35_0 := blk_frozen BK260.out 0
                      have p267 : 0 ≤ (x25_2 : Int) := of_decide_eq_true (by first | (with_reducible assumption) | assumption)
                      have q267 : x25_2 < (l0_0.length : Int) := of_decide_eq_true (by first | (with_reducible assumption) | assumption)
                      obtain ⟨ad267, A267_0, c267_0, e267, hx267_0, hl267_0, hi267_0⟩ := at_L1 HR0_0.out x25_2 p267 q267
                      cases e267
                      replace hx267_0 := (HB.out.cell (World.block_lt_of_cell? w _ hx267_0)).trans hx267_0
                      have HR267_0 := Aside0.mk hi267_0
                      have HC267_0 := Aside0.mk hl267_0
                      clear hi267_0 hl267_0
                      replace p267 := eq_true p267
                      replace q267 := eq_true q267
                      go_wp2_with (first | ((with_reducible refine gate_callee (f := 77) rfl ?_); refine goesL_ (some 39) rfl rfl Try.func77 (by kernel_rfl) rfl #[.int .i64 (rd l1_0 x25_2), .int .i64 0, .int .i64 ji31] rfl (by (try simp only [List.map_toArray, List.map_cons, List.map_nil]); first | done | (simp only [hji31]; rfl) | rfl | (simp only [List.length_drop, List.length_take]; rfl)) ?_; (with_reducible refine (impl_in.calls (rd l1_0 x25_2) 0 ji31 true _ A32.out).mono ?_); rintro e w' ⟨rfl, ⟨nd, rfl⟩⟩; refine ⟨_, rfl, ?_⟩))
                      go_roundg k2
                      case measure => have := HJ2.out; have := HK2.out; omega
                      case rel => exact ⟨(wrap64 (x25_2 + 1)), (by first | rfl | (simp; done) | (simp [*]; done)), H', ⟨by have := HJ2.out; have := HK2.out; omega⟩, ⟨by (with_reducible repeat (first | refine blk_drewN ?_ _ | refine blk_drew ?_ | refine blk_alloc ?_ _)); exact BK260.out⟩, ⟨by (with_reducible repeat (first | refine blk_drewN ?_ _ | refine blk_drew ?_ | refine blk_alloc ?_ _)); exact BK261.out⟩, ⟨by repeat (first | (with_reducible first | exact HB.out | apply below_alloc | apply pw_below_drewN | apply below_drew1 | refine below_set ?_ GE260.out | refine below_set ?_ GE261.out) | exact HB.out)⟩⟩
                    · replace c33 := Bool.eq_false_iff.mpr c33
                      subst c33
                      have H1 : (some false) = some r := by rw [if_neg (show ¬ (false = true) by decide)] at H; exact H
                      clear H
                      have H := H1
                      clear H1
                      obtain rfl := Option.some.inj H
                      have p266 : 0 ≤ (x25_2 : Int) := of_decide_eq_true (by first | (with_reducible assumption) | assumption)
                      have q266 : x25_2 < (l1_0.length : Int) := of_decide_eq_true (by first | (with_reducible assumption) | assumption)
                      obtain ⟨ad266, e266, hx266_0⟩ := Kd.at_int HR1_0.out x25_2 p266 q266
                      cases e266
                      replace hx266_0 := (HB.out.cell (World.block_lt_of_cell? w _ hx266_0)).trans hx266_0
                      replace p266 := eq_true p266
                      replace q266 := eq_true q266
                      have hnb36 := NB260_261.out
                      have hnc36 := NB261_260.out
                      have hcz37_0 : wr.cell? ⟨gb260, 0, none⟩ = some (.slice A0_0 l0_0.length c0_0) := (blk_cell BK260.out 0).trans rfl
                      have hfz37_0 := blk_frozen BK260.out 0
                      have p267 : 0 ≤ (x25_2 : Int) := of_decide_eq_true (by first | (with_reducible assumption) | assumption)
                      have q267 : x25_2 < (l0_0.length : Int) := of_decide_eq_true (by first | (with_reducible assumption) | assumption)
                      obtain ⟨ad267, A267_0, c267_0, e267, hx267_0, hl267_0, hi267_0⟩ := at_L1 HR0_0.out x25_2 p267 q267
                      cases e267
                      replace hx267_0 := (HB.out.cell (World.block_lt_of_cell? w _ hx267_0)).trans hx267_0
                      have HR267_0 := Aside0.mk hi267_0
                      have HC267_0 := Aside0.mk hl267_0
                      clear hi267_0 hl267_0
                      replace p267 := eq_true p267
                      replace q267 := eq_true q267
                      go_wp2_with (first | ((with_reducible refine gate_callee (f := 77) rfl ?_); refine goesL_ (some 39) rfl rfl Try.func77 (by kernel_rfl) rfl #[.int .i64 (rd l1_0 x25_2), .int .i64 0, .int .i64 ji31] rfl (by (try simp only [List.map_toArray, List.map_cons, List.map_nil]); first | done | (simp only [hji31]; rfl) | rfl | (simp only [List.length_drop, List.length_take]; rfl)) ?_; (with_reducible refine (impl_in.calls (rd l1_0 x25_2) 0 ji31 false _ A32.out).mono ?_); rintro e w' ⟨rfl, ⟨nd, rfl⟩⟩; refine ⟨_, rfl, ?_⟩))
                      go_ret
                      exact ⟨by first | rfl | (simp [errW_none, errW_some] <;> rfl) | (simp only [← hji31]; first | rfl | (simp [errW_none, errW_some] <;> rfl)) | (simp [*, errW_none, errW_some] <;> rfl), by repeat (first | (with_reducible first | exact HB.out | apply below_alloc | apply pw_below_drewN | apply below_drew1 | refine below_set ?_ GE260.out | refine below_set ?_ GE261.out) | exact HB.out)⟩
                  · rw [if_neg c30] at H
                    exact absurd H (by simp)
                · rw [if_neg c29] at H
                  exact absurd H (by simp)
              · rw [if_neg c28] at H
                exact absurd H (by simp)
            · rw [if_neg c27] at H
              have c27b0 : decide (x25_2 < (l1_0.length : Int)) = false := decide_eq_false c27
              clear c27
              obtain rfl := Option.some.inj H
              go_wp2
              go_ret
              exact ⟨by first | rfl | (simp [errW_none, errW_some] <;> rfl) | (simp [*, errW_none, errW_some] <;> rfl), by repeat (first | (with_reducible first | exact HB.out | apply below_alloc | apply pw_below_drewN | apply below_drew1 | refine below_set ?_ GE260.out | refine below_set ?_ GE261.out) | exact HB.out)⟩
def impl_areRotors.f (k : Nat) (l0_0 : List (List Int)) (l1 : List Int) : Option (Bool) := (impl_isWalk.f k l0_0 l1 0).bind fun t270 => (some t270)
set_option maxHeartbeats 8000000 in
set_option maxRecDepth 100000 in
theorem impl_areRotors.calls (k : Nat) (A0_0 : Option Addr) (c0_0 : Nat) (l0_0 : List (List Int)) (A1 : Option Addr) (c1 : Nat) (l1 : List Int) (r : Bool) (w : World) (hr0_0 : Kd.C (Kd.slice 3 (Kd.int .i64)) w A0_0 l0_0.length l0_0) (hc0_0 : l0_0.length ≤ c0_0) (hr1 : Kd.C (Kd.int .i64) w A1 l1.length l1) (hc1 : l1.length ≤ c1) (h : impl_areRotors.f k l0_0 l1 = some r) :
    Calls Try.prog 102 #[.agg #[.slice A0_0 l0_0.length c0_0], .slice A1 l1.length c1] w fun e w' => e = .returned (.bool r) ∧ Below w.heap.size w w' := by
  have hu30 := Try.underlying30
  have hu98 := Try.underlying98
  have HR0_0 := Aside0.mk hr0_0
  have HC0_0 := Aside0.mk hc0_0
  clear hr0_0 hc0_0
  have HR1 := Aside0.mk hr1
  have HC1 := Aside0.mk hc1
  clear hr1 hc1
  have HB := Aside0.mk (Below.refl w.heap.size w)
  have H : ((impl_isWalk.f k l0_0 l1 0).bind fun t270 => (some t270)) = some r := h
  clear h
  replace H := Option.bind_eq_some_iff.mp H
  obtain ⟨t270, A30, H⟩ := H
  replace H : (some t270) = some r := H
  have A3 := Aside0.mk A30
  clear A30
  obtain rfl := Option.some.inj H
  go_enter Try.func102, Try.ntmps102
  go_wp2_with (first | ((with_reducible refine gate_dst (N := 2) rfl ?_); refine box_event ?hg (N := 2) ?hd (cs := #[.slice A0_0 l0_0.length c0_0]) (t := 30) ?hr ?_; (case hd => rfl); (case hg => rfl); (case hr => first | (go_simp; done) | (go_simp; rfl)); intro gb269 hg w4 hbox hb; have n0_ := Aside0.mk (below_step (by repeat (first | (with_reducible first | exact HB.out | apply below_alloc | apply pw_below_drewN | apply below_drew1) | exact HB.out)) hb); have n1_ := Aside0.mk (hbox); have n2_ := Aside0.mk ((by rw [hg]; exact (below_size (by repeat (first | (with_reducible first | exact HB.out | apply below_alloc | apply pw_below_drewN | apply below_drew1) | exact HB.out))) : w.heap.size ≤ gb269)); have n3_ := Aside0.mk ((by rw [hg]; exact (below_size (by repeat (first | (with_reducible first | exact HB.out | apply below_alloc | apply pw_below_drewN | apply below_drew1) | exact HB.out))) : w.heap.size ≤ gb269)); clear HB; have HB := n0_; have BK269 := n1_; have GW269 := n2_; have GE269 := n3_; clear n0_ n1_ n2_ n3_; clear hb hbox hg; have hcz5_0 : w4.cell? ⟨gb269, 0, none⟩ = some (.slice A0_0 l0_0.length c0_0) := (blk_cell BK269.out 0).trans rfl; have hfz5_0 := blk_frozen BK269.out 0) | ((with_reducible refine gate_callee (f := 123) rfl ?_); refine goesL_ (some 8) rfl rfl Try.func123 (by kernel_rfl) rfl #[.agg #[.slice A0_0 l0_0.length c0_0], .agg #[.slice A1 l1.length c1, .int .i64 0]] rfl (by (try simp only [List.map_toArray, List.map_cons, List.map_nil]); first | done | rfl | (simp only [List.length_drop, List.length_take]; rfl)) ?_; (with_reducible refine (impl_isWalk.calls k _ _ l0_0 _ _ l1 0 t270 _ ?side1 ?side2 ?side3 ?side4 A3.out).mono ?_); (case side1 => repeat (first | exact (Kd.C_below HR0_0.out HB.out) | (with_reducible refine Kd.C_alloc ?_ _) | (with_reducible refine Kd.C_drewN ?_ _) | (with_reducible refine Kd.C_drew ?_))); (case side2 => exact HC0_0.out); (case side3 => repeat (first | exact (Kd.C_below HR1.out HB.out) | (with_reducible refine Kd.C_alloc ?_ _) | (with_reducible refine Kd.C_drewN ?_ _) | (with_reducible refine Kd.C_drew ?_))); (case side4 => exact HC1.out); rintro e w6 ⟨rfl, hb⟩; refine ⟨_, rfl, ?_⟩; have n0_ := Aside0.mk (blk_below (g := gb269) (o := .cells #[.slice A0_0 l0_0.length c0_0] 30 (0, 0)) (by (with_reducible repeat (first | refine blk_drewN ?_ _ | refine blk_drew ?_ | refine blk_alloc ?_ _)); exact BK269.out) hb); have n1_ := Aside0.mk (below_step (by repeat (first | (with_reducible first | exact HB.out | apply below_alloc | apply pw_below_drewN | apply below_drew1 | refine below_set ?_ GE269.out) | exact HB.out)) hb); clear BK269; clear HB; have BK269 := n0_; have HB := n1_; clear n0_ n1_; (try clear hb); (try clear hb2); (try clear hk); (try clear hi)))
  go_ret
  exact ⟨by first | rfl | (simp [errW_none, errW_some] <;> rfl) | (simp [*, errW_none, errW_some] <;> rfl), by repeat (first | (with_reducible first | exact HB.out | apply below_alloc | apply pw_below_drewN | apply below_drew1 | refine below_set ?_ GE269.out) | exact HB.out)⟩
end Go.Proofs.Ytnbnalbomflafaa.GR
/-! ## GR2 -/
namespace Go.Proofs.Ytnbnalbomflafaa.GR
open Go.RowKit Go.Proofs.YtnbnalbomflafaaW.PrintWords Go.Proofs.YtnbnalbomflafaaW.PrintLast Go.Proofs.YtnbnalbomflafaaW.PrintMore
open Go.Proofs.Ytnbnalbomflafaa.GA Go.Proofs.Ytnbnalbomflafaa.GB Go.Proofs.Ytnbnalbomflafaa.GD Go.Proofs.Ytnbnalbomflafaa.KA
attribute [local go_sem] max2_int min2_int max_two min_two max_three min_three max_four min_four   -- for this text's walks alone
set_option linter.unusedVariables false
set_option linter.unusedSimpArgs false
mutual
def impl_RotorStacks.j0 : Nat → Int → List Int → Int → Bool → List (List Int) → Option ((List (List Int)) × Bool)
  | 0, _, _, _, _, _ => none
  | k + 1, x1, x2, x3, x30, x272000 => if x30 = true then (some (([] : List (List Int)), false)) else (impl_RotorStacks.l0 k x1 x2 x3 x272000 (x272000.length : Int) 0 ([] : List (List Int)))
def impl_RotorStacks.l0 : Nat → Int → List Int → Int → List (List Int) → Int → Int → List (List Int) → Option ((List (List Int)) × Bool)
  | 0, _, _, _, _, _, _, _ => none
  | k + 1, x1, x2, x3, x34, x35, x36, x280000 => if x36 < x35 then (if 0 ≤ x36 then (if x36 < (x34.length : Int) then (impl_RotorStacks.l1 k x1 x2 x3 x36 (rd_L1 x34 x36) (([] : List Int)) 1 x34 x35 x36 x280000) else (none)) else (none)) else (some (x280000, true))
def impl_RotorStacks.l1 : Nat → Int → List Int → Int → Int → List Int → List Int → Int → List (List Int) → Int → Int → List (List Int) → Option ((List (List Int)) × Bool)
  | 0, _, _, _, _, _, _, _, _, _, _, _ => none
  | k + 1, x1, x2, x3, x11, x12, x13, x14, x34, x35, x36, x280000 => if x14 ≤ x3 then (if x11 = x1 then (if x280000.length < 5864062014805 then (impl_RotorStacks.l0 k x1 x2 x3 x34 x35 (wrap64 (x36 + 1)) (x280000 ++ [x13])) else (none)) else (if (x12.length : Int) > 0 then (if 0 ≤ x11 then (if x11 < (x2.length : Int) then (if (x12.length : Int) = 0 then (none) else (if x13.length < 17592186044416 then (impl_RotorStacks.l1 k x1 x2 x3 x11 x12 (x13 ++ [Int.tmod (wrap64 ((rd x2 x11) + x14)) (x12.length : Int)]) (wrap64 (x14 + 1)) x34 x35 x36 x280000) else (none))) else (none)) else (none)) else (if x280000.length < 5864062014805 then (impl_RotorStacks.l0 k x1 x2 x3 x34 x35 (wrap64 (x36 + 1)) (x280000 ++ [x13])) else (none)))) else (if x280000.length < 5864062014805 then (impl_RotorStacks.l0 k x1 x2 x3 x34 x35 (wrap64 (x36 + 1)) (x280000 ++ [x13])) else (none))
end
def impl_RotorStacks.f (k : Nat) (l0_0 : List (List Int)) (a1 : Int) (l2 : List Int) (a3 : Int) : Option ((List (List Int)) × Bool) := (impl_has.f l0_0 (([a1] : List Int))).bind fun t276 => (if t276 = true then ((impl_areRotors.f k l0_0 l2).bind fun t277 => (if t277 = true then ((impl_in.f a3 0 12).bind fun t278 => (impl_RotorStacks.j0 k a1 l2 a3 (!t278) l0_0)) else (impl_RotorStacks.j0 k a1 l2 a3 true l0_0))) else (impl_RotorStacks.j0 k a1 l2 a3 true l0_0))
def spec_l1Own.f (l0 : List Int) : Option (List Int) := (some (([] : List Int) : List Int)).bind fun y335 => (if y335.length + l0.length < 17592186044416 then (some (y335 ++ l0)) else (none))
set_option maxHeartbeats 8000000 in
set_option maxRecDepth 100000 in
theorem spec_l1Own.calls (A0 : Option Addr) (c0 : Nat) (l0 : List Int) (r : List Int) (w : World) (hr0 : Kd.C (Kd.int .i64) w A0 l0.length l0) (hc0 : l0.length ≤ c0) (h : spec_l1Own.f l0 = some r) :
    Calls Try.prog 113 #[.slice A0 l0.length c0] w fun e w' => ∃ v0_ : Value, e = .returned (v0_) ∧ Kd.R (Kd.int .i64) 3 w' w.heap.size (fun _ => True) v0_ r ∧ Below w.heap.size w w' := by
  have HR0 := Aside0.mk hr0
  have HC0 := Aside0.mk hc0
  clear hr0 hc0
  have HB := Aside0.mk (Below.refl w.heap.size w)
  have H : ((some (([] : List Int) : List Int)).bind fun y335 => (if y335.length + l0.length < 17592186044416 then (some (y335 ++ l0)) else (none))) = some r := h
  clear h
  obtain ⟨y335, hy335⟩ : ∃ y_ : List Int, y_ = (([] : List Int)) := ⟨_, rfl⟩
  replace H : (if y335.length + l0.length < 17592186044416 then (some (y335 ++ l0)) else (none)) = some r := by first | (rw [hy335]; with_reducible exact H) | (have H2_ := (Option.bind_some _ _).symm.trans H; rw [hy335]; with_reducible exact H2_) | (have H2_ := (Option.bind_some _ _).symm.trans H; with_reducible exact H2_) | with_reducible exact H | (rw [hy335]; exact H) | exact H
  have Ny335 := Aside0.mk hy335
  clear hy335
  by_cases c2 : y335.length + l0.length < 17592186044416
  · rw [if_pos c2] at H
    have LMc2 := Aside0.mk c2
    clear c2
    obtain ⟨y338, hy338⟩ : ∃ y_ : List Int, y_ = (y335 ++ l0) := ⟨_, rfl⟩
    replace H : (some y338) = some r := by first | (rw [hy338]; with_reducible exact H) | (have H2_ := (Option.bind_some _ _).symm.trans H; rw [hy338]; with_reducible exact H2_) | (have H2_ := (Option.bind_some _ _).symm.trans H; with_reducible exact H2_) | with_reducible exact H | (rw [hy338]; exact H) | exact H
    have Ny338 := Aside0.mk hy338
    clear hy338
    obtain rfl := Option.some.inj H
    go_enter Try.func113, Try.ntmps113
    go_wp2_with (first | ((with_reducible refine gate_dst (N := 3) rfl ?_); refine Kd.R_lit (Kd.int .i64) _ 3 ?hg (N := 3) ?hd (xs := ([] : List Int)) (inner := []) (ok := fun _ => True) (okp := fun _ => True) ?hr ?hp (fun _ hk => hk) trivial (Below.refl _ _) (Nat.le_refl _) (by simp) ?_; (case hd => rfl); (case hg => rfl); (case hr => first | (go_simp; done) | (go_simp; rfl)); (case hp => exact (Reps.none _ _)); intro v336 w3 ho4 hb hg_ hnew_; clear hg_ hnew_; (first | rw [← Ny335.out] at ho4 | (simp only [Int.reduceToNat] at ho4; rw [← Ny335.out] at ho4)); have n0_ := Aside0.mk (Kd.R_lower ho4 (below_size (by repeat (first | (with_reducible first | exact HB.out | apply below_alloc | apply pw_below_drewN | apply below_drew1) | exact HB.out)))); have n1_ := Aside0.mk (below_step (by repeat (first | (with_reducible first | exact HB.out | apply below_alloc | apply pw_below_drewN | apply below_drew1) | exact HB.out)) hb); clear HB; have HO337 := n0_; have HB := n1_; clear n0_ n1_; clear hb ho4) | ((with_reducible refine gate_builtin (b := .append) (xs := #[.tmp 3, .tmp 4]) rfl ?_); at_builtin; refine Kd.R_append_rows (Kd.int .i64) (w0 := w) w.heap.size rfl (.tmp 3) (.tmp 4) 37 3 (.int .i64 0) 8 rfl Try.underlying37 info3 rfl (by decide) (by omega) v336 y335 l0 _ _ _ (fun _ => True) (fun _ => False) rfl rfl ?aO ?aR (fun _ _ h => h) (fun _ h => h.elim) ?aF ?aB ?aS ?aL ?_; (case aR => repeat (first | exact (Kd.C_below HR0.out HB.out) | (with_reducible refine Kd.C_alloc ?_ _) | (with_reducible refine Kd.C_drewN ?_ _) | (with_reducible refine Kd.C_drew ?_))); (case aB => exact (by repeat (first | (with_reducible first | exact HB.out | apply below_alloc | apply pw_below_drewN | apply below_drew1) | exact HB.out))); (case aF => exact (fun _ _ => trivial)); (case aO => exact (by (with_reducible repeat (first | apply Kd.R_alloc | apply Kd.R_drewN | apply Kd.R_drew)); exact HO337.out)); (case aS => exact (below_size (by repeat (first | (with_reducible first | exact HB.out | apply below_alloc | apply pw_below_drewN | apply below_drew1) | exact HB.out)))); (case aL => have := LMc2.out; omega); intro v339 w5 ho hb hg hat; rw [← Ny338.out] at ho; have n0_ := Aside0.mk (hb); have n1_ := Aside0.mk (ho); clear HB; clear HO337; have HB := n0_; have HO340 := n1_; clear n0_ n1_; clear ho hb hg hat))
    go_ret
    exact ⟨_, by first | rfl | (simp [errW_none, errW_some] <;> rfl) | (simp [*, errW_none, errW_some] <;> rfl), by (with_reducible repeat (first | apply Kd.R_alloc | apply Kd.R_drewN | apply Kd.R_drew)); exact HO340.out, by repeat (first | (with_reducible first | exact HB.out | apply below_alloc | apply pw_below_drewN | apply below_drew1) | exact HB.out)⟩
  · rw [if_neg c2] at H
    exact absurd H (by simp)
def spec_skNext.f (l0_0 : List (List Int)) (l1_0 : List (List Int)) (a2 : Int) : Option (Int) := if 0 ≤ a2 then (if a2 < (l1_0.length : Int) then (if ((rd_L1 l1_0 a2).length : Int) = 0 then (some (-1)) else (if a2 < (l0_0.length : Int) then (if 0 < ((rd_L1 l1_0 a2).length : Int) then (if 0 ≤ (rd (rd_L1 l1_0 a2) 0) then (if (rd (rd_L1 l1_0 a2) 0) < ((rd_L1 l0_0 a2).length : Int) then (some (rd (rd_L1 l0_0 a2) (rd (rd_L1 l1_0 a2) 0))) else (none)) else (none)) else (none)) else (none))) else (none)) else (none)
end Go.Proofs.Ytnbnalbomflafaa.GR
/-! ## Rc -/
namespace Go.Proofs.Ytnbnalbomflafaa.RA
open Go.RowKit Go.Proofs.YtnbnalbomflafaaW.PrintWords Go.Proofs.YtnbnalbomflafaaW.PrintLast Go.Proofs.YtnbnalbomflafaaW.PrintMore
open Go.Proofs.Ytnbnalbomflafaa.GA
open Go.Proofs.Ytnbnalbomflafaa.GD hiding rd_L1 at_L1
open Go.Proofs.Ytnbnalbomflafaa.GR hiding rd_L1 at_L1
open Go.Proofs.Ytnbnalbomflafaa.KA (stacksB placeB succ_of wrap_up impl_areStacks.f okStacks)
set_option linter.unusedVariables false
set_option linter.unusedSimpArgs false
/-- The answers: lists. -/
def ResC (w : World) (R : List Int) (ok : Bool) (e : Ending) (w' : World) : Prop := ∃ v, e = .returned (.tuple #[v, .bool ok]) ∧ Below w.heap.size w w' ∧ Aside0 (ListC w' v R)
def ResD (w : World) (R : List Int) (ok : Bool) (e : Ending) (w' : World) : Prop := ∃ v, e = .returned (.tuple #[v, .bool ok]) ∧ Below w.heap.size w w' ∧ Aside0 (ListD w' w.heap.size v R)
theorem rdD (l : List (List Int)) (i : Int) : GD.rd_L1 l i = GA.rd_L1 l i := rfl
theorem rdR (l : List (List Int)) (i : Int) : GR.rd_L1 l i = GA.rd_L1 l i := rfl
end Go.Proofs.Ytnbnalbomflafaa.RA
/-! ## Re -/
namespace Go.Proofs.Ytnbnalbomflafaa.RA
open Go.RowKit Go.Proofs.YtnbnalbomflafaaW.PrintWords Go.Proofs.YtnbnalbomflafaaW.PrintLast Go.Proofs.YtnbnalbomflafaaW.PrintMore
open Go.Proofs.Ytnbnalbomflafaa.GA
open Go.Proofs.Ytnbnalbomflafaa.GD hiding rd_L1 at_L1
open Go.Proofs.Ytnbnalbomflafaa.GR hiding rd_L1 at_L1
open Go.Proofs.Ytnbnalbomflafaa.KA
set_option linter.unusedVariables false
set_option linter.unusedSimpArgs false
def okWalk : List (List Int) → List Int → Bool
  | r :: l, x :: s => inB x 0 (max ((r.length : Int) - 1) 0) && okWalk l s
  | _, _ => true
def walkB (l : List (List Int)) (x : List Int) (a : Int) : Bool := placeB l a && decide (x.length = l.length) && okWalk l x
theorem okWalk_drop (l : List (List Int)) (s : List Int) (i : Nat) (h1 : i < l.length) (h2 : i < s.length) : okWalk (l.drop i) (s.drop i) = (inB s[i] 0 (max ((l[i].length : Int) - 1) 0) && okWalk (l.drop (i + 1)) (s.drop (i + 1))) := by
  rw [List.drop_eq_getElem_cons h1, List.drop_eq_getElem_cons h2]
  rfl
theorem most_eq (a b : Int) : spec_l1Most.f a b = some (max b a) := by
  unfold spec_l1Most.f
  split <;> congr 1 <;> omega
theorem waGood_loop (l : List (List Int)) (s : List Int) (hn : l.length ≤ 8) (hsl : s.length = l.length) (h5 : ∀ r ∈ l, r.length ≤ 5) (a : Int) (d : Nat) : ∀ (k i : Nat), i + d = l.length → d < k → spec_waGood.l0 k l (l.length : Int) (i : Int) s a = some (okWalk (l.drop i) (s.drop i)) := by
  induction d with
  | zero =>
    intro k i hi hk
    obtain ⟨k, rfl⟩ := succ_of hk
    unfold spec_waGood.l0
    rw [if_neg (by omega), List.drop_of_length_le (by omega), List.drop_of_length_le (by omega)]
    rfl
  | succ d ih =>
    intro k i hi hk
    obtain ⟨k, rfl⟩ := succ_of hk
    have hlt : i < s.length := by omega
    have hil : i < l.length := by omega
    have := h5 _ (List.getElem_mem hil)
    unfold spec_waGood.l0
    rw [if_pos (by omega), if_pos (by omega), if_pos (by omega), if_pos (by omega), rdD, rdL_at l i hil, rd_at s i hlt, okWalk_drop l s i hil hlt, most_eq, wrap_id (by omega) (by omega)]
    simp only [Option.bind_some, l1In_eq]
    cases inB s[i] 0 (max ((l[i].length : Int) - 1) 0) with
    | true => rw [if_pos rfl, wrap_up hil (by omega), ih k (i + 1) (by omega) (by omega), Bool.true_and]
    | false => rw [if_neg (by decide), Bool.false_and]
theorem isWalk_loop (l : List (List Int)) (s : List Int) (hn : l.length ≤ 8) (hsl : s.length = l.length) (h5 : ∀ r ∈ l, r.length ≤ 5) (d : Nat) : ∀ (k i : Nat), i + d = s.length → d < k → impl_isWalk.l0 k s (s.length : Int) (i : Int) l = some (okWalk (l.drop i) (s.drop i)) := by
  induction d with
  | zero =>
    intro k i hi hk
    obtain ⟨k, rfl⟩ := succ_of hk
    unfold impl_isWalk.l0
    rw [if_neg (by omega), List.drop_of_length_le (by omega), List.drop_of_length_le (by omega)]
    rfl
  | succ d ih =>
    intro k i hi hk
    obtain ⟨k, rfl⟩ := succ_of hk
    have hlt : i < s.length := by omega
    have hil : i < l.length := by omega
    have := h5 _ (List.getElem_mem hil)
    unfold impl_isWalk.l0
    rw [if_pos (by omega), if_pos (by omega), if_pos (by omega), if_pos (by omega), rdR, rdL_at l i hil, rd_at s i hlt, okWalk_drop l s i hil hlt, wrap_id (by omega) (by omega)]
    rw [in_eq, show mx ((l[i].length : Int) - 1) 0 = max ((l[i].length : Int) - 1) 0 by unfold mx; omega]
    simp only [Option.bind_some]
    cases inB s[i] 0 (max ((l[i].length : Int) - 1) 0) with
    | true => rw [if_pos rfl, wrap_up hlt (by omega), ih k (i + 1) (by omega) (by omega), Bool.true_and]
    | false => rw [if_neg (by decide), Bool.false_and]
theorem waGood_eq (l : List (List Int)) (s : List Int) (a : Int) (k : Nat) (hk : 100 ≤ k) : spec_waGood.f k l s a = some (walkB l s a) := by
  obtain ⟨k, rfl⟩ := succ_of (show 0 < k by omega)
  unfold spec_waGood.f walkB
  rw [grPlace_eq l a _ (by omega)]
  simp only [Option.bind_some]
  cases hp : placeB l a with
  | false => simp [spec_waGood.j0]
  | true =>
    obtain ⟨hg, h1, h8, ha0, hal⟩ := place_is hp
    rw [if_pos rfl]
    simp only [spec_waGood.j0]
    by_cases hsl : s.length = l.length
    · rw [show ((s.length : Int) != (l.length : Int)) = false by simp [hsl], if_neg (by decide)]
      have := waGood_loop l s h8 hsl (fun r hr => (graph_row hg hr).1) a l.length k 0 (by omega) (by omega)
      rw [List.drop_zero, List.drop_zero] at this
      rw [show (0 : Int) = ((0 : Nat) : Int) from rfl, this]
      simp [hsl]
    · rw [show ((s.length : Int) != (l.length : Int)) = true by simp; omega, if_pos rfl]
      simp [hsl]
theorem place_zero {l : List (List Int)} {a : Int} (h : placeB l a = true) : placeB l 0 = true := by
  obtain ⟨hg, h1, h8, ha0, hal⟩ := place_is h
  unfold placeB inB
  rw [hg, Bool.true_and, decide_eq_true_eq]
  omega
theorem isWalk_eq (l : List (List Int)) (s : List Int) (a : Int) (k : Nat) (hk : 100 ≤ k) : impl_isWalk.f k l s a = some (walkB l s a) := by
  obtain ⟨k, rfl⟩ := succ_of (show 0 < k by omega)
  unfold impl_isWalk.f walkB impl_has.f
  rw [hasB_one]
  simp only [Option.bind_some]
  cases hp : placeB l a with
  | false => simp [impl_isWalk.j0]
  | true =>
    obtain ⟨hg, h1, h8, ha0, hal⟩ := place_is hp
    rw [if_pos rfl]
    simp only [impl_isWalk.j0]
    by_cases hsl : s.length = l.length
    · rw [show ((s.length : Int) != (l.length : Int)) = false by simp [hsl], if_neg (by decide)]
      have := isWalk_loop l s h8 hsl (fun r hr => (graph_row hg hr).1) s.length k 0 (by omega) (by omega)
      rw [List.drop_zero, List.drop_zero] at this
      rw [show (0 : Int) = ((0 : Nat) : Int) from rfl, this]
      simp [hsl]
    · rw [show ((s.length : Int) != (l.length : Int)) = true by simp; omega, if_pos rfl]
      simp [hsl]
theorem areRotors_eq (l : List (List Int)) (s : List Int) (a : Int) (hp : placeB l a = true) (k : Nat) (hk : 100 ≤ k) : impl_areRotors.f k l s = some (walkB l s a) := by
  unfold impl_areRotors.f
  rw [isWalk_eq l s 0 k hk]
  unfold walkB
  rw [hp, place_zero hp]
  rfl
theorem walk_is {l : List (List Int)} {s : List Int} {a : Int} (h : walkB l s a = true) : placeB l a = true ∧ s.length = l.length ∧ okWalk l s = true := by
  unfold walkB at h
  simp only [Bool.and_eq_true, decide_eq_true_eq] at h
  exact ⟨h.1.1, h.1.2, h.2⟩
end Go.Proofs.Ytnbnalbomflafaa.RA
/-! ## Cb -/
namespace Go.Proofs.Ytnbnalbomflafaa.RA
open Go.RowKit Go.Proofs.YtnbnalbomflafaaW.PrintWords Go.Proofs.YtnbnalbomflafaaW.PrintLast Go.Proofs.YtnbnalbomflafaaW.PrintMore
open Go.Proofs.Ytnbnalbomflafaa.KA
set_option linter.unusedVariables false
set_option linter.unusedSimpArgs false
def Dist (l : List (List Int)) (a b : Int) : Nat → Int → Prop
  | 0, v => v = a ∨ v = b
  | m + 1, v => v = a ∨ v = b ∨ ∃ q ∈ GA.rd_L1 l v, Dist l a b m q
theorem dist_of {l : List (List Int)} {a b p q : Int} (h : Reach l p q) : ∀ m, Dist l a b m q → ∃ m', Dist l a b m' p := by
  induction h with
  | here => exact fun m h => ⟨m, h⟩
  | step h1 h2 ih => exact fun m hm => ih (m + 1) (Or.inr (Or.inr ⟨_, h2, hm⟩))
theorem dist_ends {l : List (List Int)} {a b v : Int} (h : Ends l a b v) : ∃ m, Dist l a b m v := by
  rcases h.1 with h | h
  · exact dist_of h 0 (Or.inl rfl)
  · exact dist_of h 0 (Or.inr rfl)
theorem least_of {P : Nat → Prop} : ∀ m, P m → ∃ n, P n ∧ ∀ k, k < n → ¬ P k := by
  intro m
  induction m using Nat.strongRecOn with
  | ind m ih =>
    intro hm
    by_cases h : ∃ k, k < m ∧ P k
    · obtain ⟨k, hk, hp⟩ := h
      exact ih k hk hp
    · exact ⟨m, hm, fun k hk hp => h ⟨k, hk, hp⟩⟩
theorem dist_fun (l : List (List Int)) (a b : Int) (n : Nat) (hE : ∀ v : Int, 0 ≤ v → v < n → ∃ m, Dist l a b m v) (hrow : ∀ v : Int, 0 ≤ v → v < n → ∀ q ∈ GA.rd_L1 l v, 0 ≤ q ∧ q < n) :
    ∃ d : Int → Nat, ∀ v : Int, 0 ≤ v → v < n → v ≠ a → v ≠ b → ∃ q ∈ GA.rd_L1 l v, d q < d v := by
  classical
  refine ⟨fun v => if h : ∃ m, Dist l a b m v ∧ ∀ k, k < m → ¬ Dist l a b k v then h.choose else 0, fun v h0 h1 ha hb => ?_⟩
  have key : ∀ v : Int, 0 ≤ v → v < n → ∃ m, Dist l a b m v ∧ ∀ k, k < m → ¬ Dist l a b k v := fun v h0 h1 => by
    obtain ⟨m, hm⟩ := hE v h0 h1
    exact least_of m hm
  have hv := key v h0 h1
  simp only [dif_pos hv]
  obtain ⟨hm, hleast⟩ := hv.choose_spec
  cases hc : hv.choose with
  | zero =>
    rw [hc] at hm
    rcases hm with hm | hm
    · exact absurd hm ha
    · exact absurd hm hb
  | succ m =>
    rw [hc] at hm
    rcases hm with hm | hm | ⟨q, hq, hd⟩
    · exact absurd hm ha
    · exact absurd hm hb
    · refine ⟨q, hq, ?_⟩
      have hqn := hrow v h0 h1 q hq
      have hk := key q hqn.1 hqn.2
      rw [dif_pos hk]
      have := hk.choose_spec.2
      rcases Nat.lt_or_ge m hk.choose with h | h
      · exact absurd hd (this m h)
      · omega
def sumTo (f : Nat → Nat) : Nat → Nat
  | 0 => 0
  | n + 1 => sumTo f n + f n
theorem sumTo_same (f g : Nat → Nat) : ∀ n, (∀ i, i < n → f i = g i) → sumTo f n = sumTo g n
  | 0, _ => rfl
  | n + 1, h => by
    unfold sumTo
    rw [sumTo_same f g n (fun i hi => h i (by omega)), h n (by omega)]
theorem sumTo_one (f g : Nat → Nat) (i : Nat) : ∀ n, i < n → (∀ j, j < n → j ≠ i → f j = g j) → sumTo f n + g i = sumTo g n + f i
  | 0, h, _ => by omega
  | n + 1, h, hj => by
    unfold sumTo
    by_cases hin : i = n
    · rw [hin, sumTo_same f g n (fun j hj2 => hj j (by omega) (by omega))]
      omega
    · have := sumTo_one f g i n (by omega) (fun j h1 h2 => hj j (by omega) h2)
      have := hj n (by omega) (by omega)
      omega
theorem sumTo_le (f : Nat → Nat) : ∀ n i, i < n → f i ≤ sumTo f n
  | 0, i, h => by omega
  | n + 1, i, h => by
    unfold sumTo
    by_cases hin : i = n
    · rw [hin]; omega
    · have := sumTo_le f n i (by omega); omega
def xs : Nat → Nat
  | 0 => 0
  | e + 1 => 5 * xs e + 5
theorem xs_mono : ∀ {e f : Nat}, e ≤ f → xs e ≤ xs f := by
  intro e f h
  induction h with
  | refl => exact Nat.le_refl _
  | step _ ih => exact Nat.le_trans ih (by show _ ≤ 5 * xs _ + 5; omega)
/-- How often a place is left until it is left by exit j. -/
def turns (deg j r : Nat) : Nat := (j + deg - 1 - r) % deg + 1
theorem turns_step (deg j r : Nat) (h5 : deg ≤ 5) (hj : j < deg) (hr : r < deg) : ((r + 1) % deg = j ∧ turns deg j r = 1 ∧ turns deg j ((r + 1) % deg) ≤ 5) ∨ (turns deg j ((r + 1) % deg) + 1 = turns deg j r) := by
  unfold turns
  have h : deg = 1 ∨ deg = 2 ∨ deg = 3 ∨ deg = 4 ∨ deg = 5 := by omega
  rcases h with rfl | rfl | rfl | rfl | rfl <;> omega
end Go.Proofs.Ytnbnalbomflafaa.RA
/-! ## Cc -/
namespace Go.Proofs.Ytnbnalbomflafaa.RA
open Go.RowKit Go.Proofs.YtnbnalbomflafaaW.PrintWords Go.Proofs.YtnbnalbomflafaaW.PrintLast Go.Proofs.YtnbnalbomflafaaW.PrintMore
open Go.Proofs.Ytnbnalbomflafaa.KA
set_option linter.unusedVariables false
set_option linter.unusedSimpArgs false
inductive Run (l : List (List Int)) (a b : Int) : Nat → Int → List Int → Int → Int → List Int → Int → Prop
  | stop (v : Int) (rot : List Int) (st : Int) (h : v = a ∨ v = b) : Run l a b 0 v rot st v rot st
  | go (s : Nat) (v : Int) (rot : List Int) (st v1 : Int) (rot1 : List Int) (st1 : Int) (ha : v ≠ a) (hb : v ≠ b) (h0 : 0 ≤ v) (h1 : v < l.length) (hr : v < rot.length) (k : Nat) (hk : k < (GA.rd_L1 l v).length)
      (hkr : Int.tmod (wrap64 (rd rot v + 1)) ((GA.rd_L1 l v).length : Int) = (k : Int)) (h : Run l a b s (rd (GA.rd_L1 l v) k) (rot.set v.toNat k) (wrap64 (st + 1)) v1 rot1 st1) : Run l a b (s + 1) v rot st v1 rot1 st1
def Rots (l : List (List Int)) (rot : List Int) : Prop := rot.length = l.length ∧ ∀ v : Int, 0 ≤ v → v < l.length → 0 < (GA.rd_L1 l v).length → 0 ≤ rd rot v ∧ rd rot v < (GA.rd_L1 l v).length
theorem rots_set {l : List (List Int)} {rot : List Int} (h : Rots l rot) {v : Int} (h0 : 0 ≤ v) (h1 : v < l.length) {k : Nat} (hk : k < (GA.rd_L1 l v).length) : Rots l (rot.set v.toNat k) := by
  refine ⟨by rw [List.length_set]; exact h.1, fun u u0 u1 hd => ?_⟩
  have hl := h.1
  by_cases hu : u = v
  · rw [hu, rd_set_same _ h0 (by omega)]
    omega
  · rw [rd_set_other _ h0 u0 hu]
    exact h.2 u u0 u1 hd
theorem run_ex (l : List (List Int)) (a b : Int) (h5 : ∀ v : Int, 0 ≤ v → v < l.length → (GA.rd_L1 l v).length ≤ 5) (hrow : ∀ v : Int, 0 ≤ v → v < l.length → ∀ q ∈ GA.rd_L1 l v, 0 ≤ q ∧ q < l.length)
    (hE : ∀ v : Int, 0 ≤ v → v < l.length → Ends l a b v) : ∀ (rot : List Int) (v st : Int), Rots l rot → 0 ≤ v → v < l.length → ∃ s v1 rot1 st1, Run l a b s v rot st v1 rot1 st1 ∧ Rots l rot1 := by
  classical
  obtain ⟨d, hd⟩ := dist_fun l a b l.length (fun v h0 h1 => dist_ends (hE v h0 h1)) hrow
  have hg : ∀ v : Int, ∃ j : Nat, 0 ≤ v → v < l.length → v ≠ a → v ≠ b → j < (GA.rd_L1 l v).length ∧ d (rd (GA.rd_L1 l v) j) < d v := fun v => by
    by_cases hv : 0 ≤ v ∧ v < l.length ∧ v ≠ a ∧ v ≠ b
    · obtain ⟨q, hq, hlt⟩ := hd v hv.1 hv.2.1 hv.2.2.1 hv.2.2.2
      obtain ⟨j, hj, hjq⟩ := List.mem_iff_getElem.1 hq
      exact ⟨j, fun _ _ _ _ => ⟨hj, by rw [rd_at _ j hj, hjq]; exact hlt⟩⟩
    · exact ⟨0, fun h0 h1 h2 h3 => absurd ⟨h0, h1, h2, h3⟩ hv⟩
  let g : Int → Nat := fun v => (hg v).choose
  have hgs : ∀ v : Int, 0 ≤ v → v < l.length → v ≠ a → v ≠ b → g v < (GA.rd_L1 l v).length ∧ d (rd (GA.rd_L1 l v) (g v)) < d v := fun v => (hg v).choose_spec
  obtain ⟨M, hM⟩ : ∃ M, ∀ v : Int, 0 ≤ v → v < l.length → d v ≤ M := ⟨sumTo (fun i => d (i : Int)) l.length, fun v h0 h1 => by
    obtain ⟨i, rfl⟩ := Int.eq_ofNat_of_zero_le h0
    exact sumTo_le (fun i => d (i : Int)) l.length i (by omega)⟩
  let T : List Int → Nat → Nat := fun rot i => (xs (M - d (i : Int)) + 1) * turns (GA.rd_L1 l (i : Int)).length (g (i : Int)) (rd rot (i : Int)).toNat
  suffices H : ∀ (m : Nat) (rot : List Int) (v st : Int), Rots l rot → 0 ≤ v → v < l.length → sumTo (T rot) l.length + (xs M - xs (M - d v)) < m → ∃ s v1 rot1 st1, Run l a b s v rot st v1 rot1 st1 ∧ Rots l rot1 from
    fun rot v st hR h0 h1 => H _ rot v st hR h0 h1 (Nat.lt_succ_self _)
  intro m
  induction m with
  | zero => intro rot v st _ _ _ h; omega
  | succ m ih =>
    intro rot v st hR h0 h1 hm
    by_cases ha : v = a
    · exact ⟨0, v, rot, st, Run.stop v rot st (Or.inl ha), hR⟩
    by_cases hb : v = b
    · exact ⟨0, v, rot, st, Run.stop v rot st (Or.inr hb), hR⟩
    obtain ⟨hj, hdj⟩ := hgs v h0 h1 ha hb
    have hdeg : 0 < (GA.rd_L1 l v).length := by omega
    have hdeg5 := h5 v h0 h1
    obtain ⟨hr0, hr1⟩ := hR.2 v h0 h1 hdeg
    obtain ⟨r, hr⟩ := Int.eq_ofNat_of_zero_le hr0
    have hrl : r < (GA.rd_L1 l v).length := by omega
    have hk : (r + 1) % (GA.rd_L1 l v).length < (GA.rd_L1 l v).length := Nat.mod_lt _ hdeg
    have hkr : Int.tmod (wrap64 (rd rot v + 1)) ((GA.rd_L1 l v).length : Int) = (((r + 1) % (GA.rd_L1 l v).length : Nat) : Int) := by
      rw [hr, wrap_id (by omega) (by omega)]
      rfl
    have hts := turns_step (GA.rd_L1 l v).length (g v) r hdeg5 hj hrl
    generalize hkk : (r + 1) % (GA.rd_L1 l v).length = k at hk hkr hts
    have hR2 := rots_set hR h0 h1 hk
    have hw := hrow v h0 h1 (rd (GA.rd_L1 l v) k) (by rw [rd_at _ k hk]; exact List.getElem_mem hk)
    have hrl2 := hR.1
    obtain ⟨i, rfl⟩ := Int.eq_ofNat_of_zero_le h0
    have hsum := sumTo_one (T (rot.set (i : Int).toNat k)) (T rot) i l.length (by omega) (fun j hj hji => by
      show _ * turns _ _ (rd (rot.set (i : Int).toNat k) (j : Int)).toNat = _ * turns _ _ (rd rot (j : Int)).toNat
      rw [rd_set_other _ h0 (by omega) (by omega)])
    have hTn : T (rot.set (i : Int).toNat k) i = (xs (M - d (i : Int)) + 1) * turns (GA.rd_L1 l (i : Int)).length (g (i : Int)) k := by
      show _ * turns _ _ (rd (rot.set (i : Int).toNat k) (i : Int)).toNat = _
      rw [rd_set_same _ h0 (by omega), Int.toNat_natCast]
    have hTo : T rot i = (xs (M - d (i : Int)) + 1) * turns (GA.rd_L1 l (i : Int)).length (g (i : Int)) r := by
      show _ * turns _ _ (rd rot (i : Int)).toNat = _
      rw [hr, Int.toNat_natCast]
    have hdM := hM (i : Int) h0 h1
    have hxM : xs (M - d (i : Int)) ≤ xs M := xs_mono (by omega)
    have hlt : sumTo (T (rot.set (i : Int).toNat k)) l.length + (xs M - xs (M - d (rd (GA.rd_L1 l (i : Int)) k))) < m := by
      rcases hts with ⟨h1_, h2_, h3_⟩ | h1_
      · rw [h1_] at hkk ⊢
        have hlow : xs (M - d (i : Int) + 1) ≤ xs (M - d (rd (GA.rd_L1 l (i : Int)) (g (i : Int)))) := xs_mono (by omega)
        have hhigh : xs (M - d (rd (GA.rd_L1 l (i : Int)) (g (i : Int)))) ≤ xs M := xs_mono (by omega)
        have hx : xs (M - d (i : Int) + 1) = 5 * xs (M - d (i : Int)) + 5 := rfl
        rw [h2_, Nat.mul_one] at hTo
        have hle := Nat.mul_le_mul_left (xs (M - d (i : Int)) + 1) h3_
        rw [← hTn] at hle
        rw [h1_] at hsum hle
        omega
      · rw [← h1_, Nat.mul_add, Nat.mul_one] at hTo
        rw [← hTn] at hTo
        omega
    obtain ⟨s, v1, rot1, st1, hrun, hR1⟩ := ih (rot.set (i : Int).toNat k) (rd (GA.rd_L1 l (i : Int)) k) (wrap64 (st + 1)) hR2 hw.1 hw.2 hlt
    exact ⟨s + 1, v1, rot1, st1, Run.go s _ rot st v1 rot1 st1 ha hb h0 h1 (by omega) k hk hkr hrun, hR1⟩
end Go.Proofs.Ytnbnalbomflafaa.RA
/-! ## GR3 -/
namespace Go.Proofs.Ytnbnalbomflafaa.GR
open Go.RowKit Go.Proofs.YtnbnalbomflafaaW.PrintWords Go.Proofs.YtnbnalbomflafaaW.PrintLast Go.Proofs.YtnbnalbomflafaaW.PrintMore
open Go.Proofs.Ytnbnalbomflafaa.GA Go.Proofs.Ytnbnalbomflafaa.GB Go.Proofs.Ytnbnalbomflafaa.GD Go.Proofs.Ytnbnalbomflafaa.KA
attribute [local go_sem] max2_int min2_int max_two min_two max_three min_three max_four min_four   -- for this text's walks alone
set_option linter.unusedVariables false
set_option linter.unusedSimpArgs false
mutual
def spec_skCycle.j1 : Nat → Int → List Int → Int → Option (List Int)
  | 0, _, _, _ => none
  | k + 1, x2, x7, x8 => if x8 = x2 then (spec_skCycle.l1 k x7 0 x7 (x7.length : Int) 0) else (some ([] : List Int))
def spec_skCycle.l1 : Nat → List Int → Int → List Int → Int → Int → Option (List Int)
  | 0, _, _, _, _, _ => none
  | k + 1, x7, x10, x46, x47, x48 => if x48 < x47 then (if 0 ≤ x48 then (if x48 < (x46.length : Int) then (if 0 ≤ x10 then (if x10 < (x7.length : Int) then (if (rd x46 x48) < (rd x7 x10) then (spec_skCycle.l1 k x7 x48 x46 x47 (wrap64 (x48 + 1))) else (spec_skCycle.l1 k x7 x10 x46 x47 (wrap64 (x48 + 1)))) else (none)) else (none)) else (none)) else (none)) else (if 0 ≤ x10 then (if x10 ≤ (x7.length : Int) then ((spec_l1Own.f (x7.drop (x10 : Int).toNat)).bind fun t364 => ((some (x7.take (x10 : Int).toNat : List Int)).bind fun y367 => (if t364.length + y367.length < 17592186044416 then (some (t364 ++ y367)) else (none)))) else (none)) else (none))
def spec_skCycle.l0 : Nat → Int → List Int → Int → Int → List (List Int) → List (List Int) → Option (List Int)
  | 0, _, _, _, _, _, _ => none
  | k + 1, x2, x7, x8, x9, x349000, x350000 => if x9 < (x349000.length : Int) then (if x8 ≥ 0 then (if x8 = x2 then (spec_skCycle.j1 k x2 x7 x8) else (if x7.length < 17592186044416 then ((spec_skNext.f x349000 x350000 x8).bind fun t357 => (spec_skCycle.l0 k x2 (x7 ++ [x8]) t357 (wrap64 (x9 + 1)) x349000 x350000)) else (none))) else (spec_skCycle.j1 k x2 x7 x8)) else (spec_skCycle.j1 k x2 x7 x8)
end
def spec_skCycle.f (k : Nat) (l0_0 : List (List Int)) (l1_0 : List (List Int)) (a2 : Int) : Option (List Int) := (spec_skNext.f l0_0 l1_0 a2).bind fun t353 => (spec_skCycle.l0 k a2 (([a2] : List Int)) t353 0 l0_0 l1_0)
def spec_skCycles.l0 : Nat → List (List Int) → Int → Int → List (List Int) → List (List Int) → Option ((List (List Int)))
  | 0, _, _, _, _, _ => none
  | k + 1, x5, x10, x11, x375000, x376000 => if x11 < x10 then ((spec_skCycle.f k x375000 x376000 x11).bind fun t376 => (if (t376.length : Int) > 0 then (if 0 < (t376.length : Int) then (if (rd t376 0) = x11 then (if x5.length < 5864062014805 then (spec_skCycles.l0 k (x5 ++ [t376]) x10 (wrap64 (x11 + 1)) x375000 x376000) else (none)) else (spec_skCycles.l0 k x5 x10 (wrap64 (x11 + 1)) x375000 x376000)) else (none)) else (spec_skCycles.l0 k x5 x10 (wrap64 (x11 + 1)) x375000 x376000))) else (some x5)
def spec_skCycles.f (k : Nat) (l0_0 : List (List Int)) (l1_0 : List (List Int)) : Option ((List (List Int))) := spec_skCycles.l0 k ([] : List (List Int)) (l0_0.length : Int) 0 l0_0 l1_0
def spec_CyclesOf.f (k : Nat) (l0_0 : List (List Int)) (a1 : Int) (l2_0 : List (List Int)) : Option ((List (List Int)) × Bool) := (spec_skGood.f k l0_0 a1 l2_0).bind fun t385 => (if t385 = true then ((spec_skCycles.f k l0_0 l2_0).bind fun t386 => (some (t386, true))) else (some (([] : List (List Int)), false)))
end Go.Proofs.Ytnbnalbomflafaa.GR
/-! ## Y4 -/
namespace Go.Proofs.Ytnbnalbomflafaa.RA
open Go.RowKit
theorem field80_0 (a b c : Value) (w : World) : (Instr.field 80 (.agg #[a, b, c]) 0).run Try.prog w = .ok a w := by kernel_rfl
theorem field80_1 (a b c : Value) (w : World) : (Instr.field 80 (.agg #[a, b, c]) 1).run Try.prog w = .ok b w := by kernel_rfl
theorem field80_2 (a b c : Value) (w : World) : (Instr.field 80 (.agg #[a, b, c]) 2).run Try.prog w = .ok c w := by kernel_rfl
end Go.Proofs.Ytnbnalbomflafaa.RA
/-! ## GQ0 -/
namespace Go.Proofs.Ytnbnalbomflafaa.GQ
open Go.RowKit Go.Proofs.YtnbnalbomflafaaW.PrintWords Go.Proofs.YtnbnalbomflafaaW.PrintLast Go.Proofs.YtnbnalbomflafaaW.PrintMore
open Go.Proofs.Ytnbnalbomflafaa.GA Go.Proofs.Ytnbnalbomflafaa.GB Go.Proofs.Ytnbnalbomflafaa.GD Go.Proofs.Ytnbnalbomflafaa.KA Go.Proofs.Ytnbnalbomflafaa.GR
attribute [local go_sem] RA.field80_0 RA.field80_1 RA.field80_2 max2_int min2_int max_two min_two max_three min_three max_four min_four   -- for this text's walks alone
set_option linter.unusedVariables false
set_option linter.unusedSimpArgs false
def errW : Option Int → Value
  | none => .nilIface
  | some c => .iface 0 (.int .i64 c)
theorem errW_none : errW none = .nilIface := rfl
theorem errW_some (c : Int) : errW (some c) = .iface 0 (.int .i64 c) := rfl
theorem info3 : (Try.prog.info? 3).map (fun i => (i.zero, i.size, i.bytes)) = some (some (.int .i64 0), 1, 8) := by kernel_rfl
def rd_L1 (xs : List (List Int)) (i : Int) : (List Int) := xs.getD i.toNat ([] : List Int)
theorem at_L1 {w : World} {A : Option Addr} {n : Nat} {xs : List (List Int)} (h : Kd.C (Kd.slice 3 (Kd.int .i64)) w A n xs) (i : Int) (h0 : 0 ≤ i) (h1 : i < n) : ∃ ad A0 c0, A = some ad ∧ w.cell? (ad.add i.toNat) = some (.slice A0 (rd_L1 xs i).length c0) ∧ (rd_L1 xs i).length ≤ c0 ∧ (Kd.int .i64).C w A0 (rd_L1 xs i).length (rd_L1 xs i) := by
  obtain ⟨ad, c, e, _, hK, hc0⟩ := Kd.C_get h ([] : List Int) i h0 h1
  have hc : ∀ j u, c[j]? = some u → w.cell? (ad.add (i.toNat * 1 + j)) = some u := hc0
  obtain ⟨A0, c0, rfl, l0, g0⟩ := hK
  exact ⟨ad, A0, c0, e, by have hq := hc 0 _ rfl; rwa [Nat.mul_one, Nat.add_zero] at hq, l0, g0⟩
end Go.Proofs.Ytnbnalbomflafaa.GQ
