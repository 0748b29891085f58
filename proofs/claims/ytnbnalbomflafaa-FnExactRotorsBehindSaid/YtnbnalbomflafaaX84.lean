/-
  Texts of the seat, merged (part 4).
-/
import Derived.Deep.AppendLies
import Derived.Test.YtnbnalbomflafaaProg
import Derived.Below
import Derived.Deep.Draws
import Derived.Maps.AppendAt
import Derived.OwnWalk
import Derived.Laws.BytesArg
import Derived.Laws.MakeOwn
import Derived.Laws.OwnMore
import Derived.Deep.OwnRows
import Derived.Tactics
import Derived.Lib.ConvBytes
import Derived.Laws.Slices
import Derived.WalkKit
import Derived.KernelRfl
import Derived.RowKit3
import Derived.Deep.LoopGhost
import Derived.Deep.QuietTactic
import Derived.BigQuiet
import Derived.WideLaws
import Derived.Deep.DeepCutAuto
import Derived.Deep.CutBlock
import Derived.Deep.RegionHeld3
import Derived.Laws.Rows
import Derived.Lib.AppendStr
import Derived.ArgAppend
import Derived.Laws.IdiomCopy
import Derived.OrdersHeld
import Derived.Laws.BitsLemmas
import Derived.RowKit
import Derived.Test.YtnbnalbomflafaaWWords
import Derived.Test.YtnbnalbomflafaaWLast
import Derived.Test.YtnbnalbomflafaaWTab
import Derived.Test.YtnbnalbomflafaaWFour
import Derived.Test.YtnbnalbomflafaaWQPut
import Derived.Test.YtnbnalbomflafaaWApart
import Derived.Test.YtnbnalbomflafaaWArr
import Derived.Test.YtnbnalbomflafaaWZeros
import Derived.Test.YtnbnalbomflafaaWFoot
import Derived.Test.YtnbnalbomflafaaWKept
import Derived.Test.YtnbnalbomflafaaWShare
import Derived.Test.YtnbnalbomflafaaWN
import Derived.Test.YtnbnalbomflafaaWFootNe
import Derived.Test.YtnbnalbomflafaaWAt
import Derived.Test.YtnbnalbomflafaaWEqStruct
import Derived.Test.YtnbnalbomflafaaWRepsOne
import Derived.Test.YtnbnalbomflafaaWInv
import Derived.Test.YtnbnalbomflafaaWInvWords
import Derived.Test.YtnbnalbomflafaaWGuard
import Derived.Test.YtnbnalbomflafaaWNEv
import Derived.Test.YtnbnalbomflafaaWMore
import Derived.Deep.Matrix
import Derived.Lib.SmallJoins
import Derived.ProofKit
import Derived.OpenShut
import Derived.ChangeSame
import Derived.Test.YtnbnalbomflafaaX83
/-! ## GQ1 -/
namespace Go.Proofs.Ytnbnalbomflafaa.GQ
open Go.RowKit Go.Proofs.YtnbnalbomflafaaW.PrintWords Go.Proofs.YtnbnalbomflafaaW.PrintLast Go.Proofs.YtnbnalbomflafaaW.PrintMore
open Go.Proofs.Ytnbnalbomflafaa.GA Go.Proofs.Ytnbnalbomflafaa.GB Go.Proofs.Ytnbnalbomflafaa.GD Go.Proofs.Ytnbnalbomflafaa.KA Go.Proofs.Ytnbnalbomflafaa.GR
attribute [local go_sem] RA.field80_0 RA.field80_1 RA.field80_2 max2_int min2_int max_two min_two max_three min_three max_four min_four   -- for this text's walks alone
set_option linter.unusedVariables false
set_option linter.unusedSimpArgs false
def spec_hiGood.f (k : Nat) (l0_0 : List (List Int)) (a1 : Int) (a2 : Int) : Option (Bool) := (spec_hiGoals.f k l0_0 a1 a2).bind fun t140 => (if t140 = true then ((spec_hiCan.f k l0_0 a1 a2).bind fun t141 => (some t141)) else (some false))
set_option maxHeartbeats 8000000 in
set_option maxRecDepth 100000 in
theorem spec_hiGood.calls (k : Nat) (A0_0 : Option Addr) (c0_0 : Nat) (l0_0 : List (List Int)) (a1 : Int) (a2 : Int) (r : Bool) (w : World) (hr0_0 : Kd.C (Kd.slice 3 (Kd.int .i64)) w A0_0 l0_0.length l0_0) (hc0_0 : l0_0.length ≤ c0_0) (h : spec_hiGood.f k l0_0 a1 a2 = some r) :
    Calls Try.prog 87 #[.agg #[.slice A0_0 l0_0.length c0_0], .int .i64 a1, .int .i64 a2] w fun e w' => e = .returned (.bool r) ∧ Below w.heap.size w w' := by
  have hu30 := Try.underlying30
  have HR0_0 := Aside0.mk hr0_0
  have HC0_0 := Aside0.mk hc0_0
  clear hr0_0 hc0_0
  have HB := Aside0.mk (Below.refl w.heap.size w)
  have H : ((spec_hiGoals.f k l0_0 a1 a2).bind fun t140 => (if t140 = true then ((spec_hiCan.f k l0_0 a1 a2).bind fun t141 => (some t141)) else (some false))) = some r := h
  clear h
  replace H := Option.bind_eq_some_iff.mp H
  obtain ⟨t140, A40, H⟩ := H
  replace H : (if t140 = true then ((spec_hiCan.f k l0_0 a1 a2).bind fun t141 => (some t141)) else (some false)) = some r := H
  have A4 := Aside0.mk A40
  clear A40
  by_cases c5 : t140 = true
  · subst c5
    have H1 : ((spec_hiCan.f k l0_0 a1 a2).bind fun t141 => (some t141)) = some r := by rw [if_pos rfl] at H; exact H
    clear H
    have H := H1
    clear H1
    replace H := Option.bind_eq_some_iff.mp H
    obtain ⟨t141, A60, H⟩ := H
    replace H : (some t141) = some r := H
    have A6 := Aside0.mk A60
    clear A60
    obtain rfl := Option.some.inj H
    go_enter Try.func87, Try.ntmps87
    go_wp2_with (first | ((with_reducible refine gate_dst (N := 3) rfl ?_); refine box_event ?hg (N := 3) ?hd (cs := #[.slice A0_0 l0_0.length c0_0]) (t := 30) ?hr ?_; (case hd => rfl); (case hg => rfl); (case hr => first | (go_simp; done) | (go_simp; rfl)); intro gb139 hg w7 hbox hb; have n0_ := Aside0.mk (below_step (by repeat (first | (with_reducible first | exact HB.out | apply below_alloc | apply pw_below_drewN | apply below_drew1) | exact HB.out)) hb); have n1_ := Aside0.mk (hbox); have n2_ := Aside0.mk ((by rw [hg]; exact (below_size (by repeat (first | (with_reducible first | exact HB.out | apply below_alloc | apply pw_below_drewN | apply below_drew1) | exact HB.out))) : w.heap.size ≤ gb139)); have n3_ := Aside0.mk ((by rw [hg]; exact (below_size (by repeat (first | (with_reducible first | exact HB.out | apply below_alloc | apply pw_below_drewN | apply below_drew1) | exact HB.out))) : w.heap.size ≤ gb139)); clear HB; have HB := n0_; have BK139 := n1_; have GW139 := n2_; have GE139 := n3_; clear n0_ n1_ n2_ n3_; clear hb hbox hg; have hcz8_0 : w7.cell? ⟨gb139, 0, none⟩ = some (.slice A0_0 l0_0.length c0_0) := (blk_cell BK139.out 0).trans rfl; have hfz8_0 := blk_frozen BK139.out 0) | ((with_reducible refine gate_callee (f := 79) rfl ?_); refine goesL_ (some 10) rfl rfl Try.func79 (by kernel_rfl) rfl #[.agg #[.slice A0_0 l0_0.length c0_0], .int .i64 a1, .int .i64 a2] rfl (by (try simp only [List.map_toArray, List.map_cons, List.map_nil]); first | done | rfl | (simp only [List.length_drop, List.length_take]; rfl)) ?_; (with_reducible refine (spec_hiGoals.calls k _ _ l0_0 a1 a2 true _ ?side1 ?side2 A4.out).mono ?_); (case side1 => repeat (first | exact (Kd.C_below HR0_0.out HB.out) | (with_reducible refine Kd.C_alloc ?_ _) | (with_reducible refine Kd.C_drewN ?_ _) | (with_reducible refine Kd.C_drew ?_))); (case side2 => exact HC0_0.out); rintro e w9 ⟨rfl, hb⟩; refine ⟨_, rfl, ?_⟩; have n0_ := Aside0.mk (blk_below (g := gb139) (o := .cells #[.slice A0_0 l0_0.length c0_0] 30 (0, 0)) (by (with_reducible repeat (first | refine blk_drewN ?_ _ | refine blk_drew ?_ | refine blk_alloc ?_ _)); exact BK139.out) hb); have n1_ := Aside0.mk (below_step (by repeat (first | (with_reducible first | exact HB.out | apply below_alloc | apply pw_below_drewN | apply below_drew1 | refine below_set ?_ GE139.out) | exact HB.out)) hb); clear BK139; clear HB; have BK139 := n0_; have HB := n1_; clear n0_ n1_; (try clear hb); (try clear hb2); (try clear hk); (try clear hi); have hcz10_0 : w9.cell? ⟨gb139, 0, none⟩ = some (.slice A0_0 l0_0.length c0_0) := (blk_cell BK139.out 0).trans rfl; have hfz10_0 := blk_frozen BK139.out 0) | (go_at_call 80; (with_reducible refine (spec_hiCan.calls k _ _ l0_0 a1 a2 t141 _ ?side1 ?side2 A6.out).mono ?_); (case side1 => repeat (first | exact (Kd.C_below HR0_0.out HB.out) | (with_reducible refine Kd.C_alloc ?_ _) | (with_reducible refine Kd.C_drewN ?_ _) | (with_reducible refine Kd.C_drew ?_))); (case side2 => exact HC0_0.out); rintro e w11 ⟨rfl, hb⟩; have n0_ := Aside0.mk (blk_below (g := gb139) (o := .cells #[.slice A0_0 l0_0.length c0_0] 30 (0, 0)) (by (with_reducible repeat (first | refine blk_drewN ?_ _ | refine blk_drew ?_ | refine blk_alloc ?_ _)); exact BK139.out) hb); have n1_ := Aside0.mk (below_step (by repeat (first | (with_reducible first | exact HB.out | apply below_alloc | apply pw_below_drewN | apply below_drew1 | refine below_set ?_ GE139.out) | exact HB.out)) hb); clear BK139; clear HB; have BK139 := n0_; have HB := n1_; clear n0_ n1_; (try clear hb); (try clear hb2); (try clear hk); (try clear hi)))
    go_ret
    exact ⟨by first | rfl | (simp [errW_none, errW_some] <;> rfl) | (simp [*, errW_none, errW_some] <;> rfl), by repeat (first | (with_reducible first | exact HB.out | apply below_alloc | apply pw_below_drewN | apply below_drew1 | refine below_set ?_ GE139.out) | exact HB.out)⟩
  · replace c5 := Bool.eq_false_iff.mpr c5
    subst c5
    have H1 : (some false) = some r := by rw [if_neg (show ¬ (false = true) by decide)] at H; exact H
    clear H
    have H := H1
    clear H1
    obtain rfl := Option.some.inj H
    go_enter Try.func87, Try.ntmps87
    go_wp2_with (first | ((with_reducible refine gate_dst (N := 3) rfl ?_); refine box_event ?hg (N := 3) ?hd (cs := #[.slice A0_0 l0_0.length c0_0]) (t := 30) ?hr ?_; (case hd => rfl); (case hg => rfl); (case hr => first | (go_simp; done) | (go_simp; rfl)); intro gb139 hg w12 hbox hb; have n0_ := Aside0.mk (below_step (by repeat (first | (with_reducible first | exact HB.out | apply below_alloc | apply pw_below_drewN | apply below_drew1) | exact HB.out)) hb); have n1_ := Aside0.mk (hbox); have n2_ := Aside0.mk ((by rw [hg]; exact (below_size (by repeat (first | (with_reducible first | exact HB.out | apply below_alloc | apply pw_below_drewN | apply below_drew1) | exact HB.out))) : w.heap.size ≤ gb139)); have n3_ := Aside0.mk ((by rw [hg]; exact (below_size (by repeat (first | (with_reducible first | exact HB.out | apply below_alloc | apply pw_below_drewN | apply below_drew1) | exact HB.out))) : w.heap.size ≤ gb139)); clear HB; have HB := n0_; have BK139 := n1_; have GW139 := n2_; have GE139 := n3_; clear n0_ n1_ n2_ n3_; clear hb hbox hg; have hcz13_0 : w12.cell? ⟨gb139, 0, none⟩ = some (.slice A0_0 l0_0.length c0_0) := (blk_cell BK139.out 0).trans rfl; have hfz13_0 := blk_frozen BK139.out 0) | ((with_reducible refine gate_callee (f := 79) rfl ?_); refine goesL_ (some 10) rfl rfl Try.func79 (by kernel_rfl) rfl #[.agg #[.slice A0_0 l0_0.length c0_0], .int .i64 a1, .int .i64 a2] rfl (by (try simp only [List.map_toArray, List.map_cons, List.map_nil]); first | done | rfl | (simp only [List.length_drop, List.length_take]; rfl)) ?_; (with_reducible refine (spec_hiGoals.calls k _ _ l0_0 a1 a2 false _ ?side1 ?side2 A4.out).mono ?_); (case side1 => repeat (first | exact (Kd.C_below HR0_0.out HB.out) | (with_reducible refine Kd.C_alloc ?_ _) | (with_reducible refine Kd.C_drewN ?_ _) | (with_reducible refine Kd.C_drew ?_))); (case side2 => exact HC0_0.out); rintro e w14 ⟨rfl, hb⟩; refine ⟨_, rfl, ?_⟩; have n0_ := Aside0.mk (blk_below (g := gb139) (o := .cells #[.slice A0_0 l0_0.length c0_0] 30 (0, 0)) (by (with_reducible repeat (first | refine blk_drewN ?_ _ | refine blk_drew ?_ | refine blk_alloc ?_ _)); exact BK139.out) hb); have n1_ := Aside0.mk (below_step (by repeat (first | (with_reducible first | exact HB.out | apply below_alloc | apply pw_below_drewN | apply below_drew1 | refine below_set ?_ GE139.out) | exact HB.out)) hb); clear BK139; clear HB; have BK139 := n0_; have HB := n1_; clear n0_ n1_; (try clear hb); (try clear hb2); (try clear hk); (try clear hi)))
    go_ret
    exact ⟨by first | rfl | (simp [errW_none, errW_some] <;> rfl) | (simp [*, errW_none, errW_some] <;> rfl), by repeat (first | (with_reducible first | exact HB.out | apply below_alloc | apply pw_below_drewN | apply below_drew1 | refine below_set ?_ GE139.out) | exact HB.out)⟩
def spec_hiAsked.f (k : Nat) (l0_0 : List (List Int)) (l1 : List Int) (a2 : Int) (a3 : Int) (a4 : Int) (a5 : Int) : Option (Bool) := (spec_hiGood.f k l0_0 a3 a4).bind fun t150 => (if t150 = true then ((spec_waGood.f k l0_0 l1 a2).bind fun t151 => (if t151 = true then ((spec_l1In.f a5 0 100).bind fun t152 => (some t152)) else (some false))) else (some false))
set_option maxHeartbeats 8000000 in
set_option maxRecDepth 100000 in
theorem spec_hiAsked.calls (k : Nat) (A0_0 : Option Addr) (c0_0 : Nat) (l0_0 : List (List Int)) (A1 : Option Addr) (c1 : Nat) (l1 : List Int) (a2 : Int) (a3 : Int) (a4 : Int) (a5 : Int) (r : Bool) (w : World) (hr0_0 : Kd.C (Kd.slice 3 (Kd.int .i64)) w A0_0 l0_0.length l0_0) (hc0_0 : l0_0.length ≤ c0_0) (hr1 : Kd.C (Kd.int .i64) w A1 l1.length l1) (hc1 : l1.length ≤ c1) (h : spec_hiAsked.f k l0_0 l1 a2 a3 a4 a5 = some r) :
    Calls Try.prog 82 #[.agg #[.slice A0_0 l0_0.length c0_0], .slice A1 l1.length c1, .int .i64 a2, .int .i64 a3, .int .i64 a4, .int .i64 a5] w fun e w' => e = .returned (.bool r) ∧ Below w.heap.size w w' := by
  have hu30 := Try.underlying30
  have hu98 := Try.underlying98
  have HR0_0 := Aside0.mk hr0_0
  have HC0_0 := Aside0.mk hc0_0
  clear hr0_0 hc0_0
  have HR1 := Aside0.mk hr1
  have HC1 := Aside0.mk hc1
  clear hr1 hc1
  have HB := Aside0.mk (Below.refl w.heap.size w)
  have H : ((spec_hiGood.f k l0_0 a3 a4).bind fun t150 => (if t150 = true then ((spec_waGood.f k l0_0 l1 a2).bind fun t151 => (if t151 = true then ((spec_l1In.f a5 0 100).bind fun t152 => (some t152)) else (some false))) else (some false))) = some r := h
  clear h
  replace H := Option.bind_eq_some_iff.mp H
  obtain ⟨t150, A70, H⟩ := H
  replace H : (if t150 = true then ((spec_waGood.f k l0_0 l1 a2).bind fun t151 => (if t151 = true then ((spec_l1In.f a5 0 100).bind fun t152 => (some t152)) else (some false))) else (some false)) = some r := H
  have A7 := Aside0.mk A70
  clear A70
  by_cases c8 : t150 = true
  · subst c8
    have H1 : ((spec_waGood.f k l0_0 l1 a2).bind fun t151 => (if t151 = true then ((spec_l1In.f a5 0 100).bind fun t152 => (some t152)) else (some false))) = some r := by rw [if_pos rfl] at H; exact H
    clear H
    have H := H1
    clear H1
    replace H := Option.bind_eq_some_iff.mp H
    obtain ⟨t151, A90, H⟩ := H
    replace H : (if t151 = true then ((spec_l1In.f a5 0 100).bind fun t152 => (some t152)) else (some false)) = some r := H
    have A9 := Aside0.mk A90
    clear A90
    by_cases c10 : t151 = true
    · subst c10
      have H1 : ((spec_l1In.f a5 0 100).bind fun t152 => (some t152)) = some r := by rw [if_pos rfl] at H; exact H
      clear H
      have H := H1
      clear H1
      replace H := Option.bind_eq_some_iff.mp H
      obtain ⟨t152, A110, H⟩ := H
      replace H : (some t152) = some r := H
      have A11 := Aside0.mk A110
      clear A110
      obtain rfl := Option.some.inj H
      go_enter Try.func82, Try.ntmps82
      go_wp2_with (first | ((with_reducible refine gate_dst (N := 6) rfl ?_); refine box_event ?hg (N := 6) ?hd (cs := #[.slice A0_0 l0_0.length c0_0]) (t := 30) ?hr ?_; (case hd => rfl); (case hg => rfl); (case hr => first | (go_simp; done) | (go_simp; rfl)); intro gb149 hg w12 hbox hb; have n0_ := Aside0.mk (below_step (by repeat (first | (with_reducible first | exact HB.out | apply below_alloc | apply pw_below_drewN | apply below_drew1) | exact HB.out)) hb); have n1_ := Aside0.mk (hbox); have n2_ := Aside0.mk ((by rw [hg]; exact (below_size (by repeat (first | (with_reducible first | exact HB.out | apply below_alloc | apply pw_below_drewN | apply below_drew1) | exact HB.out))) : w.heap.size ≤ gb149)); have n3_ := Aside0.mk ((by rw [hg]; exact (below_size (by repeat (first | (with_reducible first | exact HB.out | apply below_alloc | apply pw_below_drewN | apply below_drew1) | exact HB.out))) : w.heap.size ≤ gb149)); clear HB; have HB := n0_; have BK149 := n1_; have GW149 := n2_; have GE149 := n3_; clear n0_ n1_ n2_ n3_; clear hb hbox hg; have hcz13_0 : w12.cell? ⟨gb149, 0, none⟩ = some (.slice A0_0 l0_0.length c0_0) := (blk_cell BK149.out 0).trans rfl; have hfz13_0 := blk_frozen BK149.out 0) | ((with_reducible refine gate_callee (f := 87) rfl ?_); refine goesL_ (some 16) rfl rfl Try.func87 (by kernel_rfl) rfl #[.agg #[.slice A0_0 l0_0.length c0_0], .int .i64 a3, .int .i64 a4] rfl (by (try simp only [List.map_toArray, List.map_cons, List.map_nil]); first | done | rfl | (simp only [List.length_drop, List.length_take]; rfl)) ?_; (with_reducible refine (spec_hiGood.calls k _ _ l0_0 a3 a4 true _ ?side1 ?side2 A7.out).mono ?_); (case side1 => repeat (first | exact (Kd.C_below HR0_0.out HB.out) | (with_reducible refine Kd.C_alloc ?_ _) | (with_reducible refine Kd.C_drewN ?_ _) | (with_reducible refine Kd.C_drew ?_))); (case side2 => exact HC0_0.out); rintro e w14 ⟨rfl, hb⟩; refine ⟨_, rfl, ?_⟩; have n0_ := Aside0.mk (blk_below (g := gb149) (o := .cells #[.slice A0_0 l0_0.length c0_0] 30 (0, 0)) (by (with_reducible repeat (first | refine blk_drewN ?_ _ | refine blk_drew ?_ | refine blk_alloc ?_ _)); exact BK149.out) hb); have n1_ := Aside0.mk (below_step (by repeat (first | (with_reducible first | exact HB.out | apply below_alloc | apply pw_below_drewN | apply below_drew1 | refine below_set ?_ GE149.out) | exact HB.out)) hb); clear BK149; clear HB; have BK149 := n0_; have HB := n1_; clear n0_ n1_; (try clear hb); (try clear hb2); (try clear hk); (try clear hi); have hcz15_0 : w14.cell? ⟨gb149, 0, none⟩ = some (.slice A0_0 l0_0.length c0_0) := (blk_cell BK149.out 0).trans rfl; have hfz15_0 := blk_frozen BK149.out 0) | (go_at_call 101; (with_reducible refine (spec_waGood.calls k _ _ l0_0 _ _ l1 a2 true _ ?side1 ?side2 ?side3 ?side4 A9.out).mono ?_); (case side1 => repeat (first | exact (Kd.C_below HR0_0.out HB.out) | (with_reducible refine Kd.C_alloc ?_ _) | (with_reducible refine Kd.C_drewN ?_ _) | (with_reducible refine Kd.C_drew ?_))); (case side2 => exact HC0_0.out); (case side3 => repeat (first | exact (Kd.C_below HR1.out HB.out) | (with_reducible refine Kd.C_alloc ?_ _) | (with_reducible refine Kd.C_drewN ?_ _) | (with_reducible refine Kd.C_drew ?_))); (case side4 => exact HC1.out); rintro e w16 ⟨rfl, hb⟩; have n0_ := Aside0.mk (blk_below (g := gb149) (o := .cells #[.slice A0_0 l0_0.length c0_0] 30 (0, 0)) (by (with_reducible repeat (first | refine blk_drewN ?_ _ | refine blk_drew ?_ | refine blk_alloc ?_ _)); exact BK149.out) hb); have n1_ := Aside0.mk (below_step (by repeat (first | (with_reducible first | exact HB.out | apply below_alloc | apply pw_below_drewN | apply below_drew1 | refine below_set ?_ GE149.out) | exact HB.out)) hb); clear BK149; clear HB; have BK149 := n0_; have HB := n1_; clear n0_ n1_; (try clear hb); (try clear hb2); (try clear hk); (try clear hi)) | (go_at_call 73; (with_reducible refine (spec_l1In.calls a5 0 100 t152 _ A11.out).mono ?_); rintro e w' ⟨rfl, ⟨nd, rfl⟩⟩))
      go_ret
      exact ⟨by first | rfl | (simp [errW_none, errW_some] <;> rfl) | (simp [*, errW_none, errW_some] <;> rfl), by repeat (first | (with_reducible first | exact HB.out | apply below_alloc | apply pw_below_drewN | apply below_drew1 | refine below_set ?_ GE149.out) | exact HB.out)⟩
    · replace c10 := Bool.eq_false_iff.mpr c10
      subst c10
      have H1 : (some false) = some r := by rw [if_neg (show ¬ (false = true) by decide)] at H; exact H
      clear H
      have H := H1
      clear H1
      obtain rfl := Option.some.inj H
      go_enter Try.func82, Try.ntmps82
      go_wp2_with (first | ((with_reducible refine gate_dst (N := 6) rfl ?_); refine box_event ?hg (N := 6) ?hd (cs := #[.slice A0_0 l0_0.length c0_0]) (t := 30) ?hr ?_; (case hd => rfl); (case hg => rfl); (case hr => first | (go_simp; done) | (go_simp; rfl)); intro gb149 hg w17 hbox hb; have n0_ := Aside0.mk (below_step (by repeat (first | (with_reducible first | exact HB.out | apply below_alloc | apply pw_below_drewN | apply below_drew1) | exact HB.out)) hb); have n1_ := Aside0.mk (hbox); have n2_ := Aside0.mk ((by rw [hg]; exact (below_size (by repeat (first | (with_reducible first | exact HB.out | apply below_alloc | apply pw_below_drewN | apply below_drew1) | exact HB.out))) : w.heap.size ≤ gb149)); have n3_ := Aside0.mk ((by rw [hg]; exact (below_size (by repeat (first | (with_reducible first | exact HB.out | apply below_alloc | apply pw_below_drewN | apply below_drew1) | exact HB.out))) : w.heap.size ≤ gb149)); clear HB; have HB := n0_; have BK149 := n1_; have GW149 := n2_; have GE149 := n3_; clear n0_ n1_ n2_ n3_; clear hb hbox hg; have hcz18_0 : w17.cell? ⟨gb149, 0, none⟩ = some (.slice A0_0 l0_0.length c0_0) := (blk_cell BK149.out 0).trans rfl; have hfz18_0 := blk_frozen BK149.out 0) | ((with_reducible refine gate_callee (f := 87) rfl ?_); refine goesL_ (some 16) rfl rfl Try.func87 (by kernel_rfl) rfl #[.agg #[.slice A0_0 l0_0.length c0_0], .int .i64 a3, .int .i64 a4] rfl (by (try simp only [List.map_toArray, List.map_cons, List.map_nil]); first | done | rfl | (simp only [List.length_drop, List.length_take]; rfl)) ?_; (with_reducible refine (spec_hiGood.calls k _ _ l0_0 a3 a4 true _ ?side1 ?side2 A7.out).mono ?_); (case side1 => repeat (first | exact (Kd.C_below HR0_0.out HB.out) | (with_reducible refine Kd.C_alloc ?_ _) | (with_reducible refine Kd.C_drewN ?_ _) | (with_reducible refine Kd.C_drew ?_))); (case side2 => exact HC0_0.out); rintro e w19 ⟨rfl, hb⟩; refine ⟨_, rfl, ?_⟩; have n0_ := Aside0.mk (blk_below (g := gb149) (o := .cells #[.slice A0_0 l0_0.length c0_0] 30 (0, 0)) (by (with_reducible repeat (first | refine blk_drewN ?_ _ | refine blk_drew ?_ | refine blk_alloc ?_ _)); exact BK149.out) hb); have n1_ := Aside0.mk (below_step (by repeat (first | (with_reducible first | exact HB.out | apply below_alloc | apply pw_below_drewN | apply below_drew1 | refine below_set ?_ GE149.out) | exact HB.out)) hb); clear BK149; clear HB; have BK149 := n0_; have HB := n1_; clear n0_ n1_; (try clear hb); (try clear hb2); (try clear hk); (try clear hi); have hcz20_0 : w19.cell? ⟨gb149, 0, none⟩ = some (.slice A0_0 l0_0.length c0_0) := (blk_cell BK149.out 0).trans rfl; have hfz20_0 := blk_frozen BK149.out 0) | (go_at_call 101; (with_reducible refine (spec_waGood.calls k _ _ l0_0 _ _ l1 a2 false _ ?side1 ?side2 ?side3 ?side4 A9.out).mono ?_); (case side1 => repeat (first | exact (Kd.C_below HR0_0.out HB.out) | (with_reducible refine Kd.C_alloc ?_ _) | (with_reducible refine Kd.C_drewN ?_ _) | (with_reducible refine Kd.C_drew ?_))); (case side2 => exact HC0_0.out); (case side3 => repeat (first | exact (Kd.C_below HR1.out HB.out) | (with_reducible refine Kd.C_alloc ?_ _) | (with_reducible refine Kd.C_drewN ?_ _) | (with_reducible refine Kd.C_drew ?_))); (case side4 => exact HC1.out); rintro e w21 ⟨rfl, hb⟩; have n0_ := Aside0.mk (blk_below (g := gb149) (o := .cells #[.slice A0_0 l0_0.length c0_0] 30 (0, 0)) (by (with_reducible repeat (first | refine blk_drewN ?_ _ | refine blk_drew ?_ | refine blk_alloc ?_ _)); exact BK149.out) hb); have n1_ := Aside0.mk (below_step (by repeat (first | (with_reducible first | exact HB.out | apply below_alloc | apply pw_below_drewN | apply below_drew1 | refine below_set ?_ GE149.out) | exact HB.out)) hb); clear BK149; clear HB; have BK149 := n0_; have HB := n1_; clear n0_ n1_; (try clear hb); (try clear hb2); (try clear hk); (try clear hi)))
      go_ret
      exact ⟨by first | rfl | (simp [errW_none, errW_some] <;> rfl) | (simp [*, errW_none, errW_some] <;> rfl), by repeat (first | (with_reducible first | exact HB.out | apply below_alloc | apply pw_below_drewN | apply below_drew1 | refine below_set ?_ GE149.out) | exact HB.out)⟩
  · replace c8 := Bool.eq_false_iff.mpr c8
    subst c8
    have H1 : (some false) = some r := by rw [if_neg (show ¬ (false = true) by decide)] at H; exact H
    clear H
    have H := H1
    clear H1
    obtain rfl := Option.some.inj H
    go_enter Try.func82, Try.ntmps82
    go_wp2_with (first | ((with_reducible refine gate_dst (N := 6) rfl ?_); refine box_event ?hg (N := 6) ?hd (cs := #[.slice A0_0 l0_0.length c0_0]) (t := 30) ?hr ?_; (case hd => rfl); (case hg => rfl); (case hr => first | (go_simp; done) | (go_simp; rfl)); intro gb149 hg w22 hbox hb; have n0_ := Aside0.mk (below_step (by repeat (first | (with_reducible first | exact HB.out | apply below_alloc | apply pw_below_drewN | apply below_drew1) | exact HB.out)) hb); have n1_ := Aside0.mk (hbox); have n2_ := Aside0.mk ((by rw [hg]; exact (below_size (by repeat (first | (with_reducible first | exact HB.out | apply below_alloc | apply pw_below_drewN | apply below_drew1) | exact HB.out))) : w.heap.size ≤ gb149)); have n3_ := Aside0.mk ((by rw [hg]; exact (below_size (by repeat (first | (with_reducible first | exact HB.out | apply below_alloc | apply pw_below_drewN | apply below_drew1) | exact HB.out))) : w.heap.size ≤ gb149)); clear HB; have HB := n0_; have BK149 := n1_; have GW149 := n2_; have GE149 := n3_; clear n0_ n1_ n2_ n3_; clear hb hbox hg; have hcz23_0 : w22.cell? ⟨gb149, 0, none⟩ = some (.slice A0_0 l0_0.length c0_0) := (blk_cell BK149.out 0).trans rfl; have hfz23_0 := blk_frozen BK149.out 0) | ((with_reducible refine gate_callee (f := 87) rfl ?_); refine goesL_ (some 16) rfl rfl Try.func87 (by kernel_rfl) rfl #[.agg #[.slice A0_0 l0_0.length c0_0], .int .i64 a3, .int .i64 a4] rfl (by (try simp only [List.map_toArray, List.map_cons, List.map_nil]); first | done | rfl | (simp only [List.length_drop, List.length_take]; rfl)) ?_; (with_reducible refine (spec_hiGood.calls k _ _ l0_0 a3 a4 false _ ?side1 ?side2 A7.out).mono ?_); (case side1 => repeat (first | exact (Kd.C_below HR0_0.out HB.out) | (with_reducible refine Kd.C_alloc ?_ _) | (with_reducible refine Kd.C_drewN ?_ _) | (with_reducible refine Kd.C_drew ?_))); (case side2 => exact HC0_0.out); rintro e w24 ⟨rfl, hb⟩; refine ⟨_, rfl, ?_⟩; have n0_ := Aside0.mk (blk_below (g := gb149) (o := .cells #[.slice A0_0 l0_0.length c0_0] 30 (0, 0)) (by (with_reducible repeat (first | refine blk_drewN ?_ _ | refine blk_drew ?_ | refine blk_alloc ?_ _)); exact BK149.out) hb); have n1_ := Aside0.mk (below_step (by repeat (first | (with_reducible first | exact HB.out | apply below_alloc | apply pw_below_drewN | apply below_drew1 | refine below_set ?_ GE149.out) | exact HB.out)) hb); clear BK149; clear HB; have BK149 := n0_; have HB := n1_; clear n0_ n1_; (try clear hb); (try clear hb2); (try clear hk); (try clear hi)))
    go_ret
    exact ⟨by first | rfl | (simp [errW_none, errW_some] <;> rfl) | (simp [*, errW_none, errW_some] <;> rfl), by repeat (first | (with_reducible first | exact HB.out | apply below_alloc | apply pw_below_drewN | apply below_drew1 | refine below_set ?_ GE149.out) | exact HB.out)⟩
mutual
def spec_hiRun.l0 : Nat → Int → Int → Int → Int → List (List Int) → List Int → List Int → Int → Option (List Int × List Int × Int)
  | 0, _, _, _, _, _, _, _, _ => none
  | k + 1, x2, x3, x4, x5, x160000, x165000, x165001, x165002 => if x5 > 0 then (spec_hiRun.l1 k x2 x3 x4 x5 x2 x160000 x165000 x165001 x165002) else (some (x165000, x165001, x165002))
def spec_hiRun.l1 : Nat → Int → Int → Int → Int → Int → List (List Int) → List Int → List Int → Int → Option (List Int × List Int × Int)
  | 0, _, _, _, _, _, _, _, _, _ => none
  | k + 1, x2, x3, x4, x5, x14, x160000, x165000, x165001, x165002 => if x14 = x3 then (if x165000.length < 17592186044416 then (spec_hiRun.l0 k x2 x3 x4 (wrap64 (x5 - 1)) x160000 (x165000 ++ [1]) x165001 x165002) else (none)) else (if x14 = x4 then (if x165000.length < 17592186044416 then (spec_hiRun.l0 k x2 x3 x4 (wrap64 (x5 - 1)) x160000 (x165000 ++ [0]) x165001 x165002) else (none)) else (if 0 ≤ x14 then (if x14 < (x160000.length : Int) then (if x14 < (x165001.length : Int) then (if ((rd_L1 x160000 x14).length : Int) = 0 then (none) else (if 0 ≤ (Int.tmod (wrap64 ((rd x165001 x14) + 1)) ((rd_L1 x160000 x14).length : Int)) then (if (Int.tmod (wrap64 ((rd x165001 x14) + 1)) ((rd_L1 x160000 x14).length : Int)) < ((rd_L1 x160000 x14).length : Int) then (spec_hiRun.l1 k x2 x3 x4 x5 (rd (rd_L1 x160000 x14) (Int.tmod (wrap64 ((rd x165001 x14) + 1)) ((rd_L1 x160000 x14).length : Int))) x160000 x165000 (x165001.set (x14 : Int).toNat (Int.tmod (wrap64 ((rd x165001 x14) + 1)) ((rd_L1 x160000 x14).length : Int))) (wrap64 (x165002 + 1))) else (none)) else (none))) else (none)) else (none)) else (none)))
end
def spec_hiRun.f (k : Nat) (l0_0 : List (List Int)) (l1 : List Int) (a2 : Int) (a3 : Int) (a4 : Int) (a5 : Int) : Option (List Int × List Int × Int) := (spec_l1Own.f l1).bind fun t161 => (spec_hiRun.l0 k a2 a3 a4 a5 l0_0 ([] : List Int) t161 0)
set_option maxHeartbeats 8000000 in
set_option maxRecDepth 100000 in
theorem spec_hiRun.calls (k : Nat) (A0_0 : Option Addr) (c0_0 : Nat) (l0_0 : List (List Int)) (A1 : Option Addr) (c1 : Nat) (l1 : List Int) (a2 : Int) (a3 : Int) (a4 : Int) (a5 : Int) (r1 : List Int) (r2 : List Int) (r3 : Int) (w : World) (hr0_0 : Kd.C (Kd.slice 3 (Kd.int .i64)) w A0_0 l0_0.length l0_0) (hc0_0 : l0_0.length ≤ c0_0) (hr1 : Kd.C (Kd.int .i64) w A1 l1.length l1) (hc1 : l1.length ≤ c1) (h : spec_hiRun.f k l0_0 l1 a2 a3 a4 a5 = some (r1, r2, r3)) :
    Calls Try.prog 83 #[.agg #[.slice A0_0 l0_0.length c0_0], .slice A1 l1.length c1, .int .i64 a2, .int .i64 a3, .int .i64 a4, .int .i64 a5] w fun e w' => ∃ v0_ v1_ : Value, e = .returned (.agg #[v0_, v1_, .int .i64 r3]) ∧ Kd.R (Kd.int .i64) 3 w' w.heap.size (fun k_ => some k_ ≠ (v1_ : Value).ownBlock) v0_ r1 ∧ Kd.R (Kd.int .i64) 3 w' w.heap.size (fun k_ => some k_ ≠ (v0_ : Value).ownBlock) v1_ r2 ∧ Below w.heap.size w w' := by
  have hu30 := Try.underlying30
  have hu80 := Try.underlying80
  have HR0_0 := Aside0.mk hr0_0
  have HC0_0 := Aside0.mk hc0_0
  clear hr0_0 hc0_0
  have HR1 := Aside0.mk hr1
  have HC1 := Aside0.mk hc1
  clear hr1 hc1
  have HB := Aside0.mk (Below.refl w.heap.size w)
  have H : ((spec_l1Own.f l1).bind fun t161 => (spec_hiRun.l0 k a2 a3 a4 a5 l0_0 ([] : List Int) t161 0)) = some (r1, r2, r3) := h
  clear h
  replace H := Option.bind_eq_some_iff.mp H
  obtain ⟨t161, A70, H⟩ := H
  replace H : (spec_hiRun.l0 k a2 a3 a4 a5 l0_0 ([] : List Int) t161 0) = some (r1, r2, r3) := H
  have A7 := Aside0.mk A70
  clear A70
  have H' := Aside0.mk H
  clear H
  go_enter Try.func83, Try.ntmps83
  go_wp2_with (first | ((with_reducible refine gate_dst (N := 6) rfl ?_); refine box_event ?hg (N := 6) ?hd (cs := #[.slice A0_0 l0_0.length c0_0]) (t := 30) ?hr ?_; (case hd => rfl); (case hg => rfl); (case hr => first | (go_simp; done) | (go_simp; rfl)); intro gb159 hg w8 hbox hb; have n0_ := Aside0.mk (below_step (by repeat (first | (with_reducible first | exact HB.out | apply below_alloc | apply pw_below_drewN | apply below_drew1) | exact HB.out)) hb); have n1_ := Aside0.mk (hbox); have n2_ := Aside0.mk ((by rw [hg]; exact (below_size (by repeat (first | (with_reducible first | exact HB.out | apply below_alloc | apply pw_below_drewN | apply below_drew1) | exact HB.out))) : w.heap.size ≤ gb159)); have n3_ := Aside0.mk ((by rw [hg]; exact (below_size (by repeat (first | (with_reducible first | exact HB.out | apply below_alloc | apply pw_below_drewN | apply below_drew1) | exact HB.out))) : w.heap.size ≤ gb159)); clear HB; have HB := n0_; have BK159 := n1_; have GW159 := n2_; have GE159 := n3_; clear n0_ n1_ n2_ n3_; clear hb hbox hg) | ((with_reducible refine gate_dst (N := 12) rfl ?_); refine box_event ?hg (N := 12) ?hd (cs := #[.slice none 0 0, .slice none 0 0, .int .i64 0]) (t := 80) ?hr ?_; (case hd => rfl); (case hg => rfl); (case hr => first | (go_simp; done) | (go_simp; rfl)); intro gb160 hg w9 hbox hb; have n0_ := Aside0.mk (blk_below (g := gb159) (o := .cells #[.slice A0_0 l0_0.length c0_0] 30 (0, 0)) (by (with_reducible repeat (first | refine blk_drewN ?_ _ | refine blk_drew ?_ | refine blk_alloc ?_ _)); exact BK159.out) hb); have n1_ := Aside0.mk (below_step (by repeat (first | (with_reducible first | exact HB.out | apply below_alloc | apply pw_below_drewN | apply below_drew1 | refine below_set ?_ GE159.out) | exact HB.out)) hb); have n2_ := Aside0.mk (hbox); have n3_ := Aside0.mk ((by rw [hg]; exact (below_size (by repeat (first | (with_reducible first | exact HB.out | apply below_alloc | apply pw_below_drewN | apply below_drew1 | refine below_set ?_ GE159.out) | exact HB.out))) : w.heap.size ≤ gb160)); have n4_ := Aside0.mk ((by rw [hg]; exact (below_size (by repeat (first | (with_reducible first | exact HB.out | apply below_alloc | apply pw_below_drewN | apply below_drew1 | refine below_set ?_ GE159.out) | exact HB.out))) : w.heap.size ≤ gb160)); have n5_ := Aside0.mk ((by rw [hg]; exact Nat.ne_of_lt (blk_lt (g := gb159) (o := .cells #[.slice A0_0 l0_0.length c0_0] 30 (0, 0)) (by (with_reducible repeat (first | refine blk_drewN ?_ _ | refine blk_drew ?_ | refine blk_alloc ?_ _)); exact BK159.out)) : gb159 ≠ gb160)); have n6_ := Aside0.mk ((by rw [hg]; exact Nat.ne_of_gt (blk_lt (g := gb159) (o := .cells #[.slice A0_0 l0_0.length c0_0] 30 (0, 0)) (by (with_reducible repeat (first | refine blk_drewN ?_ _ | refine blk_drew ?_ | refine blk_alloc ?_ _)); exact BK159.out)) : gb160 ≠ gb159)); clear BK159; clear HB; have BK159 := n0_; have HB := n1_; have BK160 := n2_; have GW160 := n3_; have GE160 := n4_; have NB159_160 := n5_; have NB160_159 := n6_; clear n0_ n1_ n2_ n3_ n4_ n5_ n6_; clear hb hbox hg) | ((with_reducible refine gate_callee (f := 113) rfl ?_); refine goesL_ (some 19) rfl rfl Try.func113 (by kernel_rfl) rfl #[.slice A1 l1.length c1] rfl (by (try simp only [List.map_toArray, List.map_cons, List.map_nil]); first | done | rfl | (simp only [List.length_drop, List.length_take]; rfl)) ?_; (with_reducible refine (spec_l1Own.calls _ _ l1 t161 _ ?side1 ?side2 A7.out).mono ?_); (case side1 => repeat (first | exact (Kd.C_below HR1.out HB.out) | (with_reducible refine Kd.C_alloc ?_ _) | (with_reducible refine Kd.C_drewN ?_ _) | (with_reducible refine Kd.C_drew ?_))); (case side2 => exact HC1.out); rintro e w10 ⟨v162, rfl, ho0, hb⟩; refine ⟨_, rfl, ?_⟩; have n0_ := Aside0.mk (Kd.R_lower ho0 (below_size (by repeat (first | (with_reducible first | exact HB.out | apply below_alloc | apply pw_below_drewN | apply below_drew1 | refine below_set ?_ GE159.out | refine below_set ?_ GE160.out) | exact HB.out)))); have n1_ := Aside0.mk (blk_below (g := gb159) (o := .cells #[.slice A0_0 l0_0.length c0_0] 30 (0, 0)) (by (with_reducible repeat (first | refine blk_drewN ?_ _ | refine blk_drew ?_ | refine blk_alloc ?_ _)); exact BK159.out) hb); have n2_ := Aside0.mk (blk_below (g := gb160) (o := .cells #[.slice none 0 0, .slice none 0 0, .int .i64 0] 80 (0, 0)) (by (with_reducible repeat (first | refine blk_drewN ?_ _ | refine blk_drew ?_ | refine blk_alloc ?_ _)); exact BK160.out) hb); have n3_ := Aside0.mk (below_step (by repeat (first | (with_reducible first | exact HB.out | apply below_alloc | apply pw_below_drewN | apply below_drew1 | refine below_set ?_ GE159.out | refine below_set ?_ GE160.out) | exact HB.out)) hb); clear BK159; clear BK160; clear HB; have HO163 := n0_; have BK159 := n1_; have BK160 := n2_; have HB := n3_; clear n0_ n1_ n2_ n3_; (try clear hb); (try clear hb2); (try clear hk); (try clear hi); (try clear ho0); obtain ⟨Ao11, co11, eo11⟩ := Kd.R_slice HO163.out; subst eo11) | ((with_reducible refine gate_dst (N := 13) rfl ?_); refine box_event ?hg (N := 13) ?hd (cs := #[.slice none 0 0, .slice none 0 0, .int .i64 0]) (t := 80) ?hr ?_; (case hd => rfl); (case hg => rfl); (case hr => first | (go_simp; done) | (go_simp; rfl)); intro gb164 hg w12 hbox hb; have n0_ := Aside0.mk (Kd.R_below (by (with_reducible repeat (first | apply Kd.R_alloc | apply Kd.R_drewN | apply Kd.R_drew)); exact HO163.out) hb); have n1_ := Aside0.mk (blk_below (g := gb159) (o := .cells #[.slice A0_0 l0_0.length c0_0] 30 (0, 0)) (by (with_reducible repeat (first | refine blk_drewN ?_ _ | refine blk_drew ?_ | refine blk_alloc ?_ _)); exact BK159.out) hb); have n2_ := Aside0.mk (blk_below (g := gb160) (o := .cells #[.slice none 0 0, .slice none 0 0, .int .i64 0] 80 (0, 0)) (by (with_reducible repeat (first | refine blk_drewN ?_ _ | refine blk_drew ?_ | refine blk_alloc ?_ _)); exact BK160.out) hb); have n3_ := Aside0.mk (below_step (by repeat (first | (with_reducible first | exact HB.out | apply below_alloc | apply pw_below_drewN | apply below_drew1 | refine below_set ?_ GE159.out | refine below_set ?_ GE160.out) | exact HB.out)) hb); have n4_ := Aside0.mk (hbox); have n5_ := Aside0.mk ((by rw [hg]; exact (below_size (by repeat (first | (with_reducible first | exact HB.out | apply below_alloc | apply pw_below_drewN | apply below_drew1 | refine below_set ?_ GE159.out | refine below_set ?_ GE160.out) | exact HB.out))) : w.heap.size ≤ gb164)); have n6_ := Aside0.mk ((by rw [hg]; exact (below_size (by repeat (first | (with_reducible first | exact HB.out | apply below_alloc | apply pw_below_drewN | apply below_drew1 | refine below_set ?_ GE159.out | refine below_set ?_ GE160.out) | exact HB.out))) : w.heap.size ≤ gb164)); have n7_ := Aside0.mk ((by rw [hg]; exact Nat.ne_of_lt (blk_lt (g := gb159) (o := .cells #[.slice A0_0 l0_0.length c0_0] 30 (0, 0)) (by (with_reducible repeat (first | refine blk_drewN ?_ _ | refine blk_drew ?_ | refine blk_alloc ?_ _)); exact BK159.out)) : gb159 ≠ gb164)); have n8_ := Aside0.mk ((by rw [hg]; exact Nat.ne_of_gt (blk_lt (g := gb159) (o := .cells #[.slice A0_0 l0_0.length c0_0] 30 (0, 0)) (by (with_reducible repeat (first | refine blk_drewN ?_ _ | refine blk_drew ?_ | refine blk_alloc ?_ _)); exact BK159.out)) : gb164 ≠ gb159)); have n9_ := Aside0.mk ((by rw [hg]; exact Nat.ne_of_lt (blk_lt (g := gb160) (o := .cells #[.slice none 0 0, .slice none 0 0, .int .i64 0] 80 (0, 0)) (by (with_reducible repeat (first | refine blk_drewN ?_ _ | refine blk_drew ?_ | refine blk_alloc ?_ _)); exact BK160.out)) : gb160 ≠ gb164)); have n10_ := Aside0.mk ((by rw [hg]; exact Nat.ne_of_gt (blk_lt (g := gb160) (o := .cells #[.slice none 0 0, .slice none 0 0, .int .i64 0] 80 (0, 0)) (by (with_reducible repeat (first | refine blk_drewN ?_ _ | refine blk_drew ?_ | refine blk_alloc ?_ _)); exact BK160.out)) : gb164 ≠ gb160)); clear HO163; clear BK159; clear BK160; clear HB; have HO163 := n0_; have BK159 := n1_; have BK160 := n2_; have HB := n3_; have BK164 := n4_; have GW164 := n5_; have GE164 := n6_; have NB159_164 := n7_; have NB164_159 := n8_; have NB160_164 := n9_; have NB164_160 := n10_; clear n0_ n1_ n2_ n3_ n4_ n5_ n6_ n7_ n8_ n9_ n10_; clear hb hbox hg; have hnb13 := NB164_159.out; have hnc13 := NB159_164.out; have hnb14 := NB164_160.out; have hnc14 := NB160_164.out; have hcz15_0 : w12.cell? ⟨gb164, 0, none⟩ = some (.slice none 0 0) := (blk_cell BK164.out 0).trans rfl; have hcz15_1 : w12.cell? ⟨gb164, 1, none⟩ = some (.slice none 0 0) := (blk_cell BK164.out 1).trans rfl; have hcz15_2 : w12.cell? ⟨gb164, 2, none⟩ = some (.int .i64 0) := (blk_cell BK164.out 2).trans rfl; have hfz15_0 := blk_frozen BK164.out 0; have hfz15_1 := blk_frozen BK164.out 1; have hfz15_2 := blk_frozen BK164.out 2))
  go_loopg [5] k (fun kq v5 w' => ∃ (x5_1 : Int) (x165000_1 : List Int) (x165001_1 : List Int) (x165002_1 : Int) (u165000 : Value) (u165001 : Value), v5 = .int .i64 x5_1 ∧ Aside0 (spec_hiRun.l0 kq a2 a3 a4 x5_1 l0_0 x165000_1 x165001_1 x165002_1 = some (r1, r2, r3)) ∧ Aside0 (kq ≤ k) ∧ Aside0 (Kd.R (Kd.int .i64) 3 w' w.heap.size (fun k_ => some k_ ≠ (u165001 : Value).ownBlock) u165000 x165000_1) ∧ Aside0 (Kd.R (Kd.int .i64) 3 w' w.heap.size (fun k_ => some k_ ≠ (u165000 : Value).ownBlock) u165001 x165001_1) ∧ Aside0 (w'.heap[gb159]? = some (.cells #[(.slice A0_0 l0_0.length c0_0)] 30 (0, 0))) ∧ Aside0 (w'.heap[gb160]? = some (.cells #[(.slice none 0 0), (.slice none 0 0), .int .i64 0] 80 (0, 0))) ∧ Aside0 (w'.heap[gb164]? = some (.cells #[u165000, u165001, .int .i64 x165002_1] 80 (0, 0))) ∧ Aside0 (Below w.heap.size w w'))
  case atStart => exact ⟨(a5), (([] : List Int)), (t161), (0), (.slice none 0 0), (.slice Ao11 t161.length co11), (by first | rfl | (simp; done) | (simp [*]; done)), H', ⟨Nat.le_refl _⟩, ⟨by first | exact Kd.R_nil _ _ _ _ _ | exact Kd.N_nil _ _ _ _ _ | exact Kd.V_nil _ _ _ _ _ | exact Kd.Q_nil _ _ _ _ _ | exact Kd.S_nil _ _ _ _ _⟩, ⟨by (with_reducible repeat (first | apply Kd.R_alloc | apply Kd.R_drewN | apply Kd.R_drew)); exact Kd.R_mono (Kd.R_far (p := ⟨gb164, 2, none⟩) (Kd.R_far (p := ⟨gb164, 1, none⟩) (Kd.R_far (p := ⟨gb164, 0, none⟩) (Kd.R_types HO163.out BK164.out (by decide)) (fun _ hk => hk.2) (.slice none 0 0)) (fun _ hk => hk.2) (.slice Ao11 t161.length co11)) (fun _ hk => hk.2) (.int .i64 0)) (fun _ hk => (by simp [Value.ownBlock]))⟩, ⟨by (with_reducible repeat (first | refine blk_drewN ?_ _ | refine blk_drew ?_ | refine blk_alloc ?_ _)); refine blk_far ?_ NB159_164.out _; (with_reducible repeat (first | refine blk_drewN ?_ _ | refine blk_drew ?_ | refine blk_alloc ?_ _)); refine blk_far ?_ NB159_164.out _; (with_reducible repeat (first | refine blk_drewN ?_ _ | refine blk_drew ?_ | refine blk_alloc ?_ _)); refine blk_far ?_ NB159_164.out _; (with_reducible repeat (first | refine blk_drewN ?_ _ | refine blk_drew ?_ | refine blk_alloc ?_ _)); exact BK159.out⟩, ⟨by (with_reducible repeat (first | refine blk_drewN ?_ _ | refine blk_drew ?_ | refine blk_alloc ?_ _)); refine blk_far ?_ NB160_164.out _; (with_reducible repeat (first | refine blk_drewN ?_ _ | refine blk_drew ?_ | refine blk_alloc ?_ _)); refine blk_far ?_ NB160_164.out _; (with_reducible repeat (first | refine blk_drewN ?_ _ | refine blk_drew ?_ | refine blk_alloc ?_ _)); refine blk_far ?_ NB160_164.out _; (with_reducible repeat (first | refine blk_drewN ?_ _ | refine blk_drew ?_ | refine blk_alloc ?_ _)); exact BK160.out⟩, ⟨by (with_reducible repeat (first | refine blk_drewN ?_ _ | refine blk_drew ?_ | refine blk_alloc ?_ _)); refine blk_put (cs := #[.slice none 0 0, .slice Ao11 t161.length co11, .int .i64 0]) ?_ 2 _ rfl; (with_reducible repeat (first | refine blk_drewN ?_ _ | refine blk_drew ?_ | refine blk_alloc ?_ _)); refine blk_put (cs := #[.slice none 0 0, .slice none 0 0, .int .i64 0]) ?_ 1 _ rfl; (with_reducible repeat (first | refine blk_drewN ?_ _ | refine blk_drew ?_ | refine blk_alloc ?_ _)); refine blk_put (cs := #[.slice none 0 0, .slice none 0 0, .int .i64 0]) ?_ 0 _ rfl; (with_reducible repeat (first | refine blk_drewN ?_ _ | refine blk_drew ?_ | refine blk_alloc ?_ _)); exact BK164.out⟩, ⟨by repeat (first | (with_reducible first | exact HB.out | apply below_alloc | apply pw_below_drewN | apply below_drew1 | refine below_set ?_ GE159.out | refine below_set ?_ GE160.out | refine below_set ?_ GE164.out) | exact HB.out)⟩⟩
  case round =>
    clear H'
    try clear c1
    try clear p2
    try clear c8
    try clear c11
    try clear c13
    try clear c14
    try clear hcz15_0
    try clear hcz15_1
    try clear hcz15_2
    try clear hfz15_0
    try clear hfz15_1
    try clear hfz15_2
    obtain ⟨x5_1, x165000_1, x165001_1, x165002_1, u165000, u165001, rfl, HA, HK1, HO_165000, HO_165001, BK159, BK160, BK164, HB⟩ := hrel
    cases gk with
    | zero => exact absurd HA.out (by simp [spec_hiRun.l0])
    | succ k1 =>
      have H := HA.out
      clear HA
      simp only [spec_hiRun.l0] at H
      by_cases c16 : x5_1 > 0
      · rw [if_pos c16] at H
        have c16b0 : decide (0 < x5_1) = true := decide_eq_true c16
        clear c16
        have H' := Aside0.mk H
        clear H
        go_wp2
        go_loopg [14] k1 (fun kq v14 w' => ∃ (x14_2 : Int) (x165000_2 : List Int) (x165001_2 : List Int) (x165002_2 : Int) (u165000 : Value) (u165001 : Value), v14 = .int .i64 x14_2 ∧ Aside0 (spec_hiRun.l1 kq a2 a3 a4 x5_1 x14_2 l0_0 x165000_2 x165001_2 x165002_2 = some (r1, r2, r3)) ∧ Aside0 (kq ≤ k1) ∧ Aside0 (Kd.R (Kd.int .i64) 3 w' w.heap.size (fun k_ => some k_ ≠ (u165001 : Value).ownBlock) u165000 x165000_2) ∧ Aside0 (Kd.R (Kd.int .i64) 3 w' w.heap.size (fun k_ => some k_ ≠ (u165000 : Value).ownBlock) u165001 x165001_2) ∧ Aside0 (w'.heap[gb159]? = some (.cells #[(.slice A0_0 l0_0.length c0_0)] 30 (0, 0))) ∧ Aside0 (w'.heap[gb160]? = some (.cells #[(.slice none 0 0), (.slice none 0 0), .int .i64 0] 80 (0, 0))) ∧ Aside0 (w'.heap[gb164]? = some (.cells #[u165000, u165001, .int .i64 x165002_2] 80 (0, 0))) ∧ Aside0 (Below w.heap.size w w'))
        case atStart => exact ⟨(a2), (x165000_1), (x165001_1), (x165002_1), (u165000), (u165001), (by first | rfl | (simp; done) | (simp [*]; done)), H', ⟨Nat.le_refl _⟩, ⟨by (with_reducible repeat (first | apply Kd.R_alloc | apply Kd.R_drewN | apply Kd.R_drew)); exact HO_165000.out⟩, ⟨by (with_reducible repeat (first | apply Kd.R_alloc | apply Kd.R_drewN | apply Kd.R_drew)); exact HO_165001.out⟩, ⟨by (with_reducible repeat (first | refine blk_drewN ?_ _ | refine blk_drew ?_ | refine blk_alloc ?_ _)); exact BK159.out⟩, ⟨by (with_reducible repeat (first | refine blk_drewN ?_ _ | refine blk_drew ?_ | refine blk_alloc ?_ _)); exact BK160.out⟩, ⟨by (with_reducible repeat (first | refine blk_drewN ?_ _ | refine blk_drew ?_ | refine blk_alloc ?_ _)); exact BK164.out⟩, ⟨by repeat (first | (with_reducible first | exact HB.out | apply below_alloc | apply pw_below_drewN | apply below_drew1 | refine below_set ?_ GE159.out | refine below_set ?_ GE160.out | refine below_set ?_ GE164.out) | exact HB.out)⟩⟩
        case round =>
          clear H'
          try clear c1
          try clear p2
          try clear c8
          try clear c11
          try clear c13
          try clear c14
          try clear c16
          try clear c16b0
          try clear hcz15_0
          try clear hcz15_1
          try clear hcz15_2
          try clear hfz15_0
          try clear hfz15_1
          try clear hfz15_2
          try clear p2
          obtain ⟨x14_2, x165000_2, x165001_2, x165002_2, u165000, u165001, rfl, HA, HK2, HO_165000, HO_165001, BK159, BK160, BK164, HB⟩ := hrel
          cases gk with
          | zero => exact absurd HA.out (by simp [spec_hiRun.l1])
          | succ k2 =>
            have H := HA.out
            clear HA
            simp only [spec_hiRun.l1] at H
            by_cases c17 : x14_2 = a3
            · rw [if_pos c17] at H
              have c17b0 : (x14_2 == a3) = true := beq_iff_eq.mpr c17
              have c17b1 : (x14_2 != a3) = false := bne_eq_false_iff_eq.mpr c17
              clear c17
              by_cases c18 : x165000_2.length < 17592186044416
              · rw [if_pos c18] at H
                have LMc18 := Aside0.mk c18
                clear c18
                obtain ⟨y165, hy165⟩ : ∃ y_ : List Int, y_ = (x165000_2 ++ [1]) := ⟨_, rfl⟩
                replace H : (spec_hiRun.l0 k2 a2 a3 a4 (wrap64 (x5_1 - 1)) l0_0 y165 x165001_2 x165002_2) = some (r1, r2, r3) := by first | (rw [hy165]; with_reducible exact H) | (have H2_ := (Option.bind_some _ _).symm.trans H; rw [hy165]; with_reducible exact H2_) | (have H2_ := (Option.bind_some _ _).symm.trans H; with_reducible exact H2_) | with_reducible exact H | (rw [hy165]; exact H) | exact H
                have Ny165 := Aside0.mk hy165
                clear hy165
                have H' := Aside0.mk H
                clear H
                have hnb19 := NB164_159.out
                have hnc19 := NB159_164.out
                have hnb20 := NB164_160.out
                have hnc20 := NB160_164.out
                have hcz21_0 : wr.cell? ⟨gb164, 0, none⟩ = some (u165000) := (blk_cell BK164.out 0).trans rfl
                have hcz21_1 : wr.cell? ⟨gb164, 1, none⟩ = some (u165001) := (blk_cell BK164.out 1).trans rfl
                have hcz21_2 : wr.cell? ⟨gb164, 2, none⟩ = some (.int .i64 x165002_2) := (blk_cell BK164.out 2).trans rfl
                have hfz21_0 := blk_frozen BK164.out 0
                have hfz21_1 := blk_frozen BK164.out 1
                have hfz21_2 := blk_frozen BK164.out 2
                go_wp2_with (first | ((with_reducible refine gate_builtin (b := .append) (xs := #[.tmp 65, .tmp 67]) rfl ?_); at_builtin; refine Kd.R_append (Kd.int .i64) (w0 := w) w.heap.size rfl (.tmp 65) (.tmp 67) 37 3 (.int .i64 0) 8 rfl Try.underlying37 info3 rfl (by decide) (by omega) u165000 x165000_2 1 [.int .i64 1] (fun k_ => some k_ ≠ (u165001 : Value).ownBlock) (fun _ => False) rfl rfl ?aP (fun _ hk => hk.elim) ?aF ?aO ?aB ?aS ?aL ?_; (case aP => exact rfl); (case aB => exact (by repeat (first | (with_reducible first | exact HB.out | apply below_alloc | apply pw_below_drewN | apply below_drew1 | refine below_set ?_ GE159.out | refine below_set ?_ GE160.out | refine below_set ?_ GE164.out) | exact HB.out))); (case aF => exact (fun k_ hk => Kd.fresh' (Kd.R_lt (by (with_reducible repeat (first | apply Kd.R_alloc | apply Kd.R_drewN | apply Kd.R_drew)); exact HO_165001.out)) k_ hk)); (case aO => exact (by (with_reducible repeat (first | apply Kd.R_alloc | apply Kd.R_drewN | apply Kd.R_drew)); exact HO_165000.out)); (case aS => exact (below_size (by repeat (first | (with_reducible first | exact HB.out | apply below_alloc | apply pw_below_drewN | apply below_drew1 | refine below_set ?_ GE159.out | refine below_set ?_ GE160.out | refine below_set ?_ GE164.out) | exact HB.out)))); (case aL => have := LMc18.out; omega); intro v166 w22 ho hb hg hat; rw [← Ny165.out] at ho; have n0_ := Aside0.mk (Kd.R_after (ok := (fun _ => True)) (by (with_reducible repeat (first | apply Kd.R_alloc | apply Kd.R_drewN | apply Kd.R_drew)); exact Kd.R_mono HO_165001.out (fun _ hk => ⟨trivial, hk⟩)) hg hat); have n1_ := Aside0.mk (blk_grown (g := gb159) (o := .cells #[.slice A0_0 l0_0.length c0_0] 30 (0, 0)) (by (with_reducible repeat (first | refine blk_drewN ?_ _ | refine blk_drew ?_ | refine blk_alloc ?_ _)); exact BK159.out) hg (Kd.R_ne HO_165000.out BK159.out (by decide))); have n2_ := Aside0.mk (blk_grown (g := gb160) (o := .cells #[.slice none 0 0, .slice none 0 0, .int .i64 0] 80 (0, 0)) (by (with_reducible repeat (first | refine blk_drewN ?_ _ | refine blk_drew ?_ | refine blk_alloc ?_ _)); exact BK160.out) hg (Kd.R_ne HO_165000.out BK160.out (by decide))); have n3_ := Aside0.mk (blk_grown (g := gb164) (o := .cells #[u165000, u165001, .int .i64 x165002_2] 80 (0, 0)) (by (with_reducible repeat (first | refine blk_drewN ?_ _ | refine blk_drew ?_ | refine blk_alloc ?_ _)); exact BK164.out) hg (Kd.R_ne HO_165000.out BK164.out (by decide))); have n4_ := Aside0.mk (hb); have n5_ := Aside0.mk (ho); clear HO_165001; clear BK159; clear BK160; clear BK164; clear HB; clear HO_165000; have HO_165001 := n0_; have BK159 := n1_; have BK160 := n2_; have BK164 := n3_; have HB := n4_; have HO167 := n5_; clear n0_ n1_ n2_ n3_ n4_ n5_; clear ho hb hg hat; obtain ⟨Ao23, co23, eo23⟩ := Kd.R_slice HO167.out; subst eo23; have hcz24_0 : w22.cell? ⟨gb164, 0, none⟩ = some (u165000) := (blk_cell BK164.out 0).trans rfl; have hcz24_1 : w22.cell? ⟨gb164, 1, none⟩ = some (u165001) := (blk_cell BK164.out 1).trans rfl; have hcz24_2 : w22.cell? ⟨gb164, 2, none⟩ = some (.int .i64 x165002_2) := (blk_cell BK164.out 2).trans rfl; have hfz24_0 := blk_frozen BK164.out 0; have hfz24_1 := blk_frozen BK164.out 1; have hfz24_2 := blk_frozen BK164.out 2))
                go_roundg k2
                case measure => have := HK1.out; have := HK2.out; omega
                case rel => exact ⟨(wrap64 (x5_1 - 1)), (y165), (x165001_2), (x165002_2), (.slice Ao23 y165.length co23), (u165001), (by first | rfl | (simp; done) | (simp [*]; done)), H', ⟨by have := HK1.out; have := HK2.out; omega⟩, ⟨by (with_reducible repeat (first | apply Kd.R_alloc | apply Kd.R_drewN | apply Kd.R_drew)); exact Kd.R_mono (Kd.R_far (p := ⟨gb164, 0, none⟩) (Kd.R_types HO167.out BK164.out (by decide)) (fun _ hk => hk.2) (.slice Ao23 y165.length co23)) (fun _ hk => hk.1)⟩, ⟨by (with_reducible repeat (first | apply Kd.R_alloc | apply Kd.R_drewN | apply Kd.R_drew)); exact Kd.R_mono (Kd.R_far (p := ⟨gb164, 0, none⟩) (Kd.R_types HO_165001.out BK164.out (by decide)) (fun _ hk => hk.2) (.slice Ao23 y165.length co23)) (fun _ hk => hk.1.2)⟩, ⟨by (with_reducible repeat (first | refine blk_drewN ?_ _ | refine blk_drew ?_ | refine blk_alloc ?_ _)); refine blk_far ?_ NB159_164.out _; (with_reducible repeat (first | refine blk_drewN ?_ _ | refine blk_drew ?_ | refine blk_alloc ?_ _)); exact BK159.out⟩, ⟨by (with_reducible repeat (first | refine blk_drewN ?_ _ | refine blk_drew ?_ | refine blk_alloc ?_ _)); refine blk_far ?_ NB160_164.out _; (with_reducible repeat (first | refine blk_drewN ?_ _ | refine blk_drew ?_ | refine blk_alloc ?_ _)); exact BK160.out⟩, ⟨by (with_reducible repeat (first | refine blk_drewN ?_ _ | refine blk_drew ?_ | refine blk_alloc ?_ _)); refine blk_put (cs := #[u165000, u165001, .int .i64 x165002_2]) ?_ 0 _ rfl; (with_reducible repeat (first | refine blk_drewN ?_ _ | refine blk_drew ?_ | refine blk_alloc ?_ _)); exact BK164.out⟩, ⟨by repeat (first | (with_reducible first | exact HB.out | apply below_alloc | apply pw_below_drewN | apply below_drew1 | refine below_set ?_ GE159.out | refine below_set ?_ GE160.out | refine below_set ?_ GE164.out) | exact HB.out)⟩⟩
              · rw [if_neg c18] at H
                exact absurd H (by simp)
            · rw [if_neg c17] at H
              have c17b0 : (x14_2 == a3) = false := beq_eq_false_iff_ne.mpr c17
              have c17b1 : (x14_2 != a3) = true := bne_iff_ne.mpr c17
              by_cases c25 : x14_2 = a4
              · rw [if_pos c25] at H
                have c25b0 : (x14_2 == a4) = true := beq_iff_eq.mpr c25
                have c25b1 : (x14_2 != a4) = false := bne_eq_false_iff_eq.mpr c25
                clear c25
                by_cases c26 : x165000_2.length < 17592186044416
                · rw [if_pos c26] at H
                  have LMc26 := Aside0.mk c26
                  clear c26
                  obtain ⟨y168, hy168⟩ : ∃ y_ : List Int, y_ = (x165000_2 ++ [0]) := ⟨_, rfl⟩
                  replace H : (spec_hiRun.l0 k2 a2 a3 a4 (wrap64 (x5_1 - 1)) l0_0 y168 x165001_2 x165002_2) = some (r1, r2, r3) := by first | (rw [hy168]; with_reducible exact H) | (have H2_ := (Option.bind_some _ _).symm.trans H; rw [hy168]; with_reducible exact H2_) | (have H2_ := (Option.bind_some _ _).symm.trans H; with_reducible exact H2_) | with_reducible exact H | (rw [hy168]; exact H) | exact H
                  have Ny168 := Aside0.mk hy168
                  clear hy168
                  have H' := Aside0.mk H
                  clear H
                  have hnb27 := NB164_159.out
                  have hnc27 := NB159_164.out
                  have hnb28 := NB164_160.out
                  have hnc28 := NB160_164.out
                  have hcz29_0 : wr.cell? ⟨gb164, 0, none⟩ = some (u165000) := (blk_cell BK164.out 0).trans rfl
                  have hcz29_1 : wr.cell? ⟨gb164, 1, none⟩ = some (u165001) := (blk_cell BK164.out 1).trans rfl
                  have hcz29_2 : wr.cell? ⟨gb164, 2, none⟩ = some (.int .i64 x165002_2) := (blk_cell BK164.out 2).trans rfl
                  have hfz29_0 := blk_frozen BK164.out 0
                  have hfz29_1 := blk_frozen BK164.out 1
                  have hfz29_2 := blk_frozen BK164.out 2
                  go_wp2_with (first | ((with_reducible refine gate_builtin (b := .append) (xs := #[.tmp 65, .tmp 67]) rfl ?_); at_builtin; refine Kd.R_append (Kd.int .i64) (w0 := w) w.heap.size rfl (.tmp 65) (.tmp 67) 37 3 (.int .i64 0) 8 rfl Try.underlying37 info3 rfl (by decide) (by omega) u165000 x165000_2 0 [.int .i64 0] (fun k_ => some k_ ≠ (u165001 : Value).ownBlock) (fun _ => False) rfl rfl ?aP (fun _ hk => hk.elim) ?aF ?aO ?aB ?aS ?aL ?_; (case aP => exact rfl); (case aB => exact (by repeat (first | (with_reducible first | exact HB.out | apply below_alloc | apply pw_below_drewN | apply below_drew1 | refine below_set ?_ GE159.out | refine below_set ?_ GE160.out | refine below_set ?_ GE164.out) | exact HB.out))); (case aF => exact (fun k_ hk => Kd.fresh' (Kd.R_lt (by (with_reducible repeat (first | apply Kd.R_alloc | apply Kd.R_drewN | apply Kd.R_drew)); exact HO_165001.out)) k_ hk)); (case aO => exact (by (with_reducible repeat (first | apply Kd.R_alloc | apply Kd.R_drewN | apply Kd.R_drew)); exact HO_165000.out)); (case aS => exact (below_size (by repeat (first | (with_reducible first | exact HB.out | apply below_alloc | apply pw_below_drewN | apply below_drew1 | refine below_set ?_ GE159.out | refine below_set ?_ GE160.out | refine below_set ?_ GE164.out) | exact HB.out)))); (case aL => have := LMc26.out; omega); intro v169 w30 ho hb hg hat; rw [← Ny168.out] at ho; have n0_ := Aside0.mk (Kd.R_after (ok := (fun _ => True)) (by (with_reducible repeat (first | apply Kd.R_alloc | apply Kd.R_drewN | apply Kd.R_drew)); exact Kd.R_mono HO_165001.out (fun _ hk => ⟨trivial, hk⟩)) hg hat); have n1_ := Aside0.mk (blk_grown (g := gb159) (o := .cells #[.slice A0_0 l0_0.length c0_0] 30 (0, 0)) (by (with_reducible repeat (first | refine blk_drewN ?_ _ | refine blk_drew ?_ | refine blk_alloc ?_ _)); exact BK159.out) hg (Kd.R_ne HO_165000.out BK159.out (by decide))); have n2_ := Aside0.mk (blk_grown (g := gb160) (o := .cells #[.slice none 0 0, .slice none 0 0, .int .i64 0] 80 (0, 0)) (by (with_reducible repeat (first | refine blk_drewN ?_ _ | refine blk_drew ?_ | refine blk_alloc ?_ _)); exact BK160.out) hg (Kd.R_ne HO_165000.out BK160.out (by decide))); have n3_ := Aside0.mk (blk_grown (g := gb164) (o := .cells #[u165000, u165001, .int .i64 x165002_2] 80 (0, 0)) (by (with_reducible repeat (first | refine blk_drewN ?_ _ | refine blk_drew ?_ | refine blk_alloc ?_ _)); exact BK164.out) hg (Kd.R_ne HO_165000.out BK164.out (by decide))); have n4_ := Aside0.mk (hb); have n5_ := Aside0.mk (ho); clear HO_165001; clear BK159; clear BK160; clear BK164; clear HB; clear HO_165000; have HO_165001 := n0_; have BK159 := n1_; have BK160 := n2_; have BK164 := n3_; have HB := n4_; have HO170 := n5_; clear n0_ n1_ n2_ n3_ n4_ n5_; clear ho hb hg hat; obtain ⟨Ao31, co31, eo31⟩ := Kd.R_slice HO170.out; subst eo31; have hcz32_0 : w30.cell? ⟨gb164, 0, none⟩ = some (u165000) := (blk_cell BK164.out 0).trans rfl; have hcz32_1 : w30.cell? ⟨gb164, 1, none⟩ = some (u165001) := (blk_cell BK164.out 1).trans rfl; have hcz32_2 : w30.cell? ⟨gb164, 2, none⟩ = some (.int .i64 x165002_2) := (blk_cell BK164.out 2).trans rfl; have hfz32_0 := blk_frozen BK164.out 0; have hfz32_1 := blk_frozen BK164.out 1; have hfz32_2 := blk_frozen BK164.out 2))
                  go_roundg k2
                  case measure => have := HK1.out; have := HK2.out; omega
                  case rel => exact ⟨(wrap64 (x5_1 - 1)), (y168), (x165001_2), (x165002_2), (.slice Ao31 y168.length co31), (u165001), (by first | rfl | (simp; done) | (simp [*]; done)), H', ⟨by have := HK1.out; have := HK2.out; omega⟩, ⟨by (with_reducible repeat (first | apply Kd.R_alloc | apply Kd.R_drewN | apply Kd.R_drew)); exact Kd.R_mono (Kd.R_far (p := ⟨gb164, 0, none⟩) (Kd.R_types HO170.out BK164.out (by decide)) (fun _ hk => hk.2) (.slice Ao31 y168.length co31)) (fun _ hk => hk.1)⟩, ⟨by (with_reducible repeat (first | apply Kd.R_alloc | apply Kd.R_drewN | apply Kd.R_drew)); exact Kd.R_mono (Kd.R_far (p := ⟨gb164, 0, none⟩) (Kd.R_types HO_165001.out BK164.out (by decide)) (fun _ hk => hk.2) (.slice Ao31 y168.length co31)) (fun _ hk => hk.1.2)⟩, ⟨by (with_reducible repeat (first | refine blk_drewN ?_ _ | refine blk_drew ?_ | refine blk_alloc ?_ _)); refine blk_far ?_ NB159_164.out _; (with_reducible repeat (first | refine blk_drewN ?_ _ | refine blk_drew ?_ | refine blk_alloc ?_ _)); exact BK159.out⟩, ⟨by (with_reducible repeat (first | refine blk_drewN ?_ _ | refine blk_drew ?_ | refine blk_alloc ?_ _)); refine blk_far ?_ NB160_164.out _; (with_reducible repeat (first | refine blk_drewN ?_ _ | refine blk_drew ?_ | refine blk_alloc ?_ _)); exact BK160.out⟩, ⟨by (with_reducible repeat (first | refine blk_drewN ?_ _ | refine blk_drew ?_ | refine blk_alloc ?_ _)); refine blk_put (cs := #[u165000, u165001, .int .i64 x165002_2]) ?_ 0 _ rfl; (with_reducible repeat (first | refine blk_drewN ?_ _ | refine blk_drew ?_ | refine blk_alloc ?_ _)); exact BK164.out⟩, ⟨by repeat (first | (with_reducible first | exact HB.out | apply below_alloc | apply pw_below_drewN | apply below_drew1 | refine below_set ?_ GE159.out | refine below_set ?_ GE160.out | refine below_set ?_ GE164.out) | exact HB.out)⟩⟩
                · rw [if_neg c26] at H
                  exact absurd H (by simp)
              · rw [if_neg c25] at H
                have c25b0 : (x14_2 == a4) = false := beq_eq_false_iff_ne.mpr c25
                have c25b1 : (x14_2 != a4) = true := bne_iff_ne.mpr c25
                by_cases c33 : 0 ≤ x14_2
                · rw [if_pos c33] at H
                  have c33b0 : decide (0 ≤ x14_2) = true := decide_eq_true c33
                  clear c33
                  by_cases c34 : x14_2 < (l0_0.length : Int)
                  · rw [if_pos c34] at H
                    have c34b0 : decide (x14_2 < (l0_0.length : Int)) = true := decide_eq_true c34
                    clear c34
                    by_cases c35 : x14_2 < (x165001_2.length : Int)
                    · rw [if_pos c35] at H
                      have c35b0 : decide (x14_2 < (x165001_2.length : Int)) = true := decide_eq_true c35
                      clear c35
                      by_cases c36 : ((rd_L1 l0_0 x14_2).length : Int) = 0
                      · rw [if_pos c36] at H
                        exact absurd H (by simp)
                      · rw [if_neg c36] at H
                        have c36b0 : (((rd_L1 l0_0 x14_2).length : Int) == 0) = false := beq_eq_false_iff_ne.mpr c36
                        have c36b1 : (((rd_L1 l0_0 x14_2).length : Int) != 0) = true := bne_iff_ne.mpr c36
                        have c36b2 : ¬ ((rd_L1 l0_0 x14_2) = []) := fun h_ => c36 (by rw [h_]; rfl)
                        obtain ⟨y173, hy173⟩ : ∃ y_ : List Int, y_ = (x165001_2.set (x14_2 : Int).toNat (Int.tmod (wrap64 ((rd x165001_2 x14_2) + 1)) ((rd_L1 l0_0 x14_2).length : Int))) := ⟨_, rfl⟩
                        replace H : (if 0 ≤ (Int.tmod (wrap64 ((rd x165001_2 x14_2) + 1)) ((rd_L1 l0_0 x14_2).length : Int)) then (if (Int.tmod (wrap64 ((rd x165001_2 x14_2) + 1)) ((rd_L1 l0_0 x14_2).length : Int)) < ((rd_L1 l0_0 x14_2).length : Int) then (spec_hiRun.l1 k2 a2 a3 a4 x5_1 (rd (rd_L1 l0_0 x14_2) (Int.tmod (wrap64 ((rd x165001_2 x14_2) + 1)) ((rd_L1 l0_0 x14_2).length : Int))) l0_0 x165000_2 y173 (wrap64 (x165002_2 + 1))) else (none)) else (none)) = some (r1, r2, r3) := by first | (rw [hy173]; with_reducible exact H) | (have H2_ := (Option.bind_some _ _).symm.trans H; rw [hy173]; with_reducible exact H2_) | (have H2_ := (Option.bind_some _ _).symm.trans H; with_reducible exact H2_) | with_reducible exact H | (rw [hy173]; exact H) | exact H
                        have Ny173 := Aside0.mk hy173
                        clear hy173
                        obtain ⟨ji38, hji38⟩ : ∃ j_ : Int, (Int.tmod (wrap64 ((rd x165001_2 x14_2) + 1)) ((rd_L1 l0_0 x14_2).length : Int)) = j_ := ⟨_, rfl⟩
                        replace H : (if 0 ≤ (ji38) then (if (ji38) < ((rd_L1 l0_0 x14_2).length : Int) then (spec_hiRun.l1 k2 a2 a3 a4 x5_1 (rd (rd_L1 l0_0 x14_2) (ji38)) l0_0 x165000_2 y173 (wrap64 (x165002_2 + 1))) else (none)) else (none)) = some (r1, r2, r3) := by first | (rw [hji38] at H; exact H) | (simp only [hji38] at H ⊢; exact H)
                        (try rw [hji38] at Ny173)
                        by_cases c39 : 0 ≤ (ji38)
                        · rw [if_pos c39] at H
                          have c39b0 : decide (0 ≤ (ji38)) = true := decide_eq_true c39
                          clear c39
                          by_cases c40 : (ji38) < ((rd_L1 l0_0 x14_2).length : Int)
                          · rw [if_pos c40] at H
                            have c40b0 : decide ((ji38) < ((rd_L1 l0_0 x14_2).length : Int)) = true := decide_eq_true c40
                            clear c40
                            have H' := Aside0.mk H
                            clear H
                            have hnb41 := NB159_160.out
                            have hnc41 := NB160_159.out
                            have hnb42 := NB159_164.out
                            have hnc42 := NB164_159.out
                            have hcz43_0 : wr.cell? ⟨gb159, 0, none⟩ = some (.slice A0_0 l0_0.length c0_0) := (blk_cell BK159.out 0).trans rfl
                            have hfz43_0 := blk_frozen BK159.out 0
                            have p171 : 0 ≤ (x14_2 : Int) := of_decide_eq_true (by first | (with_reducible assumption) | assumption)
                            have q171 : x14_2 < (l0_0.length : Int) := of_decide_eq_true (by first | (with_reducible assumption) | assumption)
                            obtain ⟨ad171, A171_0, c171_0, e171, hx171_0, hl171_0, hi171_0⟩ := at_L1 HR0_0.out x14_2 p171 q171
                            cases e171
                            replace hx171_0 := (HB.out.cell (World.block_lt_of_cell? w _ hx171_0)).trans hx171_0
                            have HR171_0 := Aside0.mk hi171_0
                            have HC171_0 := Aside0.mk hl171_0
                            clear hi171_0 hl171_0
                            replace p171 := eq_true p171
                            replace q171 := eq_true q171
                            have hnb44 := NB164_160.out
                            have hnc44 := NB160_164.out
                            have hcz45_0 : wr.cell? ⟨gb164, 0, none⟩ = some (u165000) := (blk_cell BK164.out 0).trans rfl
                            have hcz45_1 : wr.cell? ⟨gb164, 1, none⟩ = some (u165001) := (blk_cell BK164.out 1).trans rfl
                            have hcz45_2 : wr.cell? ⟨gb164, 2, none⟩ = some (.int .i64 x165002_2) := (blk_cell BK164.out 2).trans rfl
                            have hfz45_0 := blk_frozen BK164.out 0
                            have hfz45_1 := blk_frozen BK164.out 1
                            have hfz45_2 := blk_frozen BK164.out 2
                            obtain ⟨Ao46, co46, eo46⟩ := Kd.R_slice HO_165001.out
                            subst eo46
                            have p172 : 0 ≤ (x14_2 : Int) := of_decide_eq_true (by first | (with_reducible assumption) | assumption)
                            have q172 : x14_2 < (x165001_2.length : Int) := of_decide_eq_true (by first | (with_reducible assumption) | assumption)
                            obtain ⟨ad172, e172, hx172_0⟩ := Kd.at_int (Kd.R_reads' HO_165001.out).2.2 x14_2 p172 q172
                            cases e172
                            replace p172 := eq_true p172
                            replace q172 := eq_true q172
                            have p37 : 0 ≤ (x14_2 : Int) := of_decide_eq_true (by first | (with_reducible assumption) | assumption)
                            have q37 : (x14_2 : Int) < ((x165001_2.length : Int) : Int) := of_decide_eq_true (by first | (with_reducible assumption) | assumption)
                            obtain ⟨go37, co37, eo37, gb37, gl37, cl37, HG37⟩ := Kd.R_form HO_165001.out (by omega)
                            (first | cases eo37 | (injection eo37 with ea_ en_ ec_; (first | subst ea_ | (injection ea_ with ea_; subst ea_)); subst ec_; clear en_))
                            have GB37 := Aside0.mk gb37
                            have GG37 := Aside0.mk HG37
                            clear gb37 gl37 HG37
                            (first | simp only [add_plain] at hx172_0 | skip)
                            obtain ⟨hx37_0, hf37_0⟩ := Kd.R_celln 0 HO_165001.out (x14_2 : Int) p37 q37
                            replace p37 := eq_true p37
                            replace q37 := eq_true q37
                            have HP47 := Kd.R_putg HO_165001.out (x14_2 : Int) ji38
                            go_wp2_with (first | ((with_reducible refine gate_store (t := 3) (p := 52) rfl ?_); refine store_event (t := 3) (p := 52) (v := ?vo_w48) (w1 := (wr.setCell ⟨go37, (x14_2 : Int).toNat, none⟩ (.int .i64 ji38))) ?hg ?ho ?hn ?hr ?_; (case ho => rfl); (case hg => rfl); (case hn => rfl); (case hr => first | (go_simp; done) | (go_simp; rfl)); intro w48 hw; have hg : wr.grownBy w48 (some go37) := (by rw [hw]; exact HP47.2); have hp_ : Kd.R (Kd.int .i64) 3 w48 w.heap.size (fun k_ => some k_ ≠ (u165000 : Value).ownBlock) (.slice (some ⟨go37, 0, none⟩) x165001_2.length co46) y173 := (by rw [hw, Ny173.out]; exact HP47.1); clear HP47; have n0_ := Aside0.mk (Kd.R_after (v := (.slice (some ⟨go37, 0, none⟩) x165001_2.length co46)) (v1 := (.slice (some ⟨go37, 0, none⟩) x165001_2.length co46)) (ok := (fun _ => True)) (by (with_reducible repeat (first | apply Kd.R_alloc | apply Kd.R_drewN | apply Kd.R_drew)); exact Kd.R_mono HO_165000.out (fun _ hk => ⟨trivial, hk⟩)) hg (.inl rfl)); have n1_ := Aside0.mk (hp_); have n2_ := Aside0.mk (blk_grown (g := gb159) (o := .cells #[.slice (some ad171) l0_0.length c0_0] 30 (0, 0)) (by (with_reducible repeat (first | refine blk_drewN ?_ _ | refine blk_drew ?_ | refine blk_alloc ?_ _)); exact BK159.out) hg (Kd.R_ne HO_165001.out BK159.out (by decide))); have n3_ := Aside0.mk (blk_grown (g := gb160) (o := .cells #[.slice none 0 0, .slice none 0 0, .int .i64 0] 80 (0, 0)) (by (with_reducible repeat (first | refine blk_drewN ?_ _ | refine blk_drew ?_ | refine blk_alloc ?_ _)); exact BK160.out) hg (Kd.R_ne HO_165001.out BK160.out (by decide))); have n4_ := Aside0.mk (blk_grown (g := gb164) (o := .cells #[u165000, .slice (some ⟨go37, 0, none⟩) x165001_2.length co46, .int .i64 x165002_2] 80 (0, 0)) (by (with_reducible repeat (first | refine blk_drewN ?_ _ | refine blk_drew ?_ | refine blk_alloc ?_ _)); exact BK164.out) hg (Kd.R_ne HO_165001.out BK164.out (by decide))); have n5_ := Aside0.mk ((by rw [hw]; exact below_set (HB.out) GB37.out : Below w.heap.size w w48)); clear HO_165000; clear HO_165001; clear BK159; clear BK160; clear BK164; clear HB; have HO_165000 := n0_; have HO_165001 := n1_; have BK159 := n2_; have BK160 := n3_; have BK164 := n4_; have HB := n5_; clear n0_ n1_ n2_ n3_ n4_ n5_; clear hg hw hp_; have p174 : 0 ≤ ((ji38) : Int) := of_decide_eq_true (by first | (with_reducible assumption) | assumption); have q174 : (ji38) < ((rd_L1 l0_0 x14_2).length : Int) := of_decide_eq_true (by first | (with_reducible assumption) | assumption); obtain ⟨ad174, e174, hx174_0⟩ := Kd.at_int HR171_0.out (ji38) p174 q174; cases e174; replace hx174_0 := (HB.out.cell (World.block_lt_of_cell? w _ hx174_0)).trans hx174_0; replace p174 := eq_true p174; replace q174 := eq_true q174; have hcz49_0 : w48.cell? ⟨gb164, 0, none⟩ = some (u165000) := (blk_cell BK164.out 0).trans rfl; have hcz49_1 : w48.cell? ⟨gb164, 1, none⟩ = some (.slice (some ⟨go37, 0, none⟩) x165001_2.length co46) := (blk_cell BK164.out 1).trans rfl; have hcz49_2 : w48.cell? ⟨gb164, 2, none⟩ = some (.int .i64 x165002_2) := (blk_cell BK164.out 2).trans rfl; have hfz49_0 := blk_frozen BK164.out 0; have hfz49_1 := blk_frozen BK164.out 1; have hfz49_2 := blk_frozen BK164.out 2))
                            go_roundg k2
                            case measure => have := HK1.out; have := HK2.out; omega
                            case rel => exact ⟨(rd (rd_L1 l0_0 x14_2) (ji38)), (x165000_2), (y173), (wrap64 (x165002_2 + 1)), (u165000), (.slice (some ⟨go37, 0, none⟩) x165001_2.length co46), (by first | rfl | (simp; done) | (simp only [← hji38] <;> (first | rfl | simp)) | (simp [*]; done)), H', ⟨by have := HK1.out; have := HK2.out; omega⟩, ⟨by (with_reducible repeat (first | apply Kd.R_alloc | apply Kd.R_drewN | apply Kd.R_drew)); exact Kd.R_mono (Kd.R_far (p := ⟨gb164, 2, none⟩) (Kd.R_types HO_165000.out BK164.out (by decide)) (fun _ hk => hk.2) (.int .i64 (wrap64 (x165002_2 + 1)))) (fun _ hk => hk.1.2)⟩, ⟨by (with_reducible repeat (first | apply Kd.R_alloc | apply Kd.R_drewN | apply Kd.R_drew)); exact Kd.R_mono (Kd.R_far (p := ⟨gb164, 2, none⟩) (Kd.R_types HO_165001.out BK164.out (by decide)) (fun _ hk => hk.2) (.int .i64 (wrap64 (x165002_2 + 1)))) (fun _ hk => hk.1)⟩, ⟨by (with_reducible repeat (first | refine blk_drewN ?_ _ | refine blk_drew ?_ | refine blk_alloc ?_ _)); refine blk_far ?_ NB159_164.out _; (with_reducible repeat (first | refine blk_drewN ?_ _ | refine blk_drew ?_ | refine blk_alloc ?_ _)); exact BK159.out⟩, ⟨by (with_reducible repeat (first | refine blk_drewN ?_ _ | refine blk_drew ?_ | refine blk_alloc ?_ _)); refine blk_far ?_ NB160_164.out _; (with_reducible repeat (first | refine blk_drewN ?_ _ | refine blk_drew ?_ | refine blk_alloc ?_ _)); exact BK160.out⟩, ⟨by (with_reducible repeat (first | refine blk_drewN ?_ _ | refine blk_drew ?_ | refine blk_alloc ?_ _)); refine blk_put (cs := #[u165000, .slice (some ⟨go37, 0, none⟩) x165001_2.length co46, .int .i64 x165002_2]) ?_ 2 _ rfl; (with_reducible repeat (first | refine blk_drewN ?_ _ | refine blk_drew ?_ | refine blk_alloc ?_ _)); exact BK164.out⟩, ⟨by repeat (first | (with_reducible first | exact HB.out | apply below_alloc | apply pw_below_drewN | apply below_drew1 | refine below_set ?_ GE159.out | refine below_set ?_ GE160.out | refine below_set ?_ GE164.out) | exact HB.out)⟩⟩
                          · rw [if_neg c40] at H
                            exact absurd H (by simp)
                        · rw [if_neg c39] at H
                          exact absurd H (by simp)
                    · rw [if_neg c35] at H
                      exact absurd H (by simp)
                  · rw [if_neg c34] at H
                    exact absurd H (by simp)
                · rw [if_neg c33] at H
                  exact absurd H (by simp)
      · rw [if_neg c16] at H
        have c16b0 : decide (0 < x5_1) = false := decide_eq_false c16
        clear c16
        simp only [Option.some.injEq, Prod.mk.injEq] at H
        obtain ⟨rfl, rfl, rfl⟩ := H
        have hnb50 := NB164_159.out
        have hnc50 := NB159_164.out
        have hnb51 := NB164_160.out
        have hnc51 := NB160_164.out
        have hcz52_0 : wr.cell? ⟨gb164, 0, none⟩ = some (u165000) := (blk_cell BK164.out 0).trans rfl
        have hcz52_1 : wr.cell? ⟨gb164, 1, none⟩ = some (u165001) := (blk_cell BK164.out 1).trans rfl
        have hcz52_2 : wr.cell? ⟨gb164, 2, none⟩ = some (.int .i64 x165002_1) := (blk_cell BK164.out 2).trans rfl
        have hfz52_0 := blk_frozen BK164.out 0
        have hfz52_1 := blk_frozen BK164.out 1
        have hfz52_2 := blk_frozen BK164.out 2
        obtain ⟨Ao53, co53, eo53⟩ := Kd.R_slice HO_165000.out
        subst eo53
        have hnb54 := NB160_159.out
        have hnc54 := NB159_160.out
        have hcz55_0 : wr.cell? ⟨gb160, 0, none⟩ = some (.slice none 0 0) := (blk_cell BK160.out 0).trans rfl
        have hcz55_1 : wr.cell? ⟨gb160, 1, none⟩ = some (.slice none 0 0) := (blk_cell BK160.out 1).trans rfl
        have hcz55_2 : wr.cell? ⟨gb160, 2, none⟩ = some (.int .i64 0) := (blk_cell BK160.out 2).trans rfl
        have hfz55_0 := blk_frozen BK160.out 0
        have hfz55_1 := blk_frozen BK160.out 1
        have hfz55_2 := blk_frozen BK160.out 2
        obtain ⟨Ao56, co56, eo56⟩ := Kd.R_slice HO_165001.out
        subst eo56
        go_wp2
        refine bodyPost_ret (results_cell_row rfl _ _ gb160 80 #[.slice Ao53 x165000_1.length co53, .slice Ao56 x165001_1.length co56, .int .i64 x165002_1] (0, 0) _ rfl (by (with_reducible repeat (first | refine blk_drewN ?_ _ | refine blk_drew ?_ | refine blk_alloc ?_ _)); refine blk_put (cs := #[.slice Ao53 x165000_1.length co53, .slice Ao56 x165001_1.length co56, .int .i64 0]) ?_ 2 _ rfl; (with_reducible repeat (first | refine blk_drewN ?_ _ | refine blk_drew ?_ | refine blk_alloc ?_ _)); refine blk_put (cs := #[.slice Ao53 x165000_1.length co53, .slice none 0 0, .int .i64 0]) ?_ 1 _ rfl; (with_reducible repeat (first | refine blk_drewN ?_ _ | refine blk_drew ?_ | refine blk_alloc ?_ _)); refine blk_put (cs := #[.slice none 0 0, .slice none 0 0, .int .i64 0]) ?_ 0 _ rfl; (with_reducible repeat (first | refine blk_drewN ?_ _ | refine blk_drew ?_ | refine blk_alloc ?_ _)); exact BK160.out) Try.underlying80 rfl (by kernel_rfl)) rfl ?_
        exact ⟨_, _, by first | rfl | (simp [errW_none, errW_some] <;> rfl) | (simp [*, errW_none, errW_some] <;> rfl), by (with_reducible repeat (first | apply Kd.R_alloc | apply Kd.R_drewN | apply Kd.R_drew)); exact Kd.R_mono (Kd.R_far (p := ⟨gb160, 2, none⟩) (Kd.R_far (p := ⟨gb160, 1, none⟩) (Kd.R_far (p := ⟨gb160, 0, none⟩) (Kd.R_types HO_165000.out BK160.out (by decide)) (fun _ hk => hk.2) (.slice Ao53 x165000_1.length co53)) (fun _ hk => hk.2) (.slice Ao56 x165001_1.length co56)) (fun _ hk => hk.2) (.int .i64 x165002_1)) (fun _ hk => hk.1), by (with_reducible repeat (first | apply Kd.R_alloc | apply Kd.R_drewN | apply Kd.R_drew)); exact Kd.R_mono (Kd.R_far (p := ⟨gb160, 2, none⟩) (Kd.R_far (p := ⟨gb160, 1, none⟩) (Kd.R_far (p := ⟨gb160, 0, none⟩) (Kd.R_types HO_165001.out BK160.out (by decide)) (fun _ hk => hk.2) (.slice Ao53 x165000_1.length co53)) (fun _ hk => hk.2) (.slice Ao56 x165001_1.length co56)) (fun _ hk => hk.2) (.int .i64 x165002_1)) (fun _ hk => hk.1), by repeat (first | (with_reducible first | exact HB.out | apply below_alloc | apply pw_below_drewN | apply below_drew1 | refine below_set ?_ GE159.out | refine below_set ?_ GE160.out | refine below_set ?_ GE164.out) | exact HB.out)⟩
def spec_StepsOfHits.f (k : Nat) (l0_0 : List (List Int)) (l1 : List Int) (a2 : Int) (a3 : Int) (a4 : Int) (a5 : Int) : Option (Int × Bool) := (spec_hiAsked.f k l0_0 l1 a2 a3 a4 a5).bind fun t176 => (if t176 = true then ((spec_hiRun.f k l0_0 l1 a2 a3 a4 a5).bind fun bt177 => (some (bt177.2.2, true))) else (some (0, false)))
def spec_hiSum.l0 : Nat → Int → List Int → Int → Int → Option (Int)
  | 0, _, _, _, _ => none
  | k + 1, x3, x6, x7, x8 => if x8 < x7 then (if 0 ≤ x8 then (if x8 < (x6.length : Int) then (spec_hiSum.l0 k (wrap64 (x3 + (rd x6 x8))) x6 x7 (wrap64 (x8 + 1))) else (none)) else (none)) else (some x3)
def spec_hiSum.f (k : Nat) (l0 : List Int) : Option (Int) := spec_hiSum.l0 k 0 l0 (l0.length : Int) 0
def spec_HitsOf.f (k : Nat) (l0_0 : List (List Int)) (l1 : List Int) (a2 : Int) (a3 : Int) (a4 : Int) (a5 : Int) : Option (Int × Bool) := (spec_hiAsked.f k l0_0 l1 a2 a3 a4 a5).bind fun t186 => (if t186 = true then ((spec_hiRun.f k l0_0 l1 a2 a3 a4 a5).bind fun bt187 => ((spec_hiSum.f k bt187.1).bind fun t194 => (some (t194, true)))) else (some (0, false)))
def spec_HitList.f (k : Nat) (l0_0 : List (List Int)) (l1 : List Int) (a2 : Int) (a3 : Int) (a4 : Int) (a5 : Int) : Option (List Int × Bool) := (spec_hiAsked.f k l0_0 l1 a2 a3 a4 a5).bind fun t196 => (if t196 = true then ((spec_hiRun.f k l0_0 l1 a2 a3 a4 a5).bind fun bt197 => (some (bt197.1, true))) else (some (([] : List Int), false)))
def spec_RotorsBehind.f (k : Nat) (l0_0 : List (List Int)) (l1 : List Int) (a2 : Int) (a3 : Int) (a4 : Int) (a5 : Int) : Option (List Int × Bool) := (spec_hiAsked.f k l0_0 l1 a2 a3 a4 a5).bind fun t205 => (if t205 = true then ((spec_hiRun.f k l0_0 l1 a2 a3 a4 a5).bind fun bt206 => (some (bt206.2.1, true))) else (some (([] : List Int), false)))
set_option maxHeartbeats 8000000 in
set_option maxRecDepth 100000 in
theorem spec_RotorsBehind.calls (k : Nat) (A0_0 : Option Addr) (c0_0 : Nat) (l0_0 : List (List Int)) (A1 : Option Addr) (c1 : Nat) (l1 : List Int) (a2 : Int) (a3 : Int) (a4 : Int) (a5 : Int) (r1 : List Int) (r2 : Bool) (w : World) (hr0_0 : Kd.C (Kd.slice 3 (Kd.int .i64)) w A0_0 l0_0.length l0_0) (hc0_0 : l0_0.length ≤ c0_0) (hr1 : Kd.C (Kd.int .i64) w A1 l1.length l1) (hc1 : l1.length ≤ c1) (h : spec_RotorsBehind.f k l0_0 l1 a2 a3 a4 a5 = some (r1, r2)) :
    Calls Try.prog 38 #[.agg #[.slice A0_0 l0_0.length c0_0], .slice A1 l1.length c1, .int .i64 a2, .int .i64 a3, .int .i64 a4, .int .i64 a5] w fun e w' => ∃ v0_ : Value, e = .returned (.tuple #[v0_, .bool r2]) ∧ Kd.R (Kd.int .i64) 3 w' w.heap.size (fun _ => True) v0_ r1 ∧ Below w.heap.size w w' := by
  have hu30 := Try.underlying30
  have HR0_0 := Aside0.mk hr0_0
  have HC0_0 := Aside0.mk hc0_0
  clear hr0_0 hc0_0
  have HR1 := Aside0.mk hr1
  have HC1 := Aside0.mk hc1
  clear hr1 hc1
  have HB := Aside0.mk (Below.refl w.heap.size w)
  have H : ((spec_hiAsked.f k l0_0 l1 a2 a3 a4 a5).bind fun t205 => (if t205 = true then ((spec_hiRun.f k l0_0 l1 a2 a3 a4 a5).bind fun bt206 => (some (bt206.2.1, true))) else (some (([] : List Int), false)))) = some (r1, r2) := h
  clear h
  replace H := Option.bind_eq_some_iff.mp H
  obtain ⟨t205, A70, H⟩ := H
  replace H : (if t205 = true then ((spec_hiRun.f k l0_0 l1 a2 a3 a4 a5).bind fun bt206 => (some (bt206.2.1, true))) else (some (([] : List Int), false))) = some (r1, r2) := H
  have A7 := Aside0.mk A70
  clear A70
  by_cases c8 : t205 = true
  · subst c8
    have H1 : ((spec_hiRun.f k l0_0 l1 a2 a3 a4 a5).bind fun bt206 => (some (bt206.2.1, true))) = some (r1, r2) := by rw [if_pos rfl] at H; exact H
    clear H
    have H := H1
    clear H1
    replace H := Option.bind_eq_some_iff.mp H
    obtain ⟨⟨t206, t209, t212⟩, A90, H⟩ := H
    replace H : (some (t209, true)) = some (r1, r2) := H
    have A9 := Aside0.mk A90
    clear A90
    simp only [Option.some.injEq, Prod.mk.injEq] at H
    obtain ⟨rfl, rfl⟩ := H
    go_enter Try.func38, Try.ntmps38
    go_wp2_with (first | ((with_reducible refine gate_dst (N := 6) rfl ?_); refine box_event ?hg (N := 6) ?hd (cs := #[.slice A0_0 l0_0.length c0_0]) (t := 30) ?hr ?_; (case hd => rfl); (case hg => rfl); (case hr => first | (go_simp; done) | (go_simp; rfl)); intro gb204 hg w10 hbox hb; have n0_ := Aside0.mk (below_step (by repeat (first | (with_reducible first | exact HB.out | apply below_alloc | apply pw_below_drewN | apply below_drew1) | exact HB.out)) hb); have n1_ := Aside0.mk (hbox); have n2_ := Aside0.mk ((by rw [hg]; exact (below_size (by repeat (first | (with_reducible first | exact HB.out | apply below_alloc | apply pw_below_drewN | apply below_drew1) | exact HB.out))) : w.heap.size ≤ gb204)); have n3_ := Aside0.mk ((by rw [hg]; exact (below_size (by repeat (first | (with_reducible first | exact HB.out | apply below_alloc | apply pw_below_drewN | apply below_drew1) | exact HB.out))) : w.heap.size ≤ gb204)); clear HB; have HB := n0_; have BK204 := n1_; have GW204 := n2_; have GE204 := n3_; clear n0_ n1_ n2_ n3_; clear hb hbox hg; have hcz11_0 : w10.cell? ⟨gb204, 0, none⟩ = some (.slice A0_0 l0_0.length c0_0) := (blk_cell BK204.out 0).trans rfl; have hfz11_0 := blk_frozen BK204.out 0) | ((with_reducible refine gate_callee (f := 82) rfl ?_); refine goesL_ (some 20) rfl rfl Try.func82 (by kernel_rfl) rfl #[.agg #[.slice A0_0 l0_0.length c0_0], .slice A1 l1.length c1, .int .i64 a2, .int .i64 a3, .int .i64 a4, .int .i64 a5] rfl (by (try simp only [List.map_toArray, List.map_cons, List.map_nil]); first | done | rfl | (simp only [List.length_drop, List.length_take]; rfl)) ?_; (with_reducible refine (spec_hiAsked.calls k _ _ l0_0 _ _ l1 a2 a3 a4 a5 true _ ?side1 ?side2 ?side3 ?side4 A7.out).mono ?_); (case side1 => repeat (first | exact (Kd.C_below HR0_0.out HB.out) | (with_reducible refine Kd.C_alloc ?_ _) | (with_reducible refine Kd.C_drewN ?_ _) | (with_reducible refine Kd.C_drew ?_))); (case side2 => exact HC0_0.out); (case side3 => repeat (first | exact (Kd.C_below HR1.out HB.out) | (with_reducible refine Kd.C_alloc ?_ _) | (with_reducible refine Kd.C_drewN ?_ _) | (with_reducible refine Kd.C_drew ?_))); (case side4 => exact HC1.out); rintro e w12 ⟨rfl, hb⟩; refine ⟨_, rfl, ?_⟩; have n0_ := Aside0.mk (blk_below (g := gb204) (o := .cells #[.slice A0_0 l0_0.length c0_0] 30 (0, 0)) (by (with_reducible repeat (first | refine blk_drewN ?_ _ | refine blk_drew ?_ | refine blk_alloc ?_ _)); exact BK204.out) hb); have n1_ := Aside0.mk (below_step (by repeat (first | (with_reducible first | exact HB.out | apply below_alloc | apply pw_below_drewN | apply below_drew1 | refine below_set ?_ GE204.out) | exact HB.out)) hb); clear BK204; clear HB; have BK204 := n0_; have HB := n1_; clear n0_ n1_; (try clear hb); (try clear hb2); (try clear hk); (try clear hi); have hcz13_0 : w12.cell? ⟨gb204, 0, none⟩ = some (.slice A0_0 l0_0.length c0_0) := (blk_cell BK204.out 0).trans rfl; have hfz13_0 := blk_frozen BK204.out 0) | ((with_reducible refine gate_callee (f := 83) rfl ?_); refine goesL_ (some 28) rfl rfl Try.func83 (by kernel_rfl) rfl #[.agg #[.slice A0_0 l0_0.length c0_0], .slice A1 l1.length c1, .int .i64 a2, .int .i64 a3, .int .i64 a4, .int .i64 a5] rfl (by (try simp only [List.map_toArray, List.map_cons, List.map_nil]); first | done | rfl | (simp only [List.length_drop, List.length_take]; rfl)) ?_; (with_reducible refine (spec_hiRun.calls k _ _ l0_0 _ _ l1 a2 a3 a4 a5 t206 t209 t212 _ ?side1 ?side2 ?side3 ?side4 A9.out).mono ?_); (case side1 => repeat (first | exact (Kd.C_below HR0_0.out HB.out) | (with_reducible refine Kd.C_alloc ?_ _) | (with_reducible refine Kd.C_drewN ?_ _) | (with_reducible refine Kd.C_drew ?_))); (case side2 => exact HC0_0.out); (case side3 => repeat (first | exact (Kd.C_below HR1.out HB.out) | (with_reducible refine Kd.C_alloc ?_ _) | (with_reducible refine Kd.C_drewN ?_ _) | (with_reducible refine Kd.C_drew ?_))); (case side4 => exact HC1.out); rintro e w14 ⟨v207, v210, rfl, ho0, ho1, hb⟩; refine ⟨_, rfl, ?_⟩; have n0_ := Aside0.mk (Kd.R_lower ho0 (below_size (by repeat (first | (with_reducible first | exact HB.out | apply below_alloc | apply pw_below_drewN | apply below_drew1 | refine below_set ?_ GE204.out) | exact HB.out)))); have n1_ := Aside0.mk (Kd.R_lower ho1 (below_size (by repeat (first | (with_reducible first | exact HB.out | apply below_alloc | apply pw_below_drewN | apply below_drew1 | refine below_set ?_ GE204.out) | exact HB.out)))); have n2_ := Aside0.mk (blk_below (g := gb204) (o := .cells #[.slice A0_0 l0_0.length c0_0] 30 (0, 0)) (by (with_reducible repeat (first | refine blk_drewN ?_ _ | refine blk_drew ?_ | refine blk_alloc ?_ _)); exact BK204.out) hb); have n3_ := Aside0.mk (below_step (by repeat (first | (with_reducible first | exact HB.out | apply below_alloc | apply pw_below_drewN | apply below_drew1 | refine below_set ?_ GE204.out) | exact HB.out)) hb); clear BK204; clear HB; have HO208 := n0_; have HO211 := n1_; have BK204 := n2_; have HB := n3_; clear n0_ n1_ n2_ n3_; (try clear hb); (try clear hb2); (try clear hk); (try clear hi); (try clear ho0); (try clear ho1)))
    go_ret2
    exact ⟨_, by first | rfl | (simp [errW_none, errW_some] <;> rfl) | (simp [*, errW_none, errW_some] <;> rfl), by (with_reducible repeat (first | apply Kd.R_alloc | apply Kd.R_drewN | apply Kd.R_drew)); exact Kd.R_mono HO211.out (fun _ hk => trivial), by repeat (first | (with_reducible first | exact HB.out | apply below_alloc | apply pw_below_drewN | apply below_drew1 | refine below_set ?_ GE204.out) | exact HB.out)⟩
  · replace c8 := Bool.eq_false_iff.mpr c8
    subst c8
    have H1 : (some (([] : List Int), false)) = some (r1, r2) := by rw [if_neg (show ¬ (false = true) by decide)] at H; exact H
    clear H
    have H := H1
    clear H1
    simp only [Option.some.injEq, Prod.mk.injEq] at H
    obtain ⟨rfl, rfl⟩ := H
    go_enter Try.func38, Try.ntmps38
    go_wp2_with (first | ((with_reducible refine gate_dst (N := 6) rfl ?_); refine box_event ?hg (N := 6) ?hd (cs := #[.slice A0_0 l0_0.length c0_0]) (t := 30) ?hr ?_; (case hd => rfl); (case hg => rfl); (case hr => first | (go_simp; done) | (go_simp; rfl)); intro gb204 hg w15 hbox hb; have n0_ := Aside0.mk (below_step (by repeat (first | (with_reducible first | exact HB.out | apply below_alloc | apply pw_below_drewN | apply below_drew1) | exact HB.out)) hb); have n1_ := Aside0.mk (hbox); have n2_ := Aside0.mk ((by rw [hg]; exact (below_size (by repeat (first | (with_reducible first | exact HB.out | apply below_alloc | apply pw_below_drewN | apply below_drew1) | exact HB.out))) : w.heap.size ≤ gb204)); have n3_ := Aside0.mk ((by rw [hg]; exact (below_size (by repeat (first | (with_reducible first | exact HB.out | apply below_alloc | apply pw_below_drewN | apply below_drew1) | exact HB.out))) : w.heap.size ≤ gb204)); clear HB; have HB := n0_; have BK204 := n1_; have GW204 := n2_; have GE204 := n3_; clear n0_ n1_ n2_ n3_; clear hb hbox hg; have hcz16_0 : w15.cell? ⟨gb204, 0, none⟩ = some (.slice A0_0 l0_0.length c0_0) := (blk_cell BK204.out 0).trans rfl; have hfz16_0 := blk_frozen BK204.out 0) | ((with_reducible refine gate_callee (f := 82) rfl ?_); refine goesL_ (some 20) rfl rfl Try.func82 (by kernel_rfl) rfl #[.agg #[.slice A0_0 l0_0.length c0_0], .slice A1 l1.length c1, .int .i64 a2, .int .i64 a3, .int .i64 a4, .int .i64 a5] rfl (by (try simp only [List.map_toArray, List.map_cons, List.map_nil]); first | done | rfl | (simp only [List.length_drop, List.length_take]; rfl)) ?_; (with_reducible refine (spec_hiAsked.calls k _ _ l0_0 _ _ l1 a2 a3 a4 a5 false _ ?side1 ?side2 ?side3 ?side4 A7.out).mono ?_); (case side1 => repeat (first | exact (Kd.C_below HR0_0.out HB.out) | (with_reducible refine Kd.C_alloc ?_ _) | (with_reducible refine Kd.C_drewN ?_ _) | (with_reducible refine Kd.C_drew ?_))); (case side2 => exact HC0_0.out); (case side3 => repeat (first | exact (Kd.C_below HR1.out HB.out) | (with_reducible refine Kd.C_alloc ?_ _) | (with_reducible refine Kd.C_drewN ?_ _) | (with_reducible refine Kd.C_drew ?_))); (case side4 => exact HC1.out); rintro e w17 ⟨rfl, hb⟩; refine ⟨_, rfl, ?_⟩; have n0_ := Aside0.mk (blk_below (g := gb204) (o := .cells #[.slice A0_0 l0_0.length c0_0] 30 (0, 0)) (by (with_reducible repeat (first | refine blk_drewN ?_ _ | refine blk_drew ?_ | refine blk_alloc ?_ _)); exact BK204.out) hb); have n1_ := Aside0.mk (below_step (by repeat (first | (with_reducible first | exact HB.out | apply below_alloc | apply pw_below_drewN | apply below_drew1 | refine below_set ?_ GE204.out) | exact HB.out)) hb); clear BK204; clear HB; have BK204 := n0_; have HB := n1_; clear n0_ n1_; (try clear hb); (try clear hb2); (try clear hk); (try clear hi)))
    go_ret2
    exact ⟨_, by first | rfl | (simp [errW_none, errW_some] <;> rfl) | (simp [*, errW_none, errW_some] <;> rfl), by first | exact Kd.R_nil _ _ _ _ _ | exact Kd.N_nil _ _ _ _ _ | exact Kd.V_nil _ _ _ _ _ | exact Kd.Q_nil _ _ _ _ _ | exact Kd.S_nil _ _ _ _ _, by repeat (first | (with_reducible first | exact HB.out | apply below_alloc | apply pw_below_drewN | apply below_drew1 | refine below_set ?_ GE204.out) | exact HB.out)⟩
end Go.Proofs.Ytnbnalbomflafaa.GQ
/-! ## Cd -/
namespace Go.Proofs.Ytnbnalbomflafaa.RA
open Go.RowKit Go.Proofs.YtnbnalbomflafaaW.PrintWords Go.Proofs.YtnbnalbomflafaaW.PrintLast Go.Proofs.YtnbnalbomflafaaW.PrintMore
open Go.Proofs.Ytnbnalbomflafaa.GA
open Go.Proofs.Ytnbnalbomflafaa.GB hiding rd_L1 at_L1
open Go.Proofs.Ytnbnalbomflafaa.GD hiding rd_L1 at_L1
open Go.Proofs.Ytnbnalbomflafaa.GR hiding rd_L1 at_L1
open Go.Proofs.Ytnbnalbomflafaa.GQ hiding rd_L1 at_L1
open Go.Proofs.Ytnbnalbomflafaa.HB hiding rd_L1 at_L1
open Go.Proofs.Ytnbnalbomflafaa.KA
set_option linter.unusedVariables false
set_option linter.unusedSimpArgs false
theorem rdQ (l : List (List Int)) (i : Int) : GQ.rd_L1 l i = GA.rd_L1 l i := rfl
def hitOf (v a : Int) : Int := if v = a then 1 else 0
theorem spec_run {l : List (List Int)} {a b : Int} {s : Nat} {v : Int} {rot : List Int} {st v1 : Int} {rot1 : List Int} {st1 : Int} (h : Run l a b s v rot st v1 rot1 st1) (hab : a ≠ b) :
    ∀ (k : Nat) (p n : Int) (hits : List Int), hits.length ≤ 1000 → spec_hiRun.l1 (k + s + 1) p a b n v l hits rot st = spec_hiRun.l0 k p a b (wrap64 (n - 1)) l (hits ++ [hitOf v1 a]) rot1 st1 := by
  induction h with
  | stop v rot st h =>
    intro k p n hits hh
    show spec_hiRun.l1 (k + 1) _ _ _ _ _ _ _ _ _ = _
    unfold spec_hiRun.l1 hitOf
    by_cases ha : v = a
    · rw [if_pos ha, if_pos (by omega), if_pos ha]
    · rw [if_neg ha, if_pos (h.resolve_left ha), if_pos (by omega), if_neg ha]
  | go s v rot st v1 rot1 st1 ha hb h0 h1 hr k hk hkr h ih =>
    intro k2 p n hits hh
    have := ih k2 p n hits hh
    unfold spec_hiRun.l1
    rw [if_neg ha, if_neg hb, if_pos h0, if_pos h1, if_pos hr, rdQ, if_neg (by omega), hkr, if_pos (by omega), if_pos (by omega)]
    exact this
inductive Chips (l : List (List Int)) (a b p : Int) : Nat → List Int → List Int → Int → List Int → List Int → Int → Prop
  | none (hits rot : List Int) (st : Int) : Chips l a b p 0 hits rot st hits rot st
  | more (n s : Nat) (hits rot : List Int) (st v1 : Int) (rot1 : List Int) (st1 : Int) (hits2 rot2 : List Int) (st2 : Int) (h : Run l a b s p rot st v1 rot1 st1) (h2 : Chips l a b p n (hits ++ [hitOf v1 a]) rot1 st1 hits2 rot2 st2) : Chips l a b p (n + 1) hits rot st hits2 rot2 st2
theorem chips_len {l : List (List Int)} {a b p : Int} {n : Nat} {hits rot : List Int} {st : Int} {hits2 rot2 : List Int} {st2 : Int} (h : Chips l a b p n hits rot st hits2 rot2 st2) : hits2.length = hits.length + n := by
  induction h with
  | none => rfl
  | more n s hits rot st v1 rot1 st1 hits2 rot2 st2 h h2 ih => rw [ih]; simp; omega
theorem chips_ex (l : List (List Int)) (a b p : Int) (h5 : ∀ v : Int, 0 ≤ v → v < l.length → (GA.rd_L1 l v).length ≤ 5) (hrow : ∀ v : Int, 0 ≤ v → v < l.length → ∀ q ∈ GA.rd_L1 l v, 0 ≤ q ∧ q < l.length)
    (hE : ∀ v : Int, 0 ≤ v → v < l.length → Ends l a b v) (hp0 : 0 ≤ p) (hp1 : p < l.length) : ∀ (n : Nat) (hits rot : List Int) (st : Int), Rots l rot → ∃ hits2 rot2 st2, Chips l a b p n hits rot st hits2 rot2 st2 ∧ Rots l rot2
  | 0, hits, rot, st, hR => ⟨hits, rot, st, Chips.none _ _ _, hR⟩
  | n + 1, hits, rot, st, hR => by
    obtain ⟨s, v1, rot1, st1, hrun, hR1⟩ := run_ex l a b h5 hrow hE rot p st hR hp0 hp1
    obtain ⟨hits2, rot2, st2, hc, hR2⟩ := chips_ex l a b p h5 hrow hE hp0 hp1 n (hits ++ [hitOf v1 a]) rot1 st1 hR1
    exact ⟨hits2, rot2, st2, Chips.more n s hits rot st v1 rot1 st1 hits2 rot2 st2 hrun hc, hR2⟩
theorem spec_chips {l : List (List Int)} {a b p : Int} (hab : a ≠ b) {n : Nat} {hits rot : List Int} {st : Int} {hits2 rot2 : List Int} {st2 : Int} (h : Chips l a b p n hits rot st hits2 rot2 st2) (hh : hits.length + n ≤ 1000) :
    ∃ K, ∀ k, K ≤ k → spec_hiRun.l0 k p a b (n : Int) l hits rot st = some (hits2, rot2, st2) := by
  induction h with
  | none hits rot st =>
    refine ⟨1, fun k hk => ?_⟩
    obtain ⟨k, rfl⟩ := succ_of (show 0 < k by omega)
    unfold spec_hiRun.l0
    rw [if_neg (by omega)]
  | more n s hits rot st v1 rot1 st1 hits2 rot2 st2 h h2 ih =>
    obtain ⟨K, hK⟩ := ih (by simp; omega)
    refine ⟨K + s + 2, fun k hk => ?_⟩
    obtain ⟨k2, rfl⟩ : ∃ k2, k = k2 + s + 1 + 1 := ⟨k - s - 2, by omega⟩
    unfold spec_hiRun.l0
    rw [if_pos (by omega), spec_run h hab k2 p _ hits (by omega), show wrap64 (((n + 1 : Nat) : Int) - 1) = (n : Int) by rw [wrap_id (by omega) (by omega)]; omega]
    exact hK k2 (by omega)
end Go.Proofs.Ytnbnalbomflafaa.RA
/-! ## Ce -/
namespace Go.Proofs.Ytnbnalbomflafaa.RA
open Go.RowKit Go.Proofs.YtnbnalbomflafaaW.PrintWords Go.Proofs.YtnbnalbomflafaaW.PrintLast Go.Proofs.YtnbnalbomflafaaW.PrintMore
open Go.Proofs.Ytnbnalbomflafaa.GA
open Go.Proofs.Ytnbnalbomflafaa.GB hiding rd_L1 at_L1
open Go.Proofs.Ytnbnalbomflafaa.GD hiding rd_L1 at_L1
open Go.Proofs.Ytnbnalbomflafaa.GR hiding rd_L1 at_L1
open Go.Proofs.Ytnbnalbomflafaa.GQ hiding rd_L1 at_L1
open Go.Proofs.Ytnbnalbomflafaa.HB hiding rd_L1 at_L1
open Go.Proofs.Ytnbnalbomflafaa.KA
set_option linter.unusedVariables false
set_option linter.unusedSimpArgs false
theorem good_both (l : List (List Int)) (a b : Int) : ∃ u, (∀ k, 400 ≤ k → spec_hiGood.f k l a b = some u ∧ impl_canEnd.f k l a b = some u) ∧ (u = true → placeB l a = true ∧ placeB l b = true ∧ a ≠ b ∧ ∀ v : Int, 0 ≤ v → v < l.length → Ends l a b v) := by
  cases h : placeB l a && placeB l b && (a != b) with
  | false =>
    refine ⟨false, fun k hk => ⟨?_, can_none l a b h k (by omega)⟩, fun h => by cases h⟩
    unfold spec_hiGood.f
    rw [goals_eq l a b k (by omega), h]
    rfl
  | true =>
    obtain ⟨u, hu⟩ := can_both l a b h
    refine ⟨u, fun k hk => ⟨?_, (hu k (by omega)).2⟩, fun hut => ?_⟩
    · unfold spec_hiGood.f
      rw [goals_eq l a b k (by omega), h, Option.bind_some, if_pos rfl, (hu k (by omega)).1]
      rfl
    · simp only [Bool.and_eq_true, bne_iff_ne] at h
      obtain ⟨⟨h1, h2⟩, h3⟩ := h
      obtain ⟨hg, _, h8, _, _⟩ := place_is h1
      refine ⟨h1, h2, h3, fun v h0 hv => ?_⟩
      have hc := (hu 300 (Nat.le_refl _)).1
      rw [hut] at hc
      exact can_told l a b (by omega) 300 0 (Int.le_refl _) hc v h0 hv
open Classical in
noncomputable def goodB (l : List (List Int)) (a b : Int) : Bool := (good_both l a b).choose
theorem goodB_is (l : List (List Int)) (a b : Int) : (∀ k, 400 ≤ k → spec_hiGood.f k l a b = some (goodB l a b) ∧ impl_canEnd.f k l a b = some (goodB l a b)) ∧ (goodB l a b = true → placeB l a = true ∧ placeB l b = true ∧ a ≠ b ∧ ∀ v : Int, 0 ≤ v → v < l.length → Ends l a b v) := (good_both l a b).choose_spec
noncomputable def askedB (l : List (List Int)) (x : List Int) (p a b n : Int) : Bool := goodB l a b && walkB l x p && inB n 0 100
theorem asked_eq (l : List (List Int)) (x : List Int) (p a b n : Int) (k : Nat) (hk : 400 ≤ k) : spec_hiAsked.f k l x p a b n = some (askedB l x p a b n) := by
  unfold spec_hiAsked.f askedB
  rw [((goodB_is l a b).1 k hk).1, Option.bind_some]
  cases goodB l a b with
  | false => rfl
  | true =>
    rw [if_pos rfl, waGood_eq l x p k (by omega), Option.bind_some]
    cases walkB l x p with
    | false => rfl
    | true =>
      rw [if_pos rfl, l1In_eq]
      rfl
theorem okWalk_at : ∀ (l : List (List Int)) (x : List Int), okWalk l x = true → ∀ (i : Nat) (h1 : i < l.length) (h2 : i < x.length), inB x[i] 0 (max ((l[i].length : Int) - 1) 0) = true
  | [], _, _, i, h1, _ => by simp at h1
  | _ :: _, [], _, i, _, h2 => by simp at h2
  | e :: l, r :: s, h, i, h1, h2 => by
    unfold okWalk at h
    rw [Bool.and_eq_true] at h
    cases i with
    | zero => exact h.1
    | succ i => exact okWalk_at l s h.2 i (by simpa using h1) (by simpa using h2)
theorem rots_of {l : List (List Int)} {x : List Int} {p : Int} (h : walkB l x p = true) : Rots l x := by
  obtain ⟨_, hl, hk⟩ := walk_is h
  refine ⟨hl, fun v h0 h1 hd => ?_⟩
  obtain ⟨i, rfl⟩ := Int.eq_ofNat_of_zero_le h0
  have hi : i < l.length := by omega
  have hx : i < x.length := by omega
  have := okWalk_at l x hk i hi hx
  unfold inB at this
  rw [decide_eq_true_eq] at this
  rw [rdL_at l i hi] at hd ⊢
  rw [rd_at x i hx]
  omega
/-- The chips' end, where it is asked. -/
theorem asked_ends {l : List (List Int)} {x : List Int} {p a b n : Int} (h : askedB l x p a b n = true) : a ≠ b ∧ 0 ≤ p ∧ p < l.length ∧ l.length ≤ 8 ∧ Rots l x ∧ 0 ≤ n ∧ n ≤ 100 ∧ ∃ hits2 rot2 st2, Chips l a b p n.toNat [] x 0 hits2 rot2 st2 ∧ Rots l rot2 := by
  unfold askedB at h
  simp only [Bool.and_eq_true] at h
  obtain ⟨⟨h1, h2⟩, h3⟩ := h
  obtain ⟨hpa, hpb, hab, hE⟩ := (goodB_is l a b).2 h1
  obtain ⟨hp, hl, hk⟩ := walk_is h2
  obtain ⟨hg, h11, h8, hp0, hp1⟩ := place_is hp
  unfold inB at h3
  rw [decide_eq_true_eq] at h3
  have hrow : ∀ v : Int, 0 ≤ v → v < l.length → GA.rd_L1 l v ∈ l := fun v h0 h1 => by
    obtain ⟨i, rfl⟩ := Int.eq_ofNat_of_zero_le h0
    rw [rdL_at l i (by omega)]
    exact List.getElem_mem _
  refine ⟨hab, hp0, hp1, h8, rots_of h2, h3.1, h3.2, chips_ex l a b p (fun v h0 h1 => (graph_row hg (hrow v h0 h1)).1) (fun v h0 h1 => (graph_row hg (hrow v h0 h1)).2) hE hp0 hp1 n.toNat [] x 0 (rots_of h2)⟩
open Classical in
noncomputable def chipsA (l : List (List Int)) (x : List Int) (p a b n : Int) : List Int × List Int × Int :=
  if h : askedB l x p a b n = true then ((asked_ends h).2.2.2.2.2.2.2.choose, (asked_ends h).2.2.2.2.2.2.2.choose_spec.choose, (asked_ends h).2.2.2.2.2.2.2.choose_spec.choose_spec.choose) else ([], [], 0)
theorem chipsA_is {l : List (List Int)} {x : List Int} {p a b n : Int} (h : askedB l x p a b n = true) : Chips l a b p n.toNat [] x 0 (chipsA l x p a b n).1 (chipsA l x p a b n).2.1 (chipsA l x p a b n).2.2 ∧ Rots l (chipsA l x p a b n).2.1 := by
  unfold chipsA
  rw [dif_pos h]
  exact (asked_ends h).2.2.2.2.2.2.2.choose_spec.choose_spec.choose_spec
end Go.Proofs.Ytnbnalbomflafaa.RA
/-! ## Cf -/
namespace Go.Proofs.Ytnbnalbomflafaa.RA
open Go.RowKit Go.Proofs.YtnbnalbomflafaaW.PrintWords Go.Proofs.YtnbnalbomflafaaW.PrintLast Go.Proofs.YtnbnalbomflafaaW.PrintMore
open Go.Proofs.Ytnbnalbomflafaa.GA
open Go.Proofs.Ytnbnalbomflafaa.GR hiding rd_L1 at_L1
open Go.Proofs.Ytnbnalbomflafaa.GQ hiding rd_L1 at_L1
open Go.Proofs.Ytnbnalbomflafaa.KA
set_option linter.unusedVariables false
set_option linter.unusedSimpArgs false
theorem hiRun_f {l : List (List Int)} {x : List Int} {p a b n : Int} (h : askedB l x p a b n = true) : ∃ K, ∀ k, K ≤ k → spec_hiRun.f k l x p a b n = some (chipsA l x p a b n) := by
  obtain ⟨hab, hp0, hp1, h8, hR, hn0, hn1, _⟩ := asked_ends h
  obtain ⟨hc, _⟩ := chipsA_is h
  obtain ⟨K, hK⟩ := spec_chips hab hc (by simp; omega)
  refine ⟨K, fun k hk => ?_⟩
  unfold spec_hiRun.f spec_l1Own.f
  have hl := hR.1
  simp only [Option.bind_some, List.nil_append, List.length_nil, Nat.zero_add]
  rw [if_pos (by omega), Option.bind_some]
  have := hK k hk
  rw [Int.toNat_of_nonneg hn0] at this
  exact this
noncomputable def stepsA (l : List (List Int)) (x : List Int) (p a b n : Int) : Int × Bool := if askedB l x p a b n = true then ((chipsA l x p a b n).2.2, true) else (0, false)
noncomputable def hitListA (l : List (List Int)) (x : List Int) (p a b n : Int) : List Int × Bool := if askedB l x p a b n = true then ((chipsA l x p a b n).1, true) else ([], false)
noncomputable def behindA (l : List (List Int)) (x : List Int) (p a b n : Int) : List Int × Bool := if askedB l x p a b n = true then ((chipsA l x p a b n).2.1, true) else ([], false)
theorem spec_RotorsBehind_f (l : List (List Int)) (x : List Int) (p a b n : Int) : ∃ k, spec_RotorsBehind.f k l x p a b n = some (behindA l x p a b n) := by
  cases h : askedB l x p a b n with
  | false =>
    refine ⟨400, ?_⟩
    unfold spec_RotorsBehind.f behindA
    rw [asked_eq l x p a b n 400 (Nat.le_refl _), h]
    rfl
  | true =>
    obtain ⟨K, hK⟩ := hiRun_f h
    refine ⟨K + 400, ?_⟩
    unfold spec_RotorsBehind.f behindA
    rw [asked_eq l x p a b n _ (by omega), h, Option.bind_some, if_pos rfl, if_pos rfl, hK _ (by omega)]
    rfl
theorem hitListA_fits (l : List (List Int)) (x : List Int) (p a b n : Int) : FitsL (hitListA l x p a b n).1 := by
  unfold FitsL hitListA
  cases h : askedB l x p a b n with
  | false => simp
  | true =>
    obtain ⟨_, _, _, _, _, hn0, hn1, _⟩ := asked_ends h
    have := chips_len (chipsA_is h).1
    rw [if_pos rfl]
    simp at this
    show (chipsA l x p a b n).1.length ≤ 1000000
    omega
theorem behindA_fits (l : List (List Int)) (x : List Int) (p a b n : Int) : FitsL (behindA l x p a b n).1 := by
  unfold FitsL behindA
  cases h : askedB l x p a b n with
  | false => simp
  | true =>
    obtain ⟨_, _, _, h8, _⟩ := asked_ends h
    have := (chipsA_is h).2.1
    rw [if_pos rfl]
    show (chipsA l x p a b n).2.1.length ≤ 1000000
    omega
end Go.Proofs.Ytnbnalbomflafaa.RA
/-! ## Cg -/
namespace Go.Proofs.Ytnbnalbomflafaa.RA
open Go.RowKit Go.Proofs.YtnbnalbomflafaaW.PrintWords Go.Proofs.YtnbnalbomflafaaW.PrintLast Go.Proofs.YtnbnalbomflafaaW.PrintMore
open Go.Proofs.Ytnbnalbomflafaa.GA
set_option linter.unusedVariables false
set_option linter.unusedSimpArgs false
def ST1 : Bool × List (List Nat × List Nat) := (true, [([], []), ([0], [0]), ([], []), ([2], [2]), ([3], [3]), ([4], [4]), ([1, 5], [1, 5]), ([6], [6]), ([7, 0, 1, 2, 3, 4, 5, 6, 7], [7])])
def SB1 : List Nat := [0, 1, 0, 4, 12, 28, 63, 127, 255]
theorem stab1 : rtab .any (opsOf Try.f115 1) = ST1 := by kernel_rfl
theorem sbits1 : waitsOk ST1.2 SB1 = true := by kernel_rfl
def ST4 : Bool × List (List Nat × List Nat) := (true, [([], []), ([0], [0]), ([1], [1]), ([2], [2]), ([], []), ([4], [4]), ([5], [5]), ([6], [6]), ([], []), ([8], [8]), ([9], [9]), ([10], [10]), ([], []), ([12], [12]), ([13], [13]), ([14], [14]), ([11, 15], [11, 15]), ([16], [16]), ([17], [17]), ([], []), ([19], [19]), ([18, 20], [18, 20]), ([3, 7, 0, 1, 2, 3, 4, 5, 6, 7, 8, 9, 10, 11, 12, 13, 14, 15, 16, 17, 18, 19, 20, 21], [3, 7]), ([22, 21, 0, 1, 2, 3, 4, 5, 6, 7, 8, 9, 10, 11, 12, 13, 14, 15, 16, 17, 18, 19, 20, 21], [21, 22])])
def SB4 : List Nat := [0, 1, 3, 7, 0, 16, 48, 112, 0, 256, 768, 1792, 0, 4096, 12288, 28672, 65280, 130816, 261888, 0, 524288, 2096896, 4194303, 8388607]
theorem stab4 : rtab .any (opsOf Try.f115 4) = ST4 := by kernel_rfl
theorem sbits4 : waitsOk ST4.2 SB4 = true := by kernel_rfl
def ST5 : Bool × List (List Nat × List Nat) := (true, [([], []), ([], []), ([], []), ([2], [2]), ([3], [3]), ([4], [4]), ([], []), ([6], [6]), ([7], [7]), ([8], [8]), ([5, 9], [5, 9]), ([10], [10]), ([1, 11], [1, 11]), ([12], [12]), ([0, 0, 1, 2, 3, 4, 5, 6, 7, 8, 9, 10, 11, 12, 13], [0]), ([14, 0, 1, 2, 3, 4, 5, 6, 7, 8, 9, 10, 11, 12, 13], [14]), ([15, 13, 0, 1, 2, 3, 4, 5, 6, 7, 8, 9, 10, 11, 12, 13], [13, 15])])
def SB5 : List Nat := [0, 0, 0, 4, 12, 28, 0, 64, 192, 448, 1020, 2044, 4094, 8190, 16383, 32767, 65535]
theorem stab5 : rtab .any (opsOf Try.f115 5) = ST5 := by kernel_rfl
theorem sbits5 : waitsOk ST5.2 SB5 = true := by kernel_rfl
theorem lastS_ {P : Program} {md : Region.Mode} {ops : Array Oper} {Q : Exit → Act → World → Prop} {S : World → Prop} {ds : List Nat} {i : Nat} {oi : Oper} {fuel : Nat} {l : Array Bool} {a : Act} {w w1 : World} (l' : Array Bool) (hi : ops[i]? = some oi) (hN : oi.dst = none) (hc : readyB md ops l l' i = true) (hd : i ∈ ds)
    (hw : Region.wanted oi (yielded ops a.tmps) = true) (hrun : (execOp a.eval oi).run P w = .ok .skip w1) (h : wpAnyLast P md ops Q S ds fuel l' a w1) : wpAnyLast P md ops Q S ds (fuel + 1) l a w :=
  last_ l' hi hN hc hd fun _ hK => skip_ hw hN hrun (hK.out _ _ h)
theorem setCell_heap {w w1 : World} (h : w1.heap = w.heap) (p : Addr) (v : Value) : (w1.setCell p v).heap = (w.setCell p v).heap := by
  unfold World.setCell
  rw [h]
theorem cell_of {w w1 : World} {p : Addr} (h : w1.heap[p.block]? = w.heap[p.block]?) : w1.cell? p = w.cell? p := by
  unfold World.cell?
  rw [h]
theorem add_block (a : Addr) (n : Nat) : (a.add n).block = a.block := by unfold Addr.add; split <;> rfl
set_option maxHeartbeats 4000000 in
set_option maxRecDepth 100000 in
theorem step_raw (ad : Addr) (c n N : Nat) (B G cap : Nat) (at_ r nxt : Int) (k len cr : Nat) (adr : Addr) (cur : Array Value) (w : World) (hn : N ≤ w.heap.size)
    (h0 : 0 ≤ at_) (h1 : at_ < (n : Int)) (f1 : w.cell? (ad.add at_.toNat) = some (.slice (some adr) len cr)) (bB : w.heap[B]? = some (.cells #[.slice (some ⟨G, 0, none⟩) n cap, .int .i64 at_] 98 (0, 0)))
    (bG : w.heap[G]? = some (.cells cur 3 (0, 0))) (hcur : cur[at_.toNat]? = some (.int .i64 r)) (f5 : w.cell? (adr.add k) = some (.int .i64 nxt)) (hk : k < len) (hkr : Int.tmod (wrap64 (r + 1)) (len : Int) = (k : Int))
    (hBG : B ≠ G) (hr : adr.block ≠ G) (hNB : N ≤ B) (hNG : N ≤ G) :
    Calls Try.prog 115 #[.agg #[.slice (some ad) n c], .pointer (some ⟨B, 0, none⟩)] w fun e w' => e = .returned (.bool true) ∧ Below N w w' ∧ w'.heap = (((w.alloc (.cells #[.slice (some ad) n c] 30)).setCell ⟨G, at_.toNat, none⟩ (.int .i64 k)).setCell ⟨B, 1, none⟩ (.int .i64 nxt)).heap := by
  have kept : ∀ (p : Addr) (v : Value), w.cell? p = some v → (w.alloc (.cells #[.slice (some ad) n c] 30)).cell? p = some v := fun p v h => (World.cell?_alloc_lt _ _ _ (World.block_lt_of_cell? w _ h)).trans h
  have k0 : (w.alloc (.cells #[.slice (some ad) n c] 30)).cell? ⟨w.heap.size, 0, none⟩ = some (.slice (some ad) n c) := (blk_cell (blk_new _ _) 0).trans rfl
  have k1 := kept _ _ f1
  have k5 := kept _ _ f5
  have qB := blk_alloc bB (.cells #[.slice (some ad) n c] 30)
  have qG := blk_alloc bG (.cells #[.slice (some ad) n c] 30)
  have k2 := (blk_cell qB 0).trans rfl
  have k3 := (blk_cell qB 1).trans rfl
  have k4 := (blk_cell qG at_.toNat).trans hcur
  have y1 := blk_frozen qG at_.toNat
  have HQ := Aside0.mk (And.intro qB qG)
  have HB0 := Aside0.mk ((Below.refl N w).alloc hn (.cells #[.slice (some ad) n c] 30))
  clear f1 f5 kept bB bG qB qG
  go_enter Try.func115, Try.ntmps115
  have hl0 : ¬ ((len : Int) = 0) := by omega
  have hl1 : ¬ (len = 0) := by omega
  have HW : Aside0 ((w.alloc (.cells #[.slice (some ad) n c] 30)).heap = (w.alloc (.cells #[.slice (some ad) n c] 30)).heap) := ⟨rfl⟩
  go_upto_region 1 with (fail)
  replace y1 : (w.alloc (.cells #[.slice (some ad) n c] 30)).drew.frozen? ⟨G, at_.toNat, none⟩ = false := y1
  replace k0 : (w.alloc (.cells #[.slice (some ad) n c] 30)).drew.cell? ⟨w.heap.size, 0, none⟩ = some (.slice (some ad) n c) := k0
  replace k1 : (w.alloc (.cells #[.slice (some ad) n c] 30)).drew.cell? (ad.add at_.toNat) = some (.slice (some adr) len cr) := k1
  replace k2 : (w.alloc (.cells #[.slice (some ad) n c] 30)).drew.cell? ⟨B, 0, none⟩ = some (.slice (some ⟨G, 0, none⟩) n cap) := k2
  replace k3 : (w.alloc (.cells #[.slice (some ad) n c] 30)).drew.cell? ⟨B, 1, none⟩ = some (.int .i64 at_) := k3
  replace k4 : (w.alloc (.cells #[.slice (some ad) n c] 30)).drew.cell? ⟨G, at_.toNat, none⟩ = some (.int .i64 r) := k4
  replace k5 : (w.alloc (.cells #[.slice (some ad) n c] 30)).drew.cell? (adr.add k) = some (.int .i64 nxt) := k5
  replace HB0 : Aside0 (Below N w (w.alloc (.cells #[.slice (some ad) n c] 30)).drew) := ⟨pw_below_drewN HB0.out 1⟩
  replace HQ : Aside0 ((w.alloc (.cells #[.slice (some ad) n c] 30)).drew.heap[B]? = some (.cells #[.slice (some ⟨G, 0, none⟩) n cap, .int .i64 at_] 98 (0, 0)) ∧ (w.alloc (.cells #[.slice (some ad) n c] 30)).drew.heap[G]? = some (.cells cur 3 (0, 0))) := ⟨HQ.out⟩
  replace HW : Aside0 ((w.alloc (.cells #[.slice (some ad) n c] 30)).drew.heap = (w.alloc (.cells #[.slice (some ad) n c] 30)).heap) := ⟨HW.out⟩
  refine start_ (n := 9) (S := fun w' => w'.cell? ⟨w.heap.size, 0, none⟩ = some (.slice (some ad) n c) ∧ w'.cell? ⟨B, 1, none⟩ = some (.int .i64 at_) ∧ w'.cell? (ad.add at_.toNat) = some (.slice (some adr) len cr)) (ds := []) #[false, false, false, false, false, false, false, false, false] (by kernel_rfl) rfl rfl ⟨k0, k3, k1⟩ (fun hHeld => ?_)
  refine with_tabW stab1 sbits1 (fun HT_ HW_ => ?_)
  generalize (w.alloc (.cells #[.slice (some ad) n c] 30)).drew = W1 at *
  refine pure_ (i := 0) (N := some 6) (v := ?_) (a' := ?_) #[true, false, false, false, false, false, false, false, false] rfl rfl (any_of HT_.out (by kernel_rfl)) (fun _ _ _ h => h) (Or.inl ⟨by rfl, ?_⟩) ?_ ?_
  rotate_left
  · intro w'
    go_simp
    with_reducible rfl
  rotate_left
  · simp only [Act.put, List.setIfInBounds_toArray, List.set_cons_zero, List.set_cons_succ, i64_w, i32_w]
    rfl
  refine take_ (i := 1) (N := some 7) (v := ?_) (a' := ?_) #[true, true, false, false, false, false, false, false, false] rfl rfl (take_ofW HT_.out HW_.out (by kernel_rfl)) (fun _ _ _ h => h) (Or.inl ⟨by rfl, ?_⟩) hHeld ?_ ?_
  rotate_left
  · rintro w' ⟨s0, s1, s2⟩
    go_simp
    with_reducible rfl
  rotate_left
  · simp only [Act.put, List.setIfInBounds_toArray, List.set_cons_zero, List.set_cons_succ, i64_w, i32_w]
    rfl
  refine pure_ (i := 2) (N := some 8) (v := ?_) (a' := ?_) #[true, true, true, false, false, false, false, false, false] rfl rfl (any_of HT_.out (by kernel_rfl)) (fun _ _ _ h => h) (Or.inl ⟨by rfl, ?_⟩) ?_ ?_
  rotate_left
  · intro w'
    go_simp
    with_reducible rfl
  rotate_left
  · simp only [Act.put, List.setIfInBounds_toArray, List.set_cons_zero, List.set_cons_succ, i64_w, i32_w]
    rfl
  refine pure_ (i := 3) (N := some 9) (v := ?_) (a' := ?_) #[true, true, true, true, false, false, false, false, false] rfl rfl (any_of HT_.out (by kernel_rfl)) (fun _ _ _ h => h) (Or.inl ⟨by rfl, ?_⟩) ?_ ?_
  rotate_left
  · intro w'
    go_simp
    with_reducible rfl
  rotate_left
  · simp only [Act.put, List.setIfInBounds_toArray, List.set_cons_zero, List.set_cons_succ, i64_w, i32_w]
    rfl
  refine pure_ (i := 4) (N := some 10) (v := ?_) (a' := ?_) #[true, true, true, true, true, false, false, false, false] rfl rfl (any_of HT_.out (by kernel_rfl)) (fun _ _ _ h => h) (Or.inl ⟨by rfl, ?_⟩) ?_ ?_
  rotate_left
  · intro w'
    go_simp
    with_reducible rfl
  rotate_left
  · simp only [Act.put, List.setIfInBounds_toArray, List.set_cons_zero, List.set_cons_succ, i64_w, i32_w]
    rfl
  refine take_ (i := 5) (N := some 11) (v := ?_) (a' := ?_) #[true, true, true, true, true, true, false, false, false] rfl rfl (take_ofW HT_.out HW_.out (by kernel_rfl)) (fun _ _ _ h => h) (Or.inl ⟨by rfl, ?_⟩) hHeld ?_ ?_
  rotate_left
  · rintro w' ⟨s0, s1, s2⟩
    go_simp
    with_reducible rfl
  rotate_left
  · simp only [Act.put, List.setIfInBounds_toArray, List.set_cons_zero, List.set_cons_succ, i64_w, i32_w]
    rfl
  refine pure_ (i := 6) (N := some 12) (v := ?_) (a' := ?_) #[true, true, true, true, true, true, true, false, false] rfl rfl (any_of HT_.out (by kernel_rfl)) (fun _ _ _ h => h) (Or.inl ⟨by rfl, ?_⟩) ?_ ?_
  rotate_left
  · intro w'
    go_simp
    with_reducible rfl
  rotate_left
  · simp only [Act.put, List.setIfInBounds_toArray, List.set_cons_zero, List.set_cons_succ, i64_w, i32_w]
    rfl
  refine take_ (i := 7) (N := some 13) (v := ?_) (a' := ?_) #[true, true, true, true, true, true, true, true, false] rfl rfl (take_ofW HT_.out HW_.out (by kernel_rfl)) (fun _ _ _ h => h) (Or.inl ⟨by rfl, ?_⟩) hHeld ?_ ?_
  rotate_left
  · rintro w' ⟨s0, s1, s2⟩
    go_simp
    with_reducible rfl
  rotate_left
  · simp only [Act.put, List.setIfInBounds_toArray, List.set_cons_zero, List.set_cons_succ, i64_w, i32_w]
    rfl
  refine pure_ (i := 8) (N := some 5) (v := ?_) (a' := ?_) #[true, true, true, true, true, true, true, true, true] rfl rfl (any_of HT_.out (by kernel_rfl)) (fun _ _ _ h => h) (Or.inl ⟨by rfl, ?_⟩) ?_ ?_
  rotate_left
  · intro w'
    go_simp
    with_reducible rfl
  rotate_left
  · simp only [Act.put, List.setIfInBounds_toArray, List.set_cons_zero, List.set_cons_succ, i64_w, i32_w]
    rfl
  refine done_ (done_of HT_.out (by kernel_rfl)) ?_
  clear HT_ HW_ hHeld
  go_upto_region 4 with (fail)
  replace y1 : W1.drew.frozen? ⟨G, at_.toNat, none⟩ = false := y1
  replace k0 : W1.drew.cell? ⟨w.heap.size, 0, none⟩ = some (.slice (some ad) n c) := k0
  replace k1 : W1.drew.cell? (ad.add at_.toNat) = some (.slice (some adr) len cr) := k1
  replace k2 : W1.drew.cell? ⟨B, 0, none⟩ = some (.slice (some ⟨G, 0, none⟩) n cap) := k2
  replace k3 : W1.drew.cell? ⟨B, 1, none⟩ = some (.int .i64 at_) := k3
  replace k4 : W1.drew.cell? ⟨G, at_.toNat, none⟩ = some (.int .i64 r) := k4
  replace k5 : W1.drew.cell? (adr.add k) = some (.int .i64 nxt) := k5
  replace HB0 : Aside0 (Below N w W1.drew) := ⟨pw_below_drewN HB0.out 1⟩
  replace HQ : Aside0 (W1.drew.heap[B]? = some (.cells #[.slice (some ⟨G, 0, none⟩) n cap, .int .i64 at_] 98 (0, 0)) ∧ W1.drew.heap[G]? = some (.cells cur 3 (0, 0))) := ⟨HQ.out⟩
  replace HW : Aside0 (W1.drew.heap = (w.alloc (.cells #[.slice (some ad) n c] 30)).heap) := ⟨HW.out⟩
  refine start_ (n := 24) (S := fun w' => w'.cell? ⟨B, 0, none⟩ = some (.slice (some ⟨G, 0, none⟩) n cap) ∧ w'.cell? ⟨B, 1, none⟩ = some (.int .i64 at_) ∧ w'.cell? ⟨G, at_.toNat, none⟩ = some (.int .i64 r)) (ds := [23]) #[false, false, false, false, false, false, false, false, false, false, false, false, false, false, false, false, false, false, false, false, false, false, false, false] (by kernel_rfl) rfl rfl ⟨k2, k3, k4⟩ (fun hHeld => ?_)
  refine with_tabW stab4 sbits4 (fun HT_ HW_ => ?_)
  generalize W1.drew = W2 at *
  refine pure_ (i := 0) (N := some 17) (v := ?_) (a' := ?_) #[true, false, false, false, false, false, false, false, false, false, false, false, false, false, false, false, false, false, false, false, false, false, false, false] rfl rfl (any_of HT_.out (by kernel_rfl)) (fun _ _ _ h => h) (Or.inl ⟨by rfl, ?_⟩) ?_ ?_
  rotate_left
  · intro w'
    go_simp
    with_reducible rfl
  rotate_left
  · simp only [Act.put, List.setIfInBounds_toArray, List.set_cons_zero, List.set_cons_succ, i64_w, i32_w]
    rfl
  refine pure_ (i := 1) (N := some 18) (v := ?_) (a' := ?_) #[true, true, false, false, false, false, false, false, false, false, false, false, false, false, false, false, false, false, false, false, false, false, false, false] rfl rfl (any_of HT_.out (by kernel_rfl)) (fun _ _ _ h => h) (Or.inl ⟨by rfl, ?_⟩) ?_ ?_
  rotate_left
  · intro w'
    go_simp
    with_reducible rfl
  rotate_left
  · simp only [Act.put, List.setIfInBounds_toArray, List.set_cons_zero, List.set_cons_succ, i64_w, i32_w]
    rfl
  refine pure_ (i := 2) (N := some 19) (v := ?_) (a' := ?_) #[true, true, true, false, false, false, false, false, false, false, false, false, false, false, false, false, false, false, false, false, false, false, false, false] rfl rfl (any_of HT_.out (by kernel_rfl)) (fun _ _ _ h => h) (Or.inl ⟨by rfl, ?_⟩) ?_ ?_
  rotate_left
  · intro w'
    go_simp
    with_reducible rfl
  rotate_left
  · simp only [Act.put, List.setIfInBounds_toArray, List.set_cons_zero, List.set_cons_succ, i64_w, i32_w]
    rfl
  refine take_ (i := 3) (N := some 20) (v := ?_) (a' := ?_) #[true, true, true, true, false, false, false, false, false, false, false, false, false, false, false, false, false, false, false, false, false, false, false, false] rfl rfl (take_ofW HT_.out HW_.out (by kernel_rfl)) (fun _ _ _ h => h) (Or.inl ⟨by rfl, ?_⟩) hHeld ?_ ?_
  rotate_left
  · rintro w' ⟨s0, s1, s2⟩
    go_simp
    with_reducible rfl
  rotate_left
  · simp only [Act.put, List.setIfInBounds_toArray, List.set_cons_zero, List.set_cons_succ, i64_w, i32_w]
    rfl
  refine pure_ (i := 4) (N := some 21) (v := ?_) (a' := ?_) #[true, true, true, true, true, false, false, false, false, false, false, false, false, false, false, false, false, false, false, false, false, false, false, false] rfl rfl (any_of HT_.out (by kernel_rfl)) (fun _ _ _ h => h) (Or.inl ⟨by rfl, ?_⟩) ?_ ?_
  rotate_left
  · intro w'
    go_simp
    with_reducible rfl
  rotate_left
  · simp only [Act.put, List.setIfInBounds_toArray, List.set_cons_zero, List.set_cons_succ, i64_w, i32_w]
    rfl
  refine pure_ (i := 5) (N := some 22) (v := ?_) (a' := ?_) #[true, true, true, true, true, true, false, false, false, false, false, false, false, false, false, false, false, false, false, false, false, false, false, false] rfl rfl (any_of HT_.out (by kernel_rfl)) (fun _ _ _ h => h) (Or.inl ⟨by rfl, ?_⟩) ?_ ?_
  rotate_left
  · intro w'
    go_simp
    with_reducible rfl
  rotate_left
  · simp only [Act.put, List.setIfInBounds_toArray, List.set_cons_zero, List.set_cons_succ, i64_w, i32_w]
    rfl
  refine pure_ (i := 6) (N := some 23) (v := ?_) (a' := ?_) #[true, true, true, true, true, true, true, false, false, false, false, false, false, false, false, false, false, false, false, false, false, false, false, false] rfl rfl (any_of HT_.out (by kernel_rfl)) (fun _ _ _ h => h) (Or.inl ⟨by rfl, ?_⟩) ?_ ?_
  rotate_left
  · intro w'
    go_simp
    with_reducible rfl
  rotate_left
  · simp only [Act.put, List.setIfInBounds_toArray, List.set_cons_zero, List.set_cons_succ, i64_w, i32_w]
    rfl
  refine take_ (i := 7) (N := some 24) (v := ?_) (a' := ?_) #[true, true, true, true, true, true, true, true, false, false, false, false, false, false, false, false, false, false, false, false, false, false, false, false] rfl rfl (take_ofW HT_.out HW_.out (by kernel_rfl)) (fun _ _ _ h => h) (Or.inl ⟨by rfl, ?_⟩) hHeld ?_ ?_
  rotate_left
  · rintro w' ⟨s0, s1, s2⟩
    go_simp
    with_reducible rfl
  rotate_left
  · simp only [Act.put, List.setIfInBounds_toArray, List.set_cons_zero, List.set_cons_succ, i64_w, i32_w]
    rfl
  refine pure_ (i := 8) (N := some 25) (v := ?_) (a' := ?_) #[true, true, true, true, true, true, true, true, true, false, false, false, false, false, false, false, false, false, false, false, false, false, false, false] rfl rfl (any_of HT_.out (by kernel_rfl)) (fun _ _ _ h => h) (Or.inl ⟨by rfl, ?_⟩) ?_ ?_
  rotate_left
  · intro w'
    go_simp
    with_reducible rfl
  rotate_left
  · simp only [Act.put, List.setIfInBounds_toArray, List.set_cons_zero, List.set_cons_succ, i64_w, i32_w]
    rfl
  refine pure_ (i := 9) (N := some 26) (v := ?_) (a' := ?_) #[true, true, true, true, true, true, true, true, true, true, false, false, false, false, false, false, false, false, false, false, false, false, false, false] rfl rfl (any_of HT_.out (by kernel_rfl)) (fun _ _ _ h => h) (Or.inl ⟨by rfl, ?_⟩) ?_ ?_
  rotate_left
  · intro w'
    go_simp
    with_reducible rfl
  rotate_left
  · simp only [Act.put, List.setIfInBounds_toArray, List.set_cons_zero, List.set_cons_succ, i64_w, i32_w]
    rfl
  refine pure_ (i := 10) (N := some 27) (v := ?_) (a' := ?_) #[true, true, true, true, true, true, true, true, true, true, true, false, false, false, false, false, false, false, false, false, false, false, false, false] rfl rfl (any_of HT_.out (by kernel_rfl)) (fun _ _ _ h => h) (Or.inl ⟨by rfl, ?_⟩) ?_ ?_
  rotate_left
  · intro w'
    go_simp
    with_reducible rfl
  rotate_left
  · simp only [Act.put, List.setIfInBounds_toArray, List.set_cons_zero, List.set_cons_succ, i64_w, i32_w]
    rfl
  refine take_ (i := 11) (N := some 28) (v := ?_) (a' := ?_) #[true, true, true, true, true, true, true, true, true, true, true, true, false, false, false, false, false, false, false, false, false, false, false, false] rfl rfl (take_ofW HT_.out HW_.out (by kernel_rfl)) (fun _ _ _ h => h) (Or.inl ⟨by rfl, ?_⟩) hHeld ?_ ?_
  rotate_left
  · rintro w' ⟨s0, s1, s2⟩
    go_simp
    with_reducible rfl
  rotate_left
  · simp only [Act.put, List.setIfInBounds_toArray, List.set_cons_zero, List.set_cons_succ, i64_w, i32_w]
    rfl
  refine pure_ (i := 12) (N := some 29) (v := ?_) (a' := ?_) #[true, true, true, true, true, true, true, true, true, true, true, true, true, false, false, false, false, false, false, false, false, false, false, false] rfl rfl (any_of HT_.out (by kernel_rfl)) (fun _ _ _ h => h) (Or.inl ⟨by rfl, ?_⟩) ?_ ?_
  rotate_left
  · intro w'
    go_simp
    with_reducible rfl
  rotate_left
  · simp only [Act.put, List.setIfInBounds_toArray, List.set_cons_zero, List.set_cons_succ, i64_w, i32_w]
    rfl
  refine pure_ (i := 13) (N := some 30) (v := ?_) (a' := ?_) #[true, true, true, true, true, true, true, true, true, true, true, true, true, true, false, false, false, false, false, false, false, false, false, false] rfl rfl (any_of HT_.out (by kernel_rfl)) (fun _ _ _ h => h) (Or.inl ⟨by rfl, ?_⟩) ?_ ?_
  rotate_left
  · intro w'
    go_simp
    with_reducible rfl
  rotate_left
  · simp only [Act.put, List.setIfInBounds_toArray, List.set_cons_zero, List.set_cons_succ, i64_w, i32_w]
    rfl
  refine pure_ (i := 14) (N := some 31) (v := ?_) (a' := ?_) #[true, true, true, true, true, true, true, true, true, true, true, true, true, true, true, false, false, false, false, false, false, false, false, false] rfl rfl (any_of HT_.out (by kernel_rfl)) (fun _ _ _ h => h) (Or.inl ⟨by rfl, ?_⟩) ?_ ?_
  rotate_left
  · intro w'
    go_simp
    with_reducible rfl
  rotate_left
  · simp only [Act.put, List.setIfInBounds_toArray, List.set_cons_zero, List.set_cons_succ, i64_w, i32_w]
    rfl
  refine take_ (i := 15) (N := some 32) (v := ?_) (a' := ?_) #[true, true, true, true, true, true, true, true, true, true, true, true, true, true, true, true, false, false, false, false, false, false, false, false] rfl rfl (take_ofW HT_.out HW_.out (by kernel_rfl)) (fun _ _ _ h => h) (Or.inl ⟨by rfl, ?_⟩) hHeld ?_ ?_
  rotate_left
  · rintro w' ⟨s0, s1, s2⟩
    go_simp
    with_reducible rfl
  rotate_left
  · simp only [Act.put, List.setIfInBounds_toArray, List.set_cons_zero, List.set_cons_succ, i64_w, i32_w]
    rfl
  refine pure_ (i := 16) (N := some 33) (v := ?_) (a' := ?_) #[true, true, true, true, true, true, true, true, true, true, true, true, true, true, true, true, true, false, false, false, false, false, false, false] rfl rfl (any_of HT_.out (by kernel_rfl)) (fun _ _ _ h => h) (Or.inl ⟨by rfl, ?_⟩) ?_ ?_
  rotate_left
  · intro w'
    go_simp
    with_reducible rfl
  rotate_left
  · simp only [Act.put, List.setIfInBounds_toArray, List.set_cons_zero, List.set_cons_succ, i64_w, i32_w]
    rfl
  refine take_ (i := 17) (N := some 34) (v := ?_) (a' := ?_) #[true, true, true, true, true, true, true, true, true, true, true, true, true, true, true, true, true, true, false, false, false, false, false, false] rfl rfl (take_ofW HT_.out HW_.out (by kernel_rfl)) (fun _ _ _ h => h) (Or.inl ⟨by rfl, ?_⟩) hHeld ?_ ?_
  rotate_left
  · rintro w' ⟨s0, s1, s2⟩
    go_simp
    with_reducible rfl
  rotate_left
  · simp only [Act.put, List.setIfInBounds_toArray, List.set_cons_zero, List.set_cons_succ, i64_w, i32_w]
    rfl
  refine pure_ (i := 18) (N := some 35) (v := ?_) (a' := ?_) #[true, true, true, true, true, true, true, true, true, true, true, true, true, true, true, true, true, true, true, false, false, false, false, false] rfl rfl (any_of HT_.out (by kernel_rfl)) (fun _ _ _ h => h) (Or.inl ⟨by rfl, ?_⟩) ?_ ?_
  rotate_left
  · intro w'
    go_simp
    with_reducible rfl
  rotate_left
  · simp only [Act.put, List.setIfInBounds_toArray, List.set_cons_zero, List.set_cons_succ, i64_w, i32_w]
    rfl
  refine pure_ (i := 19) (N := some 36) (v := ?_) (a' := ?_) #[true, true, true, true, true, true, true, true, true, true, true, true, true, true, true, true, true, true, true, true, false, false, false, false] rfl rfl (any_of HT_.out (by kernel_rfl)) (fun _ _ _ h => h) (Or.inl ⟨by rfl, ?_⟩) ?_ ?_
  rotate_left
  · intro w'
    go_simp
    with_reducible rfl
  rotate_left
  · simp only [Act.put, List.setIfInBounds_toArray, List.set_cons_zero, List.set_cons_succ, i64_w, i32_w]
    rfl
  refine pure_ (i := 20) (N := some 37) (v := ?_) (a' := ?_) #[true, true, true, true, true, true, true, true, true, true, true, true, true, true, true, true, true, true, true, true, true, false, false, false] rfl rfl (any_of HT_.out (by kernel_rfl)) (fun _ _ _ h => h) (Or.inl ⟨by rfl, ?_⟩) ?_ ?_
  rotate_left
  · intro w'
    go_simp
    with_reducible rfl
  rotate_left
  · simp only [Act.put, List.setIfInBounds_toArray, List.set_cons_zero, List.set_cons_succ, i64_w, i32_w]
    rfl
  refine pure_ (i := 21) (N := some 38) (v := ?_) (a' := ?_) #[true, true, true, true, true, true, true, true, true, true, true, true, true, true, true, true, true, true, true, true, true, true, false, false] rfl rfl (any_of HT_.out (by kernel_rfl)) (fun _ _ _ h => h) (Or.inl ⟨by rfl, ?_⟩) ?_ ?_
  rotate_left
  · intro w'
    go_simp
    with_reducible rfl
  rotate_left
  · simp only [Act.put, List.setIfInBounds_toArray, List.set_cons_zero, List.set_cons_succ, i64_w, i32_w]
    rfl
  refine pure_ (i := 22) (N := some 39) (v := ?_) (a' := ?_) #[true, true, true, true, true, true, true, true, true, true, true, true, true, true, true, true, true, true, true, true, true, true, true, false] rfl rfl (any_of HT_.out (by kernel_rfl)) (fun _ _ _ h => h) (Or.inl ⟨by rfl, ?_⟩) ?_ ?_
  rotate_left
  · intro w'
    go_simp
    with_reducible rfl
  rotate_left
  · simp only [Act.put, List.setIfInBounds_toArray, List.set_cons_zero, List.set_cons_succ, i64_w, i32_w]
    rfl
  refine lastS_ (i := 23) (w1 := W2.setCell ⟨G, at_.toNat, none⟩ (.int .i64 (Int.tmod (wrap64 (r + 1)) (len : Int)))) #[true, true, true, true, true, true, true, true, true, true, true, true, true, true, true, true, true, true, true, true, true, true, true, true] rfl rfl (one_of HT_.out (by kernel_rfl)) (by decide) (by rfl) ?_ ?_
  · go_simp
  (try simp only [Act.put, List.setIfInBounds_toArray, List.set_cons_zero, List.set_cons_succ])
  rw [hkr]
  refine done_ (done_of HT_.out (by kernel_rfl)) ?_
  have pB : (W2.setCell ⟨G, at_.toNat, none⟩ (.int .i64 k)).heap[B]? = _ := blk_far HQ.out.1 (p := ⟨G, at_.toNat, none⟩) hBG (.int .i64 k)
  have pG : (W2.setCell ⟨G, at_.toNat, none⟩ (.int .i64 k)).heap[G]? = _ := blk_set HQ.out.2 at_.toNat (.int .i64 k)
  have hlt : at_.toNat < cur.size := (Array.getElem?_eq_some_iff.1 hcur).1
  have c6 : (W2.setCell ⟨G, at_.toNat, none⟩ (.int .i64 k)).cell? ⟨G, at_.toNat, none⟩ = some (.int .i64 k) := (blk_cell pG at_.toNat).trans (Array.getElem?_setIfInBounds_self_of_lt hlt)
  have c2 := (blk_cell pB 0).trans rfl
  have c3 := (blk_cell pB 1).trans rfl
  have c5 : (W2.setCell ⟨G, at_.toNat, none⟩ (.int .i64 k)).cell? (adr.add k) = some (.int .i64 nxt) := (cell_of (Below.heap_setCell _ _ _ _ (by rw [add_block]; exact hr))).trans k5
  have y2 := blk_frozen pB 1
  have HB2 : Aside0 (Below N w (W2.setCell ⟨G, at_.toNat, none⟩ (.int .i64 k))) := ⟨HB0.out.setCell hNG _⟩
  have HW2 : Aside0 ((W2.setCell ⟨G, at_.toNat, none⟩ (.int .i64 k)).heap = ((w.alloc (.cells #[.slice (some ad) n c] 30)).setCell ⟨G, at_.toNat, none⟩ (.int .i64 k)).heap) := ⟨setCell_heap HW.out _ _⟩
  clear k0 k1 k2 k3 k4 k5 y1 HB0 HW HQ pB pG hHeld HT_ HW_
  have k2 := c2
  have k3 := c3
  have k5 := c5
  have k6 := c6
  have HB0 := HB2
  have HW := HW2
  clear c2 c3 c5 c6 HB2 HW2
  generalize W2.setCell ⟨G, at_.toNat, none⟩ (.int .i64 k) = W3 at *
  go_upto_region 5 with (fail)
  replace k2 : W3.drew.cell? ⟨B, 0, none⟩ = some (.slice (some ⟨G, 0, none⟩) n cap) := k2
  replace k3 : W3.drew.cell? ⟨B, 1, none⟩ = some (.int .i64 at_) := k3
  replace k5 : W3.drew.cell? (adr.add k) = some (.int .i64 nxt) := k5
  replace k6 : W3.drew.cell? ⟨G, at_.toNat, none⟩ = some (.int .i64 k) := k6
  replace y2 : W3.drew.frozen? ⟨B, 1, none⟩ = false := y2
  replace HB0 : Aside0 (Below N w W3.drew) := ⟨pw_below_drewN HB0.out 1⟩
  replace HW : Aside0 (W3.drew.heap = ((w.alloc (.cells #[.slice (some ad) n c] 30)).setCell ⟨G, at_.toNat, none⟩ (.int .i64 k)).heap) := ⟨HW.out⟩
  refine start_ (n := 17) (S := fun w' => w'.cell? ⟨B, 0, none⟩ = some (.slice (some ⟨G, 0, none⟩) n cap) ∧ w'.cell? ⟨B, 1, none⟩ = some (.int .i64 at_) ∧ w'.cell? (adr.add k) = some (.int .i64 nxt) ∧ w'.cell? ⟨G, at_.toNat, none⟩ = some (.int .i64 k)) (ds := [16]) #[false, false, false, false, false, false, false, false, false, false, false, false, false, false, false, false, false] (by kernel_rfl) rfl rfl ⟨k2, k3, k5, k6⟩ (fun hHeld => ?_)
  refine with_tabW stab5 sbits5 (fun HT_ HW_ => ?_)
  generalize W3.drew = W4 at *
  refine pure_ (i := 0) (N := some 40) (v := ?_) (a' := ?_) #[true, false, false, false, false, false, false, false, false, false, false, false, false, false, false, false, false] rfl rfl (any_of HT_.out (by kernel_rfl)) (fun _ _ _ h => h) (Or.inl ⟨by rfl, ?_⟩) ?_ ?_
  rotate_left
  · intro w'
    go_simp
    with_reducible rfl
  rotate_left
  · simp only [Act.put, List.setIfInBounds_toArray, List.set_cons_zero, List.set_cons_succ, i64_w, i32_w]
    rfl
  refine pure_ (i := 1) (N := some 41) (v := ?_) (a' := ?_) #[true, true, false, false, false, false, false, false, false, false, false, false, false, false, false, false, false] rfl rfl (any_of HT_.out (by kernel_rfl)) (fun _ _ _ h => h) (Or.inl ⟨by rfl, ?_⟩) ?_ ?_
  rotate_left
  · intro w'
    go_simp
    with_reducible rfl
  rotate_left
  · simp only [Act.put, List.setIfInBounds_toArray, List.set_cons_zero, List.set_cons_succ, i64_w, i32_w]
    rfl
  refine pure_ (i := 2) (N := some 42) (v := ?_) (a' := ?_) #[true, true, true, false, false, false, false, false, false, false, false, false, false, false, false, false, false] rfl rfl (any_of HT_.out (by kernel_rfl)) (fun _ _ _ h => h) (Or.inl ⟨by rfl, ?_⟩) ?_ ?_
  rotate_left
  · intro w'
    go_simp
    with_reducible rfl
  rotate_left
  · simp only [Act.put, List.setIfInBounds_toArray, List.set_cons_zero, List.set_cons_succ, i64_w, i32_w]
    rfl
  refine pure_ (i := 3) (N := some 43) (v := ?_) (a' := ?_) #[true, true, true, true, false, false, false, false, false, false, false, false, false, false, false, false, false] rfl rfl (any_of HT_.out (by kernel_rfl)) (fun _ _ _ h => h) (Or.inl ⟨by rfl, ?_⟩) ?_ ?_
  rotate_left
  · intro w'
    go_simp
    with_reducible rfl
  rotate_left
  · simp only [Act.put, List.setIfInBounds_toArray, List.set_cons_zero, List.set_cons_succ, i64_w, i32_w]
    rfl
  refine pure_ (i := 4) (N := some 44) (v := ?_) (a' := ?_) #[true, true, true, true, true, false, false, false, false, false, false, false, false, false, false, false, false] rfl rfl (any_of HT_.out (by kernel_rfl)) (fun _ _ _ h => h) (Or.inl ⟨by rfl, ?_⟩) ?_ ?_
  rotate_left
  · intro w'
    go_simp
    with_reducible rfl
  rotate_left
  · simp only [Act.put, List.setIfInBounds_toArray, List.set_cons_zero, List.set_cons_succ, i64_w, i32_w]
    rfl
  refine take_ (i := 5) (N := some 45) (v := ?_) (a' := ?_) #[true, true, true, true, true, true, false, false, false, false, false, false, false, false, false, false, false] rfl rfl (take_ofW HT_.out HW_.out (by kernel_rfl)) (fun _ _ _ h => h) (Or.inl ⟨by rfl, ?_⟩) hHeld ?_ ?_
  rotate_left
  · rintro w' ⟨s0, s1, s2, s3⟩
    go_simp
    with_reducible rfl
  rotate_left
  · simp only [Act.put, List.setIfInBounds_toArray, List.set_cons_zero, List.set_cons_succ, i64_w, i32_w]
    rfl
  refine pure_ (i := 6) (N := some 46) (v := ?_) (a' := ?_) #[true, true, true, true, true, true, true, false, false, false, false, false, false, false, false, false, false] rfl rfl (any_of HT_.out (by kernel_rfl)) (fun _ _ _ h => h) (Or.inl ⟨by rfl, ?_⟩) ?_ ?_
  rotate_left
  · intro w'
    go_simp
    with_reducible rfl
  rotate_left
  · simp only [Act.put, List.setIfInBounds_toArray, List.set_cons_zero, List.set_cons_succ, i64_w, i32_w]
    rfl
  refine pure_ (i := 7) (N := some 47) (v := ?_) (a' := ?_) #[true, true, true, true, true, true, true, true, false, false, false, false, false, false, false, false, false] rfl rfl (any_of HT_.out (by kernel_rfl)) (fun _ _ _ h => h) (Or.inl ⟨by rfl, ?_⟩) ?_ ?_
  rotate_left
  · intro w'
    go_simp
    with_reducible rfl
  rotate_left
  · simp only [Act.put, List.setIfInBounds_toArray, List.set_cons_zero, List.set_cons_succ, i64_w, i32_w]
    rfl
  refine pure_ (i := 8) (N := some 48) (v := ?_) (a' := ?_) #[true, true, true, true, true, true, true, true, true, false, false, false, false, false, false, false, false] rfl rfl (any_of HT_.out (by kernel_rfl)) (fun _ _ _ h => h) (Or.inl ⟨by rfl, ?_⟩) ?_ ?_
  rotate_left
  · intro w'
    go_simp
    with_reducible rfl
  rotate_left
  · simp only [Act.put, List.setIfInBounds_toArray, List.set_cons_zero, List.set_cons_succ, i64_w, i32_w]
    rfl
  refine take_ (i := 9) (N := some 49) (v := ?_) (a' := ?_) #[true, true, true, true, true, true, true, true, true, true, false, false, false, false, false, false, false] rfl rfl (take_ofW HT_.out HW_.out (by kernel_rfl)) (fun _ _ _ h => h) (Or.inl ⟨by rfl, ?_⟩) hHeld ?_ ?_
  rotate_left
  · rintro w' ⟨s0, s1, s2, s3⟩
    go_simp
    with_reducible rfl
  rotate_left
  · simp only [Act.put, List.setIfInBounds_toArray, List.set_cons_zero, List.set_cons_succ, i64_w, i32_w]
    rfl
  refine pure_ (i := 10) (N := some 50) (v := ?_) (a' := ?_) #[true, true, true, true, true, true, true, true, true, true, true, false, false, false, false, false, false] rfl rfl (any_of HT_.out (by kernel_rfl)) (fun _ _ _ h => h) (Or.inl ⟨by rfl, ?_⟩) ?_ ?_
  rotate_left
  · intro w'
    go_simp
    with_reducible rfl
  rotate_left
  · simp only [Act.put, List.setIfInBounds_toArray, List.set_cons_zero, List.set_cons_succ, i64_w, i32_w]
    rfl
  refine take_ (i := 11) (N := some 51) (v := ?_) (a' := ?_) #[true, true, true, true, true, true, true, true, true, true, true, true, false, false, false, false, false] rfl rfl (take_ofW HT_.out HW_.out (by kernel_rfl)) (fun _ _ _ h => h) (Or.inl ⟨by rfl, ?_⟩) hHeld ?_ ?_
  rotate_left
  · rintro w' ⟨s0, s1, s2, s3⟩
    go_simp
    with_reducible rfl
  rotate_left
  · simp only [Act.put, List.setIfInBounds_toArray, List.set_cons_zero, List.set_cons_succ, i64_w, i32_w]
    rfl
  refine pure_ (i := 12) (N := some 52) (v := ?_) (a' := ?_) #[true, true, true, true, true, true, true, true, true, true, true, true, true, false, false, false, false] rfl rfl (any_of HT_.out (by kernel_rfl)) (fun _ _ _ h => h) (Or.inl ⟨by rfl, ?_⟩) ?_ ?_
  rotate_left
  · intro w'
    go_simp
    with_reducible rfl
  rotate_left
  · simp only [Act.put, List.setIfInBounds_toArray, List.set_cons_zero, List.set_cons_succ, i64_w, i32_w]
    rfl
  refine take_ (i := 13) (N := some 53) (v := ?_) (a' := ?_) #[true, true, true, true, true, true, true, true, true, true, true, true, true, true, false, false, false] rfl rfl (take_ofW HT_.out HW_.out (by kernel_rfl)) (fun _ _ _ h => h) (Or.inl ⟨by rfl, ?_⟩) hHeld ?_ ?_
  rotate_left
  · rintro w' ⟨s0, s1, s2, s3⟩
    go_simp
    with_reducible rfl
  rotate_left
  · simp only [Act.put, List.setIfInBounds_toArray, List.set_cons_zero, List.set_cons_succ, i64_w, i32_w]
    rfl
  refine pure_ (i := 14) (N := some 54) (v := ?_) (a' := ?_) #[true, true, true, true, true, true, true, true, true, true, true, true, true, true, true, false, false] rfl rfl (any_of HT_.out (by kernel_rfl)) (fun _ _ _ h => h) (Or.inl ⟨by rfl, ?_⟩) ?_ ?_
  rotate_left
  · intro w'
    go_simp
    with_reducible rfl
  rotate_left
  · simp only [Act.put, List.setIfInBounds_toArray, List.set_cons_zero, List.set_cons_succ, i64_w, i32_w]
    rfl
  refine pure_ (i := 15) (N := some 55) (v := ?_) (a' := ?_) #[true, true, true, true, true, true, true, true, true, true, true, true, true, true, true, true, false] rfl rfl (any_of HT_.out (by kernel_rfl)) (fun _ _ _ h => h) (Or.inl ⟨by rfl, ?_⟩) ?_ ?_
  rotate_left
  · intro w'
    go_simp
    with_reducible rfl
  rotate_left
  · simp only [Act.put, List.setIfInBounds_toArray, List.set_cons_zero, List.set_cons_succ, i64_w, i32_w]
    rfl
  refine lastS_ (i := 16) (w1 := W4.setCell ⟨B, 1, none⟩ (.int .i64 nxt)) #[true, true, true, true, true, true, true, true, true, true, true, true, true, true, true, true, true] rfl rfl (one_of HT_.out (by kernel_rfl)) (by decide) (by rfl) ?_ ?_
  · go_simp
  (try simp only [Act.put, List.setIfInBounds_toArray, List.set_cons_zero, List.set_cons_succ])
  refine done_ (done_of HT_.out (by kernel_rfl)) ?_
  have HB5 : Aside0 (Below N w (W4.setCell ⟨B, 1, none⟩ (.int .i64 nxt))) := ⟨HB0.out.setCell hNB _⟩
  have HW5 := Aside0.mk (setCell_heap HW.out ⟨B, 1, none⟩ (.int .i64 nxt))
  clear HB0 HW hHeld HT_ HW_ k2 k3 k5 k6 y2
  go_wp2_with (fail)
  go_ret
  exact ⟨by first | rfl | trivial, HB5.out, HW5.out⟩
end Go.Proofs.Ytnbnalbomflafaa.RA
/-! ## Ch -/
namespace Go.Proofs.Ytnbnalbomflafaa.RA
open Go.RowKit Go.Proofs.YtnbnalbomflafaaW.PrintWords Go.Proofs.YtnbnalbomflafaaW.PrintLast Go.Proofs.YtnbnalbomflafaaW.PrintMore
open Go.Proofs.Ytnbnalbomflafaa.GA
open Go.Proofs.Ytnbnalbomflafaa.GR hiding rd_L1 at_L1
open Go.Proofs.Ytnbnalbomflafaa.HB hiding rd_L1 at_L1
open Go.Proofs.Ytnbnalbomflafaa.KA
set_option linter.unusedVariables false
set_option linter.unusedSimpArgs false
def HT14 : Bool × List (List Nat × List Nat) := (true, [([], []), ([], []), ([1], [1]), ([], []), ([0, 0], [0]), ([2, 4, 0, 1, 2, 4], [2]), ([3, 5, 0, 1, 2, 3, 4, 5], [3]), ([6, 0, 1, 2, 3, 4, 5, 6], [])])
def HB14 : List Nat := [0, 0, 2, 0, 1, 23, 63, 127]
theorem htab14 : rtab .any (opsOf Try.f84 14) = HT14 := by kernel_rfl
theorem hbits14 : waitsOk HT14.2 HB14 = true := by kernel_rfl
theorem canEnd_c (l : List (List Int)) (a b : Int) (W : World) (v : Value) (hv : RowsC W v l) : Calls Try.prog 81 #[.agg #[v], .int .i64 a, .int .i64 b] W fun e w' => e = .returned (.bool (goodB l a b)) ∧ Below W.heap.size W w' := by
  obtain ⟨A, c, rfl, hc, hC⟩ := hv
  exact impl_canEnd.calls 400 A c l a b _ W hC hc ((goodB_is l a b).1 400 (Nat.le_refl _)).2
theorem oneI_D (w : World) (N : Nat) (x : Int) (hN : N ≤ w.heap.size) : ListD (w.alloc (.cells #[.int .i64 x] 3)) N (.slice (some ⟨w.heap.size, 0, none⟩) 1 1) [x] :=
  ⟨rfl, .inr ⟨w.heap.size, 1, #[.int .i64 x], rfl, hN, blk_new w _, Nat.le_refl _, by unfold maxLen; simp, rfl, rfl⟩⟩
theorem noI_D (w : World) (N : Nat) (hN : N ≤ w.heap.size) : ListD (w.alloc (.cells #[] 3)) N (.slice (some ⟨w.heap.size, 0, none⟩) 0 0) [] :=
  ⟨rfl, .inr ⟨w.heap.size, 0, #[], rfl, hN, blk_new w _, Nat.le_refl _, by unfold maxLen; simp, rfl, rfl⟩⟩
theorem has_c (l : List (List Int)) (p : Int) (W : World) (v u : Value) (hv : RowsC W v l) (hu : ListC W u [p]) : Calls Try.prog 76 #[.agg #[v], u] W fun e w' => e = .returned (.bool (placeB l p)) ∧ Below W.heap.size W w' := by
  obtain ⟨A, c, rfl, hc, hC⟩ := hv
  obtain ⟨A2, c2, rfl, hc2, hC2⟩ := hu
  refine impl_has.calls A c l A2 c2 [p] (placeB l p) W hC hc hC2 hc2 ?_
  unfold impl_has.f hasB placeB
  simp
theorem areRotors_c (l : List (List Int)) (x : List Int) (p : Int) (hp : placeB l p = true) (W : World) (v u : Value) (hv : RowsC W v l) (hu : ListC W u x) : Calls Try.prog 102 #[.agg #[v], u] W fun e w' => e = .returned (.bool (walkB l x p)) ∧ Below W.heap.size W w' := by
  obtain ⟨A, c, rfl, hc, hC⟩ := hv
  obtain ⟨A2, c2, rfl, hc2, hC2⟩ := hu
  exact impl_areRotors.calls 100 A c l A2 c2 x _ W hC hc hC2 hc2 (areRotors_eq l x p hp 100 (Nat.le_refl _))
theorem in_c (x lo hi : Int) (W : World) : Calls Try.prog 77 #[.int .i64 x, .int .i64 lo, .int .i64 hi] W fun e w' => e = .returned (.bool (inB x lo hi)) ∧ Drawn0 W w' := by
  refine (impl_in.calls x lo hi _ W (in_eq x lo hi)).mono ?_
  rintro e w' ⟨rfl, nd, rfl⟩
  exact ⟨rfl, nd, rfl⟩
theorem clone_c (x : List Int) (W : World) (u : Value) (hu : ListC W u x) (hl : x.length ≤ 100) : Calls Try.prog 114 #[u] W fun e w' => ∃ v, e = .returned v ∧ Below W.heap.size W w' ∧ Aside0 (ListD w' W.heap.size v x) := by
  obtain ⟨A2, c2, rfl, hc2, hC2⟩ := hu
  refine (clone_calls A2 c2 x W (by omega) hC2).mono ?_
  rintro e w' ⟨v, rfl, hR, hB⟩
  exact ⟨v, rfl, hB, ⟨Kd.own_of_R hR⟩⟩
theorem listD_form {w : World} {N : Nat} {v : Value} {r : List Int} (h : ListD w N v r) (hp : 0 < r.length) : ∃ G cap, v = .slice (some ⟨G, 0, none⟩) r.length cap := by
  rcases h.2 with ⟨h1, h2⟩ | ⟨g, cap, cur, h1, _⟩
  · omega
  · exact ⟨g, cap, h1⟩
theorem ListD.lower' {w : World} {base base' : Nat} {v : Value} {l : List Int} (h : ListD w base v l) (hb : base' ≤ base) : ListD w base' v l := own_weaken h hb
structure HitAt (w : World) (N B : Nat) (gv vr lv : Value) (at_ : Int) (rot hl : List Int) : Prop where
  bx : w.heap[N]? = some (.cells #[gv] 30 (0, 0))
  blk : w.heap[B]? = some (.cells #[vr, .int .i64 at_] 98 (0, 0))
  hB : N ≤ B
  r : ListD w N vr rot
  l : ListD w N lv hl
  rl : ∀ k, vr.ownBlock = some k → lv.ownBlock ≠ some k
theorem HitAt.heap {w w1 : World} {N B : Nat} {gv vr lv : Value} {at_ : Int} {rot hl : List Int} (h : HitAt w N B gv vr lv at_ rot hl) (e : ∀ b, b < w.heap.size → w1.heap[b]? = w.heap[b]?) : HitAt w1 N B gv vr lv at_ rot hl :=
  ⟨(e N (blk_lt h.bx)).trans h.bx, (e B (blk_lt h.blk)).trans h.blk, h.hB, own_move h.r fun k hk => e k (own_lt h.r k hk), own_move h.l fun k hk => e k (own_lt h.l k hk), h.rl⟩
theorem HitAt.drewN {w : World} {N B : Nat} {gv vr lv : Value} {at_ : Int} {rot hl : List Int} (h : HitAt w N B gv vr lv at_ rot hl) (n : Nat) : HitAt (w.drewN n) N B gv vr lv at_ rot hl := h.heap fun _ _ => by simp
theorem HitAt.alloc {w : World} {N B : Nat} {gv vr lv : Value} {at_ : Int} {rot hl : List Int} (h : HitAt w N B gv vr lv at_ rot hl) (o : Obj) : HitAt (w.alloc o) N B gv vr lv at_ rot hl := h.heap fun b hb => Below.heap_alloc w o b hb
theorem HitAt.setAt {w : World} {N B : Nat} {gv vr lv : Value} {at_ : Int} {rot hl : List Int} (h : HitAt w N B gv vr lv at_ rot hl) (x : Int) : HitAt (w.setCell ⟨B, 1, none⟩ (.int .i64 x)) N B gv vr lv x rot hl :=
  ⟨blk_far h.bx (p := ⟨B, 1, none⟩) (fun c => by have e := h.bx; have e2 := h.blk; rw [c] at e; rw [e] at e2; simp at e2) _, blk_set h.blk 1 _, h.hB, own_setCell h.r (fun c => by obtain ⟨cells, hc⟩ := own_typed h.r B c.symm; rw [h.blk] at hc; simp at hc) _, own_setCell h.l (fun c => by obtain ⟨cells, hc⟩ := own_typed h.l B c.symm; rw [h.blk] at hc; simp at hc) _, h.rl⟩
theorem HitAt.setRot {w : World} {N B G cap n : Nat} {gv lv : Value} {at_ : Int} {rot hl : List Int} (h : HitAt w N B gv (.slice (some ⟨G, 0, none⟩) n cap) lv at_ rot hl) (hn : n = rot.length) (i : Nat) (x : Int) : HitAt (w.setCell ⟨G, i, none⟩ (.int .i64 x)) N B gv (.slice (some ⟨G, 0, none⟩) n cap) lv at_ (rot.set i x) hl := by
  subst hn
  have hGB : B ≠ G := fun c => by
    obtain ⟨cells, hc⟩ := own_typed h.r G rfl
    rw [← c, h.blk] at hc
    simp at hc
  refine ⟨blk_far h.bx (p := ⟨G, i, none⟩) (fun c => by have c1 : N = G := c; obtain ⟨cells, hc⟩ := own_typed h.r G rfl; have e := h.bx; rw [c1, hc] at e; simp at e) _, blk_far h.blk (p := ⟨G, i, none⟩) hGB _, h.hB, ?_, own_setCell h.l (fun c => h.rl G rfl c.symm) _, h.rl⟩
  have := (own_store h.r (i : Int) x).1
  rw [Int.toNat_natCast] at this
  show World.ownsRow _ N 3 1 _ (rot.set i x).length _
  rw [List.length_set]
  exact this
theorem HitAt.form {w : World} {N B : Nat} {gv vr lv : Value} {at_ : Int} {rot hl : List Int} (h : HitAt w N B gv vr lv at_ rot hl) (hp : 0 < rot.length) : ∃ G cap cur, vr = .slice (some ⟨G, 0, none⟩) rot.length cap ∧ N ≤ G ∧ w.heap[G]? = some (.cells cur 3 (0, 0)) ∧ B ≠ G ∧ ∀ i (hi : i < rot.length), cur[i]? = some (.int .i64 rot[i]) := by
  rcases h.r.2 with ⟨h1, h2⟩ | ⟨g, cap, cur, h1, hb, hh, h3, h4, h5, h6⟩
  · omega
  · refine ⟨g, cap, cur, h1, hb, hh, fun c => ?_, fun i hi => ?_⟩
    · rw [← c, h.blk] at hh
      simp at hh
    · have h7 := congrArg (fun x : List Value => x[i]?) h6
      simp only [encI, List.getElem?_map, List.getElem?_eq_getElem hi, Option.map_some] at h7
      rw [Nat.mul_one, List.getElem?_take_of_lt hi, Array.getElem?_toList] at h7
      exact h7
theorem HitAt.app {W w1 : World} {N B : Nat} {gv vr lv v1 : Value} {at_ y : Int} {rot hl : List Int} (h : HitAt W N B gv vr lv at_ rot hl) (hown : w1.ownsRow N 3 1 v1 (hl ++ [y]).length (nums .i64 (hl ++ [y]))) (hg : W.grownBy w1 lv.ownBlock) (hat : v1.ownBlock = lv.ownBlock ∨ ∃ b, v1.ownBlock = some b ∧ W.heap.size ≤ b) : HitAt w1 N B gv vr v1 at_ rot (hl ++ [y]) := by
  refine ⟨(hg.block _ (blk_lt h.bx) (fun c => ?_)).trans h.bx, (hg.block _ (blk_lt h.blk) (fun c => ?_)).trans h.blk, h.hB, own_move h.r (fun k hk => hg.block k (own_lt h.r k hk) (fun c => ?_)), hown, fun k hk c => ?_⟩
  · obtain ⟨cells, hc⟩ := own_typed h.l N (by first | exact c | exact c.symm)
    have e := h.bx
    rw [hc] at e
    simp at e
  · obtain ⟨cells, hc⟩ := own_typed h.l B (by first | exact c | exact c.symm)
    have e := h.blk
    rw [hc] at e
    simp at e
  · exact h.rl k hk (by first | exact c | exact c.symm)
  · rcases hat with q | ⟨b, q1, q2⟩
    · exact h.rl k hk (by rw [← q]; exact c)
    · rw [q1] at c
      have := own_lt h.r k hk
      have c2 : b = k := Option.some.inj c
      omega
theorem HitAt.start {w5 : World} {N G n cap : Nat} {x : List Int} {gv : Value} (hbx : w5.heap[N]? = some (.cells #[gv] 30 (0, 0))) (hR : ListD w5 N (.slice (some ⟨G, 0, none⟩) n cap) x) (hN : N ≤ w5.heap.size) (p : Int) : HitAt ((w5.alloc (.cells #[] 3)).alloc (.cells #[.slice (some ⟨G, 0, none⟩) n cap, .int .i64 p] 98)) N (w5.heap.size + 1) gv (.slice (some ⟨G, 0, none⟩) n cap) (.slice (some ⟨w5.heap.size, 0, none⟩) 0 0) p x [] := by
  have h1 := noI_D w5 N hN
  refine ⟨(blk_alloc (blk_alloc hbx _) _), ?_, by omega, own_move hR (fun k hk => ?_), own_move h1 (fun k hk => Below.heap_alloc _ _ k (own_lt h1 k hk)), fun k hk c => ?_⟩
  · have := blk_new (w5.alloc (.cells #[] 3)) (.cells #[.slice (some ⟨G, 0, none⟩) n cap, .int .i64 p] 98)
    simpa using this
  · have hlt := own_lt hR k hk
    exact (Below.heap_alloc _ _ k (by simp; omega)).trans (Below.heap_alloc _ _ k hlt)
  · have hlt := own_lt hR k hk
    have : w5.heap.size = k := by simpa [Value.ownBlock] using c
    omega
def HitsOut (w : World) (l : List (List Int)) (x : List Int) (p a b n : Int) (e : Ending) (w' : World) : Prop :=
  ∃ v1 v2, e = .returned (.tuple #[v1, v2, .int .i64 (stepsA l x p a b n).1, .bool (askedB l x p a b n)]) ∧ Below w.heap.size w w' ∧ Aside0 (ListD w' w.heap.size v1 (hitListA l x p a b n).1) ∧ Aside0 (ListD w' w.heap.size v2 (behindA l x p a b n).1)
theorem no_ans {l : List (List Int)} {x : List Int} {p a b n : Int} (h : askedB l x p a b n = false) (w w' : World) (hB : Below w.heap.size w w') : HitsOut w l x p a b n (.returned (.tuple #[.slice none 0 0, .slice none 0 0, .int .i64 0, .bool false])) w' := by
  refine ⟨.slice none 0 0, .slice none 0 0, ?_, hB, ?_, ?_⟩
  · unfold stepsA; rw [h]; rfl
  · unfold hitListA; rw [h]; exact ⟨own_nil _ _ _ _⟩
  · unfold behindA; rw [h]; exact ⟨own_nil _ _ _ _⟩
set_option maxHeartbeats 4000000 in
set_option maxRecDepth 100000 in
theorem hits_c (l : List (List Int)) (x : List Int) (p a b n : Int) (w : World) (v u : Value) (hv : RowsC w v l) (hu : ListC w u x) :
    Calls Try.prog 84 #[.agg #[v], u, .int .i64 p, .int .i64 a, .int .i64 b, .int .i64 n] w (HitsOut w l x p a b n) := by
  have HV := Aside0.mk hv
  have HU := Aside0.mk hu
  obtain ⟨A, c, rfl, hc_, hC_⟩ := hv
  clear hc_ hC_ hu
  cases h1 : goodB l a b with
  | false =>
    have hno : askedB l x p a b n = false := by unfold askedB; rw [h1]; rfl
    have H1 := Aside0.mk h1
    clear h1
    go_enter Try.func84, Try.ntmps84
    go_wp2_with (go_at_call 81; refine (canEnd_c l a b _ _ (HV.out.below ((Below.refl _ _).alloc (Nat.le_refl _) _))).mono ?_; rw [H1.out]; rintro e w1 ⟨rfl, hB⟩)
    refine bodyPost_ret (v := .tuple #[.slice none 0 0, .slice none 0 0, .int .i64 0, .bool false]) (by simp [results, Try.results84, go_sem]) rfl ?_
    exact no_ans hno _ _ (((Below.refl _ _).alloc (Nat.le_refl _) _).trans (hB.mono (by simp)))
  | true =>
    have H1 := Aside0.mk h1
    cases h2 : placeB l p with
    | false =>
      have hno : askedB l x p a b n = false := by unfold askedB walkB; rw [h2]; simp
      have H2 := Aside0.mk h2
      clear h1 h2
      go_enter Try.func84, Try.ntmps84
      go_wp2_with (first | (go_at_call 81; refine (canEnd_c l a b _ _ (HV.out.below ((Below.refl _ _).alloc (Nat.le_refl _) _))).mono ?_; rw [H1.out]; rintro e w1 ⟨rfl, hB⟩; have hbx : w1.cell? ⟨w.heap.size, 0, none⟩ = some (.slice A l.length c) := (hB.cell (p := ⟨w.heap.size, 0, none⟩) (by simp)).trans ((blk_cell (blk_new _ _) 0).trans rfl); have HB := Aside0.mk (((Below.refl w.heap.size w).alloc (Nat.le_refl _) _).trans (hB.mono (by simp))); clear hB) | (go_at_call 76; refine (has_c l p _ _ _ (HV.out.below ((HB.out.alloc HB.out.size _))) (oneI_D _ w.heap.size p HB.out.size).reads).mono ?_; rw [H2.out]; rintro e w2 ⟨rfl, hB⟩))
      refine bodyPost_ret (v := .tuple #[.slice none 0 0, .slice none 0 0, .int .i64 0, .bool false]) (by simp [results, Try.results84, go_sem]) rfl ?_
      exact no_ans hno _ _ (HB.out.trans (((Below.refl _ _).alloc HB.out.size _).trans (hB.mono (by have := HB.out.size; simp; omega))))
    | true =>
      cases h3 : walkB l x p with
      | false =>
        have hno : askedB l x p a b n = false := by unfold askedB; rw [h3]; simp
        have H2 := Aside0.mk h2
        have H3 := Aside0.mk h3
        clear h1 h2 h3
        go_enter Try.func84, Try.ntmps84
        go_wp2_with (first | (go_at_call 81; refine (canEnd_c l a b _ _ (HV.out.below ((Below.refl _ _).alloc (Nat.le_refl _) _))).mono ?_; rw [H1.out]; rintro e w1 ⟨rfl, hB⟩; have hbx : w1.cell? ⟨w.heap.size, 0, none⟩ = some (.slice A l.length c) := (hB.cell (p := ⟨w.heap.size, 0, none⟩) (by simp)).trans ((blk_cell (blk_new _ _) 0).trans rfl); have HB := Aside0.mk (((Below.refl w.heap.size w).alloc (Nat.le_refl _) _).trans (hB.mono (by simp))); have hsz : w.heap.size < w1.heap.size := (by have := hB.size; simp at this; omega); have HX1 : Aside0 (w1.heap[w.heap.size]? = some (.cells #[.slice A l.length c] 30 (0, 0))) := ⟨(hB.block _ (by simp)).trans (blk_new _ _)⟩; clear hB) | (go_at_call 76; refine (has_c l p _ _ _ (HV.out.below ((HB.out.alloc HB.out.size _))) (oneI_D _ w.heap.size p HB.out.size).reads).mono ?_; rw [H2.out]; rintro e w2 ⟨rfl, hB⟩; have hbx2 : w2.cell? ⟨w.heap.size, 0, none⟩ = some (.slice A l.length c) := (hB.cell (p := ⟨w.heap.size, 0, none⟩) (by simp; omega)).trans ((World.cell?_alloc_lt _ _ _ hsz).trans hbx); have HB2 := Aside0.mk ((HB.out.alloc HB.out.size _).trans (hB.mono (by have := HB.out.size; simp; omega))); have hsz2 : w.heap.size < w2.heap.size := (by have := hB.size; simp at this; omega); have HX2 : Aside0 (w2.heap[w.heap.size]? = some (.cells #[.slice A l.length c] 30 (0, 0))) := ⟨(hB.block _ (by simp; omega)).trans (blk_alloc HX1.out _)⟩; clear hB hbx) | (go_at_call 102; refine (areRotors_c l x p H2.out _ _ _ (HV.out.below HB2.out) (HU.out.below HB2.out)).mono ?_; rw [H3.out]; rintro e w3 ⟨rfl, hB⟩))
        refine bodyPost_ret (v := .tuple #[.slice none 0 0, .slice none 0 0, .int .i64 0, .bool false]) (by simp [results, Try.results84, go_sem]) rfl ?_
        exact no_ans hno _ _ (HB2.out.trans (hB.mono HB2.out.size))
      | true =>
        cases h4 : inB n 0 100 with
        | false =>
          have hno : askedB l x p a b n = false := by unfold askedB; rw [h4]; simp
          have H2 := Aside0.mk h2
          have H3 := Aside0.mk h3
          have H4 := Aside0.mk h4
          clear h1 h2 h3 h4
          go_enter Try.func84, Try.ntmps84
          go_wp2_with (first | (go_at_call 81; refine (canEnd_c l a b _ _ (HV.out.below ((Below.refl _ _).alloc (Nat.le_refl _) _))).mono ?_; rw [H1.out]; rintro e w1 ⟨rfl, hB⟩; have hbx : w1.cell? ⟨w.heap.size, 0, none⟩ = some (.slice A l.length c) := (hB.cell (p := ⟨w.heap.size, 0, none⟩) (by simp)).trans ((blk_cell (blk_new _ _) 0).trans rfl); have HB := Aside0.mk (((Below.refl w.heap.size w).alloc (Nat.le_refl _) _).trans (hB.mono (by simp))); have hsz : w.heap.size < w1.heap.size := (by have := hB.size; simp at this; omega); have HX1 : Aside0 (w1.heap[w.heap.size]? = some (.cells #[.slice A l.length c] 30 (0, 0))) := ⟨(hB.block _ (by simp)).trans (blk_new _ _)⟩; clear hB) | (go_at_call 76; refine (has_c l p _ _ _ (HV.out.below ((HB.out.alloc HB.out.size _))) (oneI_D _ w.heap.size p HB.out.size).reads).mono ?_; rw [H2.out]; rintro e w2 ⟨rfl, hB⟩; have hbx2 : w2.cell? ⟨w.heap.size, 0, none⟩ = some (.slice A l.length c) := (hB.cell (p := ⟨w.heap.size, 0, none⟩) (by simp; omega)).trans ((World.cell?_alloc_lt _ _ _ hsz).trans hbx); have HB2 := Aside0.mk ((HB.out.alloc HB.out.size _).trans (hB.mono (by have := HB.out.size; simp; omega))); have hsz2 : w.heap.size < w2.heap.size := (by have := hB.size; simp at this; omega); have HX2 : Aside0 (w2.heap[w.heap.size]? = some (.cells #[.slice A l.length c] 30 (0, 0))) := ⟨(hB.block _ (by simp; omega)).trans (blk_alloc HX1.out _)⟩; clear hB hbx) | (go_at_call 102; refine (areRotors_c l x p H2.out _ _ _ (HV.out.below HB2.out) (HU.out.below HB2.out)).mono ?_; rw [H3.out]; rintro e w3 ⟨rfl, hB⟩; have hbx3 : w3.cell? ⟨w.heap.size, 0, none⟩ = some (.slice A l.length c) := (hB.cell (p := ⟨w.heap.size, 0, none⟩) hsz2).trans hbx2; have HB3 := Aside0.mk (HB2.out.trans (hB.mono HB2.out.size)); have hsz3 : w.heap.size < w3.heap.size := (by have := hB.size; omega); have HX3 : Aside0 (w3.heap[w.heap.size]? = some (.cells #[.slice A l.length c] 30 (0, 0))) := ⟨(hB.block _ hsz2).trans HX2.out⟩; clear hB hbx2) | (go_at_call 77; refine (in_c n 0 100 _).mono ?_; rw [H4.out]; rintro e w' ⟨rfl, nd, rfl⟩))
          refine bodyPost_ret (v := .tuple #[.slice none 0 0, .slice none 0 0, .int .i64 0, .bool false]) (by simp [results, Try.results84, go_sem]) rfl ?_
          exact no_ans hno _ _ (pw_below_drewN HB3.out nd)
        | true =>
          have hA : askedB l x p a b n = true := by unfold askedB; rw [h1, h3, h4]; rfl
          have H2 := Aside0.mk h2
          have H3 := Aside0.mk h3
          have H4 := Aside0.mk h4
          have hx8 : x.length = l.length ∧ l.length ≤ 8 := ⟨(walk_is h3).2.1, (place_is h2).2.2.1⟩
          have hx1 : 0 < x.length := by have := (place_is h2).2.1; omega
          clear h1 h2 h3 h4
          go_enter Try.func84, Try.ntmps84
          go_upto_region 4 with (first | (go_at_call 81; refine (canEnd_c l a b _ _ (HV.out.below ((Below.refl _ _).alloc (Nat.le_refl _) _))).mono ?_; rw [H1.out]; rintro e w1 ⟨rfl, hB⟩; have hbx : w1.cell? ⟨w.heap.size, 0, none⟩ = some (.slice A l.length c) := (hB.cell (p := ⟨w.heap.size, 0, none⟩) (by simp)).trans ((blk_cell (blk_new _ _) 0).trans rfl); have HB := Aside0.mk (((Below.refl w.heap.size w).alloc (Nat.le_refl _) _).trans (hB.mono (by simp))); have hsz : w.heap.size < w1.heap.size := (by have := hB.size; simp at this; omega); have HX1 : Aside0 (w1.heap[w.heap.size]? = some (.cells #[.slice A l.length c] 30 (0, 0))) := ⟨(hB.block _ (by simp)).trans (blk_new _ _)⟩; clear hB) | (go_at_call 76; refine (has_c l p _ _ _ (HV.out.below ((HB.out.alloc HB.out.size _))) (oneI_D _ w.heap.size p HB.out.size).reads).mono ?_; rw [H2.out]; rintro e w2 ⟨rfl, hB⟩; have hbx2 : w2.cell? ⟨w.heap.size, 0, none⟩ = some (.slice A l.length c) := (hB.cell (p := ⟨w.heap.size, 0, none⟩) (by simp; omega)).trans ((World.cell?_alloc_lt _ _ _ hsz).trans hbx); have HB2 := Aside0.mk ((HB.out.alloc HB.out.size _).trans (hB.mono (by have := HB.out.size; simp; omega))); have hsz2 : w.heap.size < w2.heap.size := (by have := hB.size; simp at this; omega); have HX2 : Aside0 (w2.heap[w.heap.size]? = some (.cells #[.slice A l.length c] 30 (0, 0))) := ⟨(hB.block _ (by simp; omega)).trans (blk_alloc HX1.out _)⟩; clear hB hbx) | (go_at_call 102; refine (areRotors_c l x p H2.out _ _ _ (HV.out.below HB2.out) (HU.out.below HB2.out)).mono ?_; rw [H3.out]; rintro e w3 ⟨rfl, hB⟩; have hbx3 : w3.cell? ⟨w.heap.size, 0, none⟩ = some (.slice A l.length c) := (hB.cell (p := ⟨w.heap.size, 0, none⟩) hsz2).trans hbx2; have HB3 := Aside0.mk (HB2.out.trans (hB.mono HB2.out.size)); have hsz3 : w.heap.size < w3.heap.size := (by have := hB.size; omega); have HX3 : Aside0 (w3.heap[w.heap.size]? = some (.cells #[.slice A l.length c] 30 (0, 0))) := ⟨(hB.block _ hsz2).trans HX2.out⟩; clear hB hbx2) | (go_at_call 77; refine (in_c n 0 100 _).mono ?_; rw [H4.out]; rintro e w' ⟨rfl, nd, rfl⟩) | (go_at_call 114; refine (clone_c x _ u (HU.out.below (pw_below_drewN HB3.out nd)) (by omega)).mono ?_; rintro e w5 ⟨vr, rfl, hB, hR⟩; obtain ⟨G, cap, hvr⟩ := listD_form hR.out hx1; subst hvr))
          have HH := Aside0.mk (HitAt.start ((hB.block _ (by simpa using hsz3)).trans HX3.out) (hR.out.lower' (by have := HB3.out.size; simpa using this)) (by have := HB3.out.size; have := hB.size; simp at this; omega) p)
          have hsz5 := hB.size
          simp at hsz5
          have HB5 : Aside0 (Below w.heap.size w ((w5.alloc (.cells #[] 3)).alloc (.cells #[.slice (some ⟨G, 0, none⟩) x.length cap, .int .i64 p] 98))) := ⟨(((pw_below_drewN HB3.out nd).trans (hB.mono (by simpa using HB3.out.size))).alloc (by omega) _).alloc (by simp; omega) _⟩
          have hBn : w.heap.size < w5.heap.size + 1 := by omega
          clear hbx3 HB3 HB2 HB hR hB HX1 HX2 HX3
          rw [hx8.1] at HH HB5
          generalize (w5.alloc (.cells #[] 3)).alloc (.cells #[.slice (some ⟨G, 0, none⟩) l.length cap, .int .i64 p] 98) = W6 at *
          generalize w5.heap.size + 1 = B at *
          go_wp2_with (fail)
          obtain ⟨hC, hRR⟩ := chipsA_is hA
          obtain ⟨_, hp0, hp1, _, _, hn0, hn1, _⟩ := asked_ends hA
          have hout : ∀ w' v1 v2, Below w.heap.size w w' → ListD w' w.heap.size v1 (chipsA l x p a b n).1 → ListD w' w.heap.size v2 (chipsA l x p a b n).2.1 → HitsOut w l x p a b n (.returned (.tuple #[v1, v2, .int .i64 (chipsA l x p a b n).2.2, .bool true])) w' := fun w' v1 v2 q1 q2 q3 => by
            refine ⟨v1, v2, ?_, q1, ?_, ?_⟩
            · unfold stepsA; rw [hA]; rfl
            · unfold hitListA; rw [hA]; exact ⟨q2⟩
            · unfold behindA; rw [hA]; exact ⟨q3⟩
          have hlx : x.length = l.length := hx8.1
          generalize chipsA l x p a b n = Z at *
          obtain ⟨H2z, R2z, S2z⟩ := Z
          have HC := Aside0.mk hC
          have HO := Aside0.mk hout
          clear hC hRR hout hA
          go_loopg [17, 18, 48] n.toNat (fun kq v17 v18 v48 wr => ∃ (i : Nat) (at_ : Int) (rot hl : List Int) (st : Int) (L7 : Option Addr) (c7 : Nat), v48 = .int .i64 (i : Int) ∧ v18 = .int .i64 st ∧ v17 = .slice L7 hl.length c7 ∧ Aside0 ((i : Int) + kq = n ∧ hl.length = i) ∧ Aside0 (Chips l a b p kq hl rot st H2z R2z S2z) ∧ Aside0 (rot.length = l.length) ∧ Aside0 (HitAt wr w.heap.size B (.slice A l.length c) (.slice (some ⟨G, 0, none⟩) l.length cap) (.slice L7 hl.length c7) at_ rot hl) ∧ Aside0 (Below w.heap.size w wr))
          case atStart => exact ⟨0, p, x, [], 0, _, _, rfl, rfl, rfl, ⟨by omega, rfl⟩, HC, ⟨hlx⟩, HH, HB5⟩
          case round =>
            clear HC HH HB5
            obtain ⟨i, at_, rot, hl, st, L7, c7, rfl, rfl, rfl, HI, HC, HL, HH, HB⟩ := hrel
            cases gk with
            | zero =>
              have hi : ¬ ((i : Int) < n) := by have := HI.out.1; omega
              have hc := HC.out
              cases hc
              have hcB : wr.drew.cell? ⟨B, 0, none⟩ = some (.slice (some ⟨G, 0, none⟩) l.length cap) := (blk_cell HH.out.blk 0).trans rfl
              have HB7 := Aside0.mk (pw_below_drewN HB.out 1)
              have HH7 := Aside0.mk (HH.out.drewN 1)
              replace HB7 : Aside0 (Below w.heap.size w wr.drew) := HB7
              replace HH7 : Aside0 (HitAt wr.drew w.heap.size B (.slice A l.length c) (.slice (some ⟨G, 0, none⟩) l.length cap) (.slice L7 H2z.length c7) at_ R2z H2z) := HH7
              clear HH HB
              go_upto_region 14 with (fail)
              refine start_ (n := 8) (S := fun w' => w'.cell? ⟨B, 0, none⟩ = some (.slice (some ⟨G, 0, none⟩) l.length cap)) (ds := []) #[false, false, false, false, false, false, false, false] (by kernel_rfl) rfl rfl hcB (fun hHeld => ?_)
              refine with_tabW htab14 hbits14 (fun HT_ HW_ => ?_)
              generalize wr.drew = W9 at *
              refine pure_ (i := 0) (N := some 77) (v := ?_) (a' := ?_) #[true, false, false, false, false, false, false, false] rfl rfl (any_of HT_.out (by kernel_rfl)) (fun _ _ _ h => h) (Or.inl ⟨by rfl, ?_⟩) ?_ ?_
              rotate_left
              · intro w'
                go_simp
                with_reducible rfl
              rotate_left
              · simp only [Act.put, List.setIfInBounds_toArray, List.set_cons_zero, List.set_cons_succ, i64_w, i32_w]
                rfl
              refine pure_ (i := 1) (N := some 78) (v := ?_) (a' := ?_) #[true, true, false, false, false, false, false, false] rfl rfl (any_of HT_.out (by kernel_rfl)) (fun _ _ _ h => h) (Or.inl ⟨by rfl, ?_⟩) ?_ ?_
              rotate_left
              · intro w'
                go_simp
                with_reducible rfl
              rotate_left
              · simp only [Act.put, List.setIfInBounds_toArray, List.set_cons_zero, List.set_cons_succ, i64_w, i32_w]
                rfl
              refine take_ (i := 2) (N := some 79) (v := ?_) (a' := ?_) #[true, true, true, false, false, false, false, false] rfl rfl (take_ofW HT_.out HW_.out (by kernel_rfl)) (fun _ _ _ h => h) (Or.inl ⟨by rfl, ?_⟩) hHeld ?_ ?_
              rotate_left
              · intro w' s0
                go_simp
                with_reducible rfl
              rotate_left
              · simp only [Act.put, List.setIfInBounds_toArray, List.set_cons_zero, List.set_cons_succ, i64_w, i32_w]
                rfl
              refine pure_ (i := 3) (N := some 80) (v := ?_) (a' := ?_) #[true, true, true, true, false, false, false, false] rfl rfl (any_of HT_.out (by kernel_rfl)) (fun _ _ _ h => h) (Or.inl ⟨by rfl, ?_⟩) ?_ ?_
              rotate_left
              · intro w'
                go_simp
                with_reducible rfl
              rotate_left
              · simp only [Act.put, List.setIfInBounds_toArray, List.set_cons_zero, List.set_cons_succ, i64_w, i32_w]
                rfl
              refine pure_ (i := 4) (N := some 12) (v := ?_) (a' := ?_) #[true, true, true, true, true, false, false, false] rfl rfl (any_of HT_.out (by kernel_rfl)) (fun _ _ _ h => h) (Or.inl ⟨by rfl, ?_⟩) ?_ ?_
              rotate_left
              · intro w'
                go_simp
                with_reducible rfl
              rotate_left
              · simp only [Act.put, List.setIfInBounds_toArray, List.set_cons_zero, List.set_cons_succ, i64_w, i32_w]
                rfl
              refine pure_ (i := 5) (N := some 13) (v := ?_) (a' := ?_) #[true, true, true, true, true, true, false, false] rfl rfl (any_of HT_.out (by kernel_rfl)) (fun _ _ _ h => h) (Or.inl ⟨by rfl, ?_⟩) ?_ ?_
              rotate_left
              · intro w'
                go_simp
                with_reducible rfl
              rotate_left
              · simp only [Act.put, List.setIfInBounds_toArray, List.set_cons_zero, List.set_cons_succ, i64_w, i32_w]
                rfl
              refine pure_ (i := 6) (N := some 14) (v := ?_) (a' := ?_) #[true, true, true, true, true, true, true, false] rfl rfl (any_of HT_.out (by kernel_rfl)) (fun _ _ _ h => h) (Or.inl ⟨by rfl, ?_⟩) ?_ ?_
              rotate_left
              · intro w'
                go_simp
                with_reducible rfl
              rotate_left
              · simp only [Act.put, List.setIfInBounds_toArray, List.set_cons_zero, List.set_cons_succ, i64_w, i32_w]
                rfl
              refine pure_ (i := 7) (N := some 15) (v := ?_) (a' := ?_) #[true, true, true, true, true, true, true, true] rfl rfl (any_of HT_.out (by kernel_rfl)) (fun _ _ _ h => h) (Or.inl ⟨by rfl, ?_⟩) ?_ ?_
              rotate_left
              · intro w'
                go_simp
                with_reducible rfl
              rotate_left
              · simp only [Act.put, List.setIfInBounds_toArray, List.set_cons_zero, List.set_cons_succ, i64_w, i32_w]
                rfl
              refine done_ (done_of HT_.out (by kernel_rfl)) ?_
              clear HT_ HW_ hHeld
              go_wp2_with (fail)
              refine bodyPost_ret (v := .tuple #[.slice L7 H2z.length c7, .slice (some ⟨G, 0, none⟩) l.length cap, .int .i64 S2z, .bool true]) (by simp [results, Try.results84, go_sem]) rfl ?_
              exact HO.out _ _ _ HB7.out HH7.out.l HH7.out.r
            | succ m =>
              have hi : (i : Int) < n := by have := HI.out.1; omega
              have hc := HC.out
              obtain ⟨s, v1, rot1, st1, hrun, hrest⟩ : ∃ s v1 rot1 st1, Run l a b s p rot st v1 rot1 st1 ∧ Chips l a b p m (hl ++ [hitOf v1 a]) rot1 st1 H2z R2z S2z := by
                cases hc with
                | more _ s _ _ _ v1 rot1 st1 _ _ _ h h2 => exact ⟨s, v1, rot1, st1, h, h2⟩
              have HR := Aside0.mk hrun
              have HC2 := Aside0.mk hrest
              clear hc hrun hrest HC
              have k1 := (blk_cell HH.out.blk 1).trans rfl
              have y1 := blk_frozen HH.out.blk 1
              go_upto_region 7 with (fail)
              have H7 := Aside0.mk (HH.out.setAt p)
              have B7 : Aside0 (Below w.heap.size w (wr.setCell ⟨B, 1, none⟩ (.int .i64 p))) := ⟨HB.out.setCell HH.out.hB _⟩
              clear HH HB k1 y1
              generalize wr.setCell ⟨B, 1, none⟩ (.int .i64 p) = W7 at *
              go_loopg [18] s (fun kq v18 wq => ∃ (v : Int) (rot2 : List Int) (st2 : Int), v18 = .int .i64 st2 ∧ Aside0 (Run l a b kq v rot2 st2 v1 rot1 st1) ∧ Aside0 (rot2.length = l.length) ∧ Aside0 (HitAt wq w.heap.size B (.slice A l.length c) (.slice (some ⟨G, 0, none⟩) l.length cap) (.slice L7 hl.length c7) v rot2 hl) ∧ Aside0 (Below w.heap.size w wq))
              case atStart => exact ⟨p, rot, st, rfl, HR, HL, H7, B7⟩
              case round =>
                clear HR H7 B7 HL
                obtain ⟨v, rot2, st2, rfl, HR, HL, HH, HB⟩ := hrel
                have k0 := (blk_cell HH.out.bx 0).trans rfl
                have k1 := (blk_cell HH.out.blk 1).trans rfl
                cases gk with
                | zero =>
                  have hr := HR.out
                  have hstop : (v = a ∨ v = b) ∧ v1 = v ∧ rot1 = rot2 ∧ st1 = st2 := by
                    cases hr with
                    | stop _ _ _ h => exact ⟨h, rfl, rfl, rfl⟩
                  obtain ⟨hab, rfl, rfl, rfl⟩ := hstop
                  clear hr HR
                  by_cases hva : v1 = a
                  · have q1 : (v1 == a) = true := beq_iff_eq.mpr hva
                    have q2 : (v1 != a) = false := bne_eq_false_iff_eq.mpr hva
                    have hh : hitOf v1 a = 1 := by unfold hitOf; rw [if_pos hva]
                    rw [hh] at HC2
                    clear hva hab hh
                    have ws : w.heap.size ≤ wr.heap.size := HB.out.size
                    have HO7 : wr.ownsRow w.heap.size 3 1 (.slice L7 hl.length c7) hl.length (nums .i64 hl) := HH.out.l
                    go_wp2_with (at_builtin; go_loud (refine print_append_num (w0 := w) w.heap.size rfl (.tmp 70) (.tmp 71) 37 3 .i64 8 rfl Try.underlying37 GA.info3 (by decide) (.slice L7 hl.length c7) hl (1 : Int) rfl rfl HO7 HB.out ws (by have := HI.out; omega) ?_; intro v9 w9 hown hbel hg hat; obtain ⟨A9, m9, hv9⟩ := own_slice hown; subst hv9; have HH9 := Aside0.mk (HH.out.app hown hg hat); have HB9 := Aside0.mk hbel; clear hown hbel hg hat))
                    go_roundg m
                    case measure => omega
                    case rel => exact ⟨i + 1, v1, rot1, hl ++ [1], st1, A9, m9, by first | rfl | go_num, rfl, by rw [List.length_append]; rfl, ⟨by have := HI.out; simp; omega⟩, HC2, HL, HH9, HB9⟩
                  · have q1 : (v1 == a) = false := beq_eq_false_iff_ne.mpr hva
                    have q2 : (v1 != a) = true := bne_iff_ne.mpr hva
                    have q3 : (v1 == b) = true := beq_iff_eq.mpr (hab.resolve_left hva)
                    have q4 : (v1 != b) = false := bne_eq_false_iff_eq.mpr (hab.resolve_left hva)
                    have hh : hitOf v1 a = 0 := by unfold hitOf; rw [if_neg hva]
                    rw [hh] at HC2
                    clear hva hab hh
                    have ws : w.heap.size ≤ wr.heap.size := HB.out.size
                    have HO7 : wr.ownsRow w.heap.size 3 1 (.slice L7 hl.length c7) hl.length (nums .i64 hl) := HH.out.l
                    go_wp2_with (at_builtin; go_loud (refine print_append_num (w0 := w) w.heap.size rfl (.tmp 73) (.tmp 74) 37 3 .i64 8 rfl Try.underlying37 GA.info3 (by decide) (.slice L7 hl.length c7) hl (0 : Int) rfl rfl HO7 HB.out ws (by have := HI.out; omega) ?_; intro v9 w9 hown hbel hg hat; obtain ⟨A9, m9, hv9⟩ := own_slice hown; subst hv9; have HH9 := Aside0.mk (HH.out.app hown hg hat); have HB9 := Aside0.mk hbel; clear hown hbel hg hat))
                    go_roundg m
                    case measure => omega
                    case rel => exact ⟨i + 1, v1, rot1, hl ++ [0], st1, A9, m9, by first | rfl | go_num, rfl, by rw [List.length_append]; rfl, ⟨by have := HI.out; simp; omega⟩, HC2, HL, HH9, HB9⟩
                | succ q =>
                  have hr := HR.out
                  cases hr with
                  | go _ _ _ _ _ _ _ ha hb h0 h1 hvr k hk hkr h =>
                    have HR2 := Aside0.mk h
                    clear h HR
                    obtain ⟨A_, c_, he_, hc_, hC_⟩ := HV.out
                    injection he_ with e1 e2 e3
                    subst e1 e3
                    obtain ⟨ad, A0, c0, rfl, hx, hl0, hi0⟩ := at_L1 hC_ v h0 h1
                    obtain ⟨adr, rfl, hx2⟩ := Kd.at_int hi0 (k : Int) (by omega) (by omega)
                    rw [Int.toNat_natCast] at hx2
                    obtain ⟨G_, cap_, cur, hf_, hNG, bG, hBG, hcur⟩ := HH.out.form (by omega)
                    rw [HL.out] at hf_
                    injection hf_ with e4 _ e5
                    injection e4 with e4
                    injection e4 with e4
                    subst e4 e5
                    have hcur := hcur v.toNat (by omega)
                    have hlt := World.block_lt_of_cell? w _ hx2
                    rw [add_block] at hlt
                    have q1 : (v == a) = false := beq_eq_false_iff_ne.mpr ha
                    have q2 : (v != a) = true := bne_iff_ne.mpr ha
                    have q3 : (v == b) = false := beq_eq_false_iff_ne.mpr hb
                    have q4 : (v != b) = true := bne_iff_ne.mpr hb
                    have hrd : rot2[v.toNat]'(by omega) = rd rot2 v := by
                      have := rd_at rot2 v.toNat (by omega)
                      rw [Int.toNat_of_nonneg h0] at this
                      exact this.symm
                    rw [hrd] at hcur
                    have hx := (HB.out.cell (World.block_lt_of_cell? w _ hx)).trans hx
                    have hx2 := (HB.out.cell (World.block_lt_of_cell? w _ hx2)).trans hx2
                    have ST := Aside0.mk (step_raw ad c l.length w.heap.size B G cap v (rd rot2 v) (rd (rd_L1 l v) k) k (rd_L1 l v).length c0 adr cur wr HB.out.size h0 h1 hx HH.out.blk bG hcur hx2 hk hkr hBG (by omega) HH.out.hB hNG)
                    clear hx hx2 bG hcur hi0 hl0 hC_ hc_
                    go_wp2_with (go_at_call 115; refine ST.out.mono ?_; rintro e W8 ⟨rfl, hB8, hheap⟩)
                    go_roundg q
                    case measure => omega
                    case rel =>
                      refine ⟨rd (rd_L1 l v) k, rot2.set v.toNat k, wrap64 (st2 + 1), by first | rfl | go_num, HR2, ⟨by rw [List.length_set]; exact HL.out⟩, ⟨?_⟩, ⟨HB.out.trans hB8⟩⟩
                      refine HitAt.heap (((HH.out.alloc (.cells #[.slice (some ad) l.length c] 30)).setRot HL.out.symm v.toNat k).setAt (rd (rd_L1 l v) k)) (fun b hb => by rw [hheap])
end Go.Proofs.Ytnbnalbomflafaa.RA
/-! ## GU0 -/
namespace Go.Proofs.Ytnbnalbomflafaa.GU
open Go.RowKit Go.Proofs.YtnbnalbomflafaaW.PrintWords Go.Proofs.YtnbnalbomflafaaW.PrintLast Go.Proofs.YtnbnalbomflafaaW.PrintMore
open Go.Proofs.Ytnbnalbomflafaa.GA
attribute [local go_sem] max2_int min2_int max_two min_two max_three min_three max_four min_four   -- for this text's walks alone
set_option linter.unusedVariables false
set_option linter.unusedSimpArgs false
def errW : Option Int → Value
  | none => .nilIface
  | some c => .iface 0 (.int .i64 c)
theorem errW_none : errW none = .nilIface := rfl
theorem errW_some (c : Int) : errW (some c) = .iface 0 (.int .i64 c) := rfl
end Go.Proofs.Ytnbnalbomflafaa.GU
/-! ## GU1 -/
namespace Go.Proofs.Ytnbnalbomflafaa.GU
open Go.RowKit Go.Proofs.YtnbnalbomflafaaW.PrintWords Go.Proofs.YtnbnalbomflafaaW.PrintLast Go.Proofs.YtnbnalbomflafaaW.PrintMore
open Go.Proofs.Ytnbnalbomflafaa.GA
attribute [local go_sem] max2_int min2_int max_two min_two max_three min_three max_four min_four   -- for this text's walks alone
set_option linter.unusedVariables false
set_option linter.unusedSimpArgs false
def impl_sum.l0 : Nat → Int → List Int → Int → Int → Option (Int)
  | 0, _, _, _, _ => none
  | k + 1, x3, x6, x7, x8 => if x8 < x7 then (if 0 ≤ x8 then (if x8 < (x6.length : Int) then (impl_sum.l0 k (wrap64 (x3 + (rd x6 x8))) x6 x7 (wrap64 (x8 + 1))) else (none)) else (none)) else (some x3)
def impl_sum.f (k : Nat) (l0 : List Int) : Option (Int) := impl_sum.l0 k 0 l0 (l0.length : Int) 0
end Go.Proofs.Ytnbnalbomflafaa.GU
/-! ## Ci -/
namespace Go.Proofs.Ytnbnalbomflafaa.RA
open Go.RowKit Go.Proofs.YtnbnalbomflafaaW.PrintWords Go.Proofs.YtnbnalbomflafaaW.PrintLast Go.Proofs.YtnbnalbomflafaaW.PrintMore
open Go.Proofs.Ytnbnalbomflafaa.GA
open Go.Proofs.Ytnbnalbomflafaa.GR hiding rd_L1 at_L1
open Go.Proofs.Ytnbnalbomflafaa.GQ hiding rd_L1 at_L1
open Go.Proofs.Ytnbnalbomflafaa.KA
set_option linter.unusedVariables false
set_option linter.unusedSimpArgs false
theorem spec_RotorsBehind_c (l : List (List Int)) (x : List Int) (p a b n : Int) (W : World) (v u : Value) (hv : RowsC W v l) (hu : ListC W u x) : Calls Try.prog 38 #[.agg #[v], u, .int .i64 p, .int .i64 a, .int .i64 b, .int .i64 n] W (ResC W (behindA l x p a b n).1 (behindA l x p a b n).2) := by
  obtain ⟨A, c, rfl, hc, hC⟩ := hv
  obtain ⟨A2, c2, rfl, hc2, hC2⟩ := hu
  obtain ⟨k, hk⟩ := spec_RotorsBehind_f l x p a b n
  refine (spec_RotorsBehind.calls k A c l A2 c2 x p a b n _ _ W hC hc hC2 hc2 hk).mono ?_
  rintro e w' ⟨v0, rfl, hR, hB⟩
  exact ⟨v0, rfl, hB, ⟨rowI_reads (Kd.own_of_R hR)⟩⟩
theorem ok_behind (l : List (List Int)) (x : List Int) (p a b n : Int) : (behindA l x p a b n).2 = askedB l x p a b n := by unfold behindA; split <;> rename_i h <;> simp [h]
set_option maxHeartbeats 4000000 in
set_option maxRecDepth 100000 in
theorem impl_RotorsBehind_c (l : List (List Int)) (x : List Int) (p a b n : Int) (w : World) (v u : Value) (hv : RowsC w v l) (hu : ListC w u x) : Calls Try.prog 39 #[.agg #[v], u, .int .i64 p, .int .i64 a, .int .i64 b, .int .i64 n] w (ResD w (behindA l x p a b n).1 (behindA l x p a b n).2) := by
  have HV := Aside0.mk hv
  have HU := Aside0.mk hu
  obtain ⟨A, c, rfl, _, _⟩ := hv
  obtain ⟨A2, c2, rfl, _, _⟩ := hu
  rw [ok_behind]
  have hf := hitListA_fits l x p a b n
  go_enter Try.func39, Try.ntmps39
  have hal : Below w.heap.size w (w.alloc (.cells #[.slice A l.length c] 30)) := (Below.refl _ _).alloc (Nat.le_refl _) _
  have HAL := Aside0.mk hal
  clear hal
  go_upto_region 2 with (go_at_call 84; refine (hits_c l x p a b n _ _ _ (HV.out.below HAL.out) (HU.out.below HAL.out)).mono ?_; rintro e w1 ⟨v1, v2, rfl, hB, h1, h2⟩; have HB := Aside0.mk (HAL.out.trans (hB.mono (by simp))); have HL1 := Aside0.mk (h1.out.lower' (base' := w.heap.size) (by simp)); have HL2 := Aside0.mk (h2.out.lower' (base' := w.heap.size) (by simp)); clear hB h1 h2)
  go_wp2_with (fail)
  refine bodyPost_ret (v := .tuple #[v2, .bool (askedB l x p a b n)]) (by simp [results, Try.results39, go_sem]) rfl ?_
  exact ⟨v2, rfl, HB.out, HL2⟩
end Go.Proofs.Ytnbnalbomflafaa.RA
/-! ## Rk -/
namespace Go.Proofs.Ytnbnalbomflafaa.RA
open Go.RowKit Go.Proofs.YtnbnalbomflafaaW.PrintWords Go.Proofs.YtnbnalbomflafaaW.PrintLast Go.Proofs.YtnbnalbomflafaaW.PrintMore
set_option linter.unusedVariables false
set_option linter.unusedSimpArgs false
def T8_13 : Bool × List (List Nat × List Nat) := (true, [([], []), ([], []), ([1], [1]), ([0, 2, 2], [0, 2]), ([3], [3])])
def B8_13 : List Nat := [0, 0, 2, 7, 15]
theorem tabT8_13 : rtab .any (opsOf Try.f8 13) = T8_13 := by kernel_rfl
theorem bitsB8_13 : waitsOk T8_13.2 B8_13 = true := by kernel_rfl
set_option maxHeartbeats 4000000 in
set_option maxRecDepth 100000 in
theorem law_RotorsBehind.walk (v0 : Value) (l0 : List (List Int)) (A_v1 : Option Addr) (c_v1 : Nat) (l1 : List Int) (a2 : Int) (a3 : Int) (a4 : Int) (a5 : Int) (w : World) (hv0 : RowsC w v0 l0) (hv1 : ListC w (.slice A_v1 l1.length c_v1) l1)  : Calls Try.prog 8 #[.agg #[v0], (.slice A_v1 l1.length c_v1), .int .i64 a2, .int .i64 a3, .int .i64 a4, .int .i64 a5] w fun e w' => e = .returned (.bool true) ∧ Below w.heap.size w w' := by
  have HS0 := Aside0.mk hv0
  have HS1 := Aside0.mk hv1
  clear hv0 hv1
  by_cases hl1 : (l1.length : Int) > 1048576
  · go_enter Try.func8, Try.ntmps8
    go_upto_region 1 with (fail)
    have HBw : Aside0 (Below w.heap.size w (w.alloc (.cells #[v0] 24))) := ⟨(Below.refl w.heap.size w).alloc (by simp) _⟩
    have hzb : w.heap.size + 1 ≤ (w.alloc (.cells #[v0] 24)).heap.size := by simp
    have cx_0 : (w.alloc (.cells #[v0] 24)).cell? ⟨w.heap.size, 0, none⟩ = some v0 := box_10 w v0 24
    generalize (w.alloc (.cells #[v0] 24)) = Wb at *
    go_wp2_with (fail)
    go_ret
    exact ⟨by first | rfl | trivial, HBw.out⟩
  have hs1 : SmallL l1 := by unfold SmallL; omega
  obtain ⟨z0, hz0⟩ : ∃ z, z = szZ l0 1048576 := ⟨_, rfl⟩
  rcases szZ_is l0 1048576 (by omega) with hq0 | ⟨hp0, hr0, hs0⟩
  · rw [← hz0] at hq0
    have hn0 : z0 < 0 := by omega
    replace hz0 := Aside0.mk hz0
    go_enter Try.func8, Try.ntmps8
    have HZ0 := Aside0.mk hz0.out
    go_upto_region 1 with (fail)
    have HBw : Aside0 (Below w.heap.size w (w.alloc (.cells #[v0] 24))) := ⟨(Below.refl w.heap.size w).alloc (by simp) _⟩
    have hzb : w.heap.size + 1 ≤ (w.alloc (.cells #[v0] 24)).heap.size := by simp
    have cx_0 : (w.alloc (.cells #[v0] 24)).cell? ⟨w.heap.size, 0, none⟩ = some v0 := box_10 w v0 24
    generalize (w.alloc (.cells #[v0] 24)) = Wb at *
    go_wp2_with (first | (go_at_call 19; refine (szG_c _ v0 l0 (HS0.out.below HBw.out) 1048576 (by omega)).mono ?_; rintro e W1 ⟨rfl, hB1⟩; rw [← HZ0.out]; have hz2 := hB1.size; have HB3 : Aside0 (Below w.heap.size w W1) := ⟨HBw.out.trans (hB1.mono (by omega))⟩; have HB4 : Aside0 (Below w.heap.size w W1) := ⟨HBw.out.trans (hB1.mono (by omega))⟩; have cx5 : W1.cell? ⟨w.heap.size, 0, none⟩ = some v0 := (hB1.cell (p := ⟨w.heap.size, 0, none⟩) (show w.heap.size < Wb.heap.size by omega)).trans cx_0; clear cx_0; clear HBw; clear hB1))
    go_ret
    exact ⟨by first | rfl | trivial, HB3.out⟩
  · rw [← hz0] at hp0 hr0
    have hg0 : ¬ (z0 < 0) := by omega
    have HM : Aside0 (Small l0 ∧ SmallL l1) := ⟨hs0, hs1⟩
    have ht0 : 0 ≤ tot l0 ∧ tot l0 ≤ 1048576 := ⟨tot_pos _, HM.out.1.2.1⟩
    have ht1 : 0 ≤ (l1.length : Int) ∧ (l1.length : Int) ≤ 1048576 := ⟨by omega, HM.out.2⟩
    have hk : ¬ (1 + tot l0 + (l1.length : Int) < 0) := by omega
    have HK0 : Aside0 (0 ≤ 1 + tot l0 ∧ 1 + tot l0 ≤ 100000000) := ⟨by omega⟩
    have HK1 : Aside0 (0 ≤ 1 + tot l0 + (l1.length : Int) ∧ 1 + tot l0 + (l1.length : Int) ≤ 100000000) := ⟨by omega⟩
    clear ht0 ht1
    obtain ⟨R, hR⟩ : ∃ R, R = (behindA l0 l1 a2 a3 a4 a5).1 := ⟨_, rfl⟩
    obtain ⟨ok, hok⟩ : ∃ ok, ok = (behindA l0 l1 a2 a3 a4 a5).2 := ⟨_, rfl⟩
    have hfit : FitsL R := by rw [hR]; exact behindA_fits l0 l1 a2 a3 a4 a5
    have spec0 := fun W v u hv hu => spec_RotorsBehind_c l0 l1 a2 a3 a4 a5 W v u hv hu
    have impl0 := fun W v u hv hu => impl_RotorsBehind_c l0 l1 a2 a3 a4 a5 W v u hv hu
    rw [← hR, ← hok] at spec0 impl0
    have hq : ¬ (1 + (R.length : Int) < 0) := by omega
    have HF := Aside0.mk hfit
    have SP := Aside0.mk spec0
    have IM := Aside0.mk impl0
    clear hR hok hfit spec0 impl0
    have HZ0 := Aside0.mk hz0
    clear hz0
    clear hs0 hs1
    go_enter Try.func8, Try.ntmps8
    go_upto_region 1 with (fail)
    have HBw : Aside0 (Below w.heap.size w (w.alloc (.cells #[v0] 24))) := ⟨(Below.refl w.heap.size w).alloc (by simp) _⟩
    have hzb : w.heap.size + 1 ≤ (w.alloc (.cells #[v0] 24)).heap.size := by simp
    have cx_0 : (w.alloc (.cells #[v0] 24)).cell? ⟨w.heap.size, 0, none⟩ = some v0 := box_10 w v0 24
    generalize (w.alloc (.cells #[v0] 24)) = Wb at *
    go_upto_region 7 with (first | (go_at_call 19; refine (szG_c _ v0 l0 (HS0.out.below HBw.out) 1048576 (by omega)).mono ?_; rintro e W1 ⟨rfl, hB6⟩; rw [← HZ0.out]; have hz7 := hB6.size; have HB8 : Aside0 (Below w.heap.size w W1) := ⟨HBw.out.trans (hB6.mono (by omega))⟩; have HB9 : Aside0 (Below w.heap.size w W1) := ⟨HBw.out.trans (hB6.mono (by omega))⟩; have cx10 : W1.cell? ⟨w.heap.size, 0, none⟩ = some v0 := (hB6.cell (p := ⟨w.heap.size, 0, none⟩) (show w.heap.size < Wb.heap.size by omega)).trans cx_0; clear cx_0; clear HBw; clear hB6))
    clear HZ0
    go_upto_region 8 with (first | (go_at_call 21; refine (toG_c _ v0 l0 (HS0.out.below HB8.out) HM.out.1).mono ?_; rintro e W2 ⟨v11, rfl, hB12, hD13⟩; have hz14 := hB12.size; have HB15 : Aside0 (Below w.heap.size w W2) := ⟨HB8.out.trans (hB12.mono (by omega))⟩; have HB16 : Aside0 (Below w.heap.size w W2) := ⟨HB9.out.trans (hB12.mono (by omega))⟩; have cx17 : W2.cell? ⟨w.heap.size, 0, none⟩ = some v0 := (hB12.cell (p := ⟨w.heap.size, 0, none⟩) (show w.heap.size < W1.heap.size by omega)).trans cx10; clear cx10; clear HB8 HB9; have HD18 := Aside0.mk hD13.out.toU; clear hD13) | (go_at_call 28; refine (toL_c _ (.slice A_v1 l1.length c_v1) l1 (HS1.out.below HB16.out) HM.out.2).mono ?_; rintro e W3 ⟨v19, rfl, hB20, hD21⟩; have hz22 := hB20.size; have HB23 : Aside0 (Below w.heap.size w W3) := ⟨HB15.out.trans (hB20.mono (by omega))⟩; have HB24 : Aside0 (Below w.heap.size w W3) := ⟨HB16.out.trans (hB20.mono (by omega))⟩; have HD25 := Aside0.mk (HD18.out.below (by omega) hB20); have cx26 : W3.cell? ⟨w.heap.size, 0, none⟩ = some v0 := (hB20.cell (p := ⟨w.heap.size, 0, none⟩) (show w.heap.size < W2.heap.size by omega)).trans cx17; clear cx17; clear HB15 HB16 HD18; have HD27 := Aside0.mk hD21.out.toU; clear hD21) | (go_at_call 38; refine (SP.out _ v11 v19 HD25.out.reads HD27.out.reads).mono ?_; rintro e W4 ⟨v28, rfl, hB29, hD30⟩; have hz31 := hB29.size; have HB32 : Aside0 (Below w.heap.size w W4) := ⟨HB23.out.trans (hB29.mono (by omega))⟩; have HB33 : Aside0 (Below w.heap.size w W4) := ⟨HB24.out.trans (hB29.mono (by omega))⟩; have HD34 := Aside0.mk (HD25.out.below (by omega) hB29); have HD35 := Aside0.mk (HD27.out.below (by omega) hB29); have cx36 : W4.cell? ⟨w.heap.size, 0, none⟩ = some v0 := (hB29.cell (p := ⟨w.heap.size, 0, none⟩) (show w.heap.size < W3.heap.size by omega)).trans cx26; clear cx26; clear HB23 HB24 HD25 HD27))
    clear HD34
    clear HD35
    go_upto_region 9 with (first | (go_at_call 21; refine (toG_c _ v0 l0 (HS0.out.below HB32.out) HM.out.1).mono ?_; rintro e W5 ⟨v37, rfl, hB38, hD39⟩; obtain ⟨A40, c41, hv_, _⟩ := hD39.out.slice; subst hv_; have hz42 := hB38.size; have HB43 : Aside0 (Below w.heap.size w W5) := ⟨HB32.out.trans (hB38.mono (by omega))⟩; have HB44 : Aside0 (Below w.heap.size w W5) := ⟨HB33.out.trans (hB38.mono (by omega))⟩; have HB45 : Aside0 (Below W4.heap.size W4 W5) := ⟨hB38⟩; have cx46 : W5.cell? ⟨w.heap.size, 0, none⟩ = some v0 := (hB38.cell (p := ⟨w.heap.size, 0, none⟩) (show w.heap.size < W4.heap.size by omega)).trans cx36; clear cx36; clear HB32 HB33; have HD47 := Aside0.mk hD39.out.toU; clear hD39))
    have hB48 : Below W5.heap.size W5 (W5.alloc (.cells #[(.slice A40 l0.length c41)] 30)) := (Below.refl _ _).alloc (Nat.le_refl _) _
    have cx49 : (W5.alloc (.cells #[(.slice A40 l0.length c41)] 30)).cell? ⟨W5.heap.size, 0, none⟩ = some (.slice A40 l0.length c41) := (blk_cell (blk_new _ _) 0).trans rfl
    have hz50 : W5.heap.size < (W5.alloc (.cells #[(.slice A40 l0.length c41)] 30)).heap.size := by simp
    generalize (W5.alloc (.cells #[(.slice A40 l0.length c41)] 30)) = W6 at *
    have hz51 := hB48.size
    have HB52 : Aside0 (Below w.heap.size w W6) := ⟨HB43.out.trans (hB48.mono (by omega))⟩
    have HB53 : Aside0 (Below w.heap.size w W6) := ⟨HB44.out.trans (hB48.mono (by omega))⟩
    have HB54 : Aside0 (Below W4.heap.size W4 W6) := ⟨HB45.out.trans (hB48.mono (by omega))⟩
    have HD55 := Aside0.mk (HD47.out.below (by omega) hB48)
    have cx56 : W6.cell? ⟨w.heap.size, 0, none⟩ = some v0 := (hB48.cell (p := ⟨w.heap.size, 0, none⟩) (show w.heap.size < W5.heap.size by omega)).trans cx46
    clear cx46
    clear HB43 HB44 HB45 HD47
    go_upto_region 10 with (first | (go_at_call 28; refine (toL_c _ (.slice A_v1 l1.length c_v1) l1 (HS1.out.below HB53.out) HM.out.2).mono ?_; rintro e W7 ⟨v57, rfl, hB58, hD59⟩; have hz60 := hB58.size; have HB61 : Aside0 (Below w.heap.size w W7) := ⟨HB52.out.trans (hB58.mono (by omega))⟩; have HB62 : Aside0 (Below w.heap.size w W7) := ⟨HB53.out.trans (hB58.mono (by omega))⟩; have HB63 : Aside0 (Below W4.heap.size W4 W7) := ⟨HB54.out.trans (hB58.mono (by omega))⟩; have HD64 := Aside0.mk (HD55.out.below (by omega) hB58); have cx65 : W7.cell? ⟨w.heap.size, 0, none⟩ = some v0 := (hB58.cell (p := ⟨w.heap.size, 0, none⟩) (show w.heap.size < W6.heap.size by omega)).trans cx56; have cx66 : W7.cell? ⟨W5.heap.size, 0, none⟩ = some (.slice A40 l0.length c41) := (hB58.cell (p := ⟨W5.heap.size, 0, none⟩) (show W5.heap.size < W6.heap.size by omega)).trans cx49; clear cx56 cx49; clear HB52 HB53 HB54 HD55; have HD67 := Aside0.mk hD59.out.toU; clear hD59))
    go_upto_region 11 with (first | (go_at_call 39; refine (IM.out _ (.slice A40 l0.length c41) v57 HD64.out.reads HD67.out.reads).mono ?_; rintro e W8 ⟨v68, rfl, hB69, hD70⟩; have hz71 := hB69.size; have HB72 : Aside0 (Below w.heap.size w W8) := ⟨HB61.out.trans (hB69.mono (by omega))⟩; have HB73 : Aside0 (Below w.heap.size w W8) := ⟨HB62.out.trans (hB69.mono (by omega))⟩; have HB74 : Aside0 (Below W4.heap.size W4 W8) := ⟨HB63.out.trans (hB69.mono (by omega))⟩; have HD75 := Aside0.mk (HD64.out.below (by omega) hB69); have HD76 := Aside0.mk (HD67.out.below (by omega) hB69); have cx77 : W8.cell? ⟨w.heap.size, 0, none⟩ = some v0 := (hB69.cell (p := ⟨w.heap.size, 0, none⟩) (show w.heap.size < W7.heap.size by omega)).trans cx65; have cx78 : W8.cell? ⟨W5.heap.size, 0, none⟩ = some (.slice A40 l0.length c41) := (hB69.cell (p := ⟨W5.heap.size, 0, none⟩) (show W5.heap.size < W7.heap.size by omega)).trans cx66; clear cx65 cx66; clear HB61 HB62 HB63 HD64 HD67; have HD79 := Aside0.mk hD70.out.toU; clear hD70))
    go_upto_region 13 with (first | (go_at_call 30; refine (eqRL_c _ v68 v28 R HD79.out.reads (hD30.out.below HB74.out) HF.out).mono ?_; rintro e w_ ⟨rfl, ⟨nd80, rfl⟩⟩; have HB81 : Aside0 (Below w.heap.size w (W8.drewN nd80)) := ⟨pw_below_drewN HB72.out nd80⟩; have HB82 : Aside0 (Below w.heap.size w (W8.drewN nd80)) := ⟨pw_below_drewN HB73.out nd80⟩; have HB83 : Aside0 (Below W4.heap.size W4 (W8.drewN nd80)) := ⟨pw_below_drewN HB74.out nd80⟩; have HD84 := Aside0.mk (HD75.out.drewN nd80); have HD85 := Aside0.mk (HD76.out.drewN nd80); have HD86 := Aside0.mk (HD79.out.drewN nd80); have cx87 : (W8.drewN nd80).cell? ⟨w.heap.size, 0, none⟩ = some v0 := cx77; have cx88 : (W8.drewN nd80).cell? ⟨W5.heap.size, 0, none⟩ = some (.slice A40 l0.length c41) := cx78; clear cx77 cx78; have hz89 : W8.heap.size ≤ (W8.drewN nd80).heap.size := (by simp); clear HB72 HB73 HB74 HD75 HD76 HD79; generalize W8.drewN nd80 = W9 at *))
    go_upto_region 13 with (fail)
    have HB90 : Aside0 (Below w.heap.size w W9.drew) := ⟨pw_below_drewN HB81.out 1⟩
    have HB91 : Aside0 (Below w.heap.size w W9.drew) := ⟨pw_below_drewN HB82.out 1⟩
    have HB92 : Aside0 (Below W4.heap.size W4 W9.drew) := ⟨pw_below_drewN HB83.out 1⟩
    have HD93 : Aside0 (RowsU W9.drew W4.heap.size W5.heap.size (.slice A40 l0.length c41) l0) := ⟨HD84.out.drewN 1⟩
    clear HD84
    have HD94 : Aside0 (ListU W9.drew W6.heap.size W7.heap.size v57 l1) := ⟨HD85.out.drewN 1⟩
    clear HD85
    have HD95 : Aside0 (ListU W9.drew W7.heap.size W8.heap.size v68 R) := ⟨HD86.out.drewN 1⟩
    clear HD86
    have cx96 : W9.drew.cell? ⟨w.heap.size, 0, none⟩ = some v0 := cx87
    have cx97 : W9.drew.cell? ⟨W5.heap.size, 0, none⟩ = some (.slice A40 l0.length c41) := cx88
    clear cx87 cx88
    have hz98 : W9.heap.size ≤ W9.drew.heap.size := by simp
    refine start_ (n := 5) (S := fun w' => w'.cell? ⟨w.heap.size, 0, none⟩ = some v0 ∧ w'.cell? ⟨W5.heap.size, 0, none⟩ = some (.slice A40 l0.length c41)) (ds := []) #[false, false, false, false, false] (by kernel_rfl) rfl rfl ⟨cx96, cx97⟩ (fun hHeld => ?_)
    refine with_tabW tabT8_13 bitsB8_13 (fun HT_ HW_ => ?_)
    generalize W9.drew = W10 at *
    refine take_ (i := 0) (N := some 68) (v := ?_) (a' := ?_) #[true, false, false, false, false] rfl rfl (take_ofW HT_.out HW_.out (by kernel_rfl)) (fun _ _ _ h => h) (Or.inl ⟨by rfl, ?_⟩) hHeld ?_ ?_
    rotate_left
    · rintro w' ⟨s0, s1⟩
      go_simp
      with_reducible rfl
    rotate_left
    · simp only [Act.put, List.setIfInBounds_toArray, List.set_cons_zero, List.set_cons_succ, i64_w, i32_w]
      rfl
    refine take_ (i := 1) (N := some 69) (v := ?_) (a' := ?_) #[true, true, false, false, false] rfl rfl (take_ofW HT_.out HW_.out (by kernel_rfl)) (fun _ _ _ h => h) (Or.inl ⟨by rfl, ?_⟩) hHeld ?_ ?_
    rotate_left
    · rintro w' ⟨s0, s1⟩
      go_simp
      with_reducible rfl
    rotate_left
    · simp only [Act.put, List.setIfInBounds_toArray, List.set_cons_zero, List.set_cons_succ, i64_w, i32_w]
      rfl
    refine one_ (i := 2) (N := some 70) #[true, true, true, false, false] rfl rfl (one_of HT_.out (by kernel_rfl)) (by decide) (fun K hK => ?_)
    refine goes_ Try.func21 (by kernel_rfl) rfl #[.agg #[v0]] (by rfl) rfl rfl (by (try simp only [List.map_toArray, List.map_cons, List.map_nil]); first | done | rfl) ?_
    (with_reducible refine (toG_c _ v0 l0 (HS0.out.below HB90.out) HM.out.1).mono ?_; rintro e W11 ⟨v99, rfl, hB100, hD101⟩; have hz102 := hB100.size; have HB103 : Aside0 (Below w.heap.size w W11) := ⟨HB90.out.trans (hB100.mono (by omega))⟩; have HB104 : Aside0 (Below w.heap.size w W11) := ⟨HB91.out.trans (hB100.mono (by omega))⟩; have HB105 : Aside0 (Below W4.heap.size W4 W11) := ⟨HB92.out.trans (hB100.mono (by omega))⟩; have HD106 := Aside0.mk (HD93.out.below (by omega) hB100); have HD107 := Aside0.mk (HD94.out.below (by omega) hB100); have HD108 := Aside0.mk (HD95.out.below (by omega) hB100); have cx109 : W11.cell? ⟨w.heap.size, 0, none⟩ = some v0 := (hB100.cell (p := ⟨w.heap.size, 0, none⟩) (show w.heap.size < W10.heap.size by omega)).trans cx96; have cx110 : W11.cell? ⟨W5.heap.size, 0, none⟩ = some (.slice A40 l0.length c41) := (hB100.cell (p := ⟨W5.heap.size, 0, none⟩) (show W5.heap.size < W10.heap.size by omega)).trans cx97; clear cx96 cx97; clear HB90 HB91 HB92 HD93 HD94 HD95; have HD111 := Aside0.mk hD101.out.toU; clear hD101)
    refine ⟨_, rfl, ?_⟩
    refine hK.out _ _ ⟨cx109, cx110⟩ (fun hHeld => ?_)
    clear hK K
    refine norm_ (a' := ?_) ?_ ?_
    rotate_left
    · show Act.put _ (some 70) _ = _
      simp only [Act.put, List.setIfInBounds_toArray, List.set_cons_zero, List.set_cons_succ, i64_w, i32_w]
      rfl
    refine one_ (i := 3) (N := some 71) #[true, true, true, true, false] rfl rfl (one_of HT_.out (by kernel_rfl)) (by decide) (fun K hK => ?_)
    refine goes_ Try.func24 (by kernel_rfl) rfl #[.agg #[(.slice A40 l0.length c41)], .agg #[v99]] (by rfl) rfl rfl (by (try simp only [List.map_toArray, List.map_cons, List.map_nil]); first | done | rfl) ?_
    (with_reducible refine (eqG_c _ (.slice A40 l0.length c41) v99 l0 HD106.out.reads HD111.out.reads HM.out.1).mono ?_; rintro e W12 ⟨rfl, hB112⟩; have hz113 := hB112.size; have HB114 : Aside0 (Below w.heap.size w W12) := ⟨HB103.out.trans (hB112.mono (by omega))⟩; have HB115 : Aside0 (Below w.heap.size w W12) := ⟨HB104.out.trans (hB112.mono (by omega))⟩; have HB116 : Aside0 (Below W4.heap.size W4 W12) := ⟨HB105.out.trans (hB112.mono (by omega))⟩; have HD117 := Aside0.mk (HD106.out.below (by omega) hB112); have HD118 := Aside0.mk (HD107.out.below (by omega) hB112); have HD119 := Aside0.mk (HD108.out.below (by omega) hB112); have HD120 := Aside0.mk (HD111.out.below (by omega) hB112); have cx121 : W12.cell? ⟨w.heap.size, 0, none⟩ = some v0 := (hB112.cell (p := ⟨w.heap.size, 0, none⟩) (show w.heap.size < W11.heap.size by omega)).trans cx109; have cx122 : W12.cell? ⟨W5.heap.size, 0, none⟩ = some (.slice A40 l0.length c41) := (hB112.cell (p := ⟨W5.heap.size, 0, none⟩) (show W5.heap.size < W11.heap.size by omega)).trans cx110; clear cx109 cx110; clear HB103 HB104 HB105 HD106 HD107 HD108 HD111; clear hB112)
    refine ⟨_, rfl, ?_⟩
    refine hK.out _ _ ⟨cx121, cx122⟩ (fun hHeld => ?_)
    clear hK K
    refine norm_ (a' := ?_) ?_ ?_
    rotate_left
    · show Act.put _ (some 71) _ = _
      simp only [Act.put, List.setIfInBounds_toArray, List.set_cons_zero, List.set_cons_succ, i64_w, i32_w]
      rfl
    refine pure_ (i := 4) (N := some 72) (v := ?_) (a' := ?_) #[true, true, true, true, true] rfl rfl (any_of HT_.out (by kernel_rfl)) (fun _ _ _ h => h) (Or.inl ⟨by rfl, ?_⟩) ?_ ?_
    rotate_left
    · intro w'
      go_simp
      with_reducible rfl
    rotate_left
    · simp only [Act.put, List.setIfInBounds_toArray, List.set_cons_zero, List.set_cons_succ, i64_w, i32_w]
      rfl
    refine done_ (done_of HT_.out (by kernel_rfl)) ?_
    clear HT_ HW_ hHeld
    clear HD120
    go_upto_region 18 with (first | (go_at_call 28; refine (toL_c _ (.slice A_v1 l1.length c_v1) l1 (HS1.out.below HB115.out) HM.out.2).mono ?_; rintro e W13 ⟨v123, rfl, hB124, hD125⟩; have hz126 := hB124.size; have HB127 : Aside0 (Below w.heap.size w W13) := ⟨HB114.out.trans (hB124.mono (by omega))⟩; have HB128 : Aside0 (Below w.heap.size w W13) := ⟨HB115.out.trans (hB124.mono (by omega))⟩; have HB129 : Aside0 (Below W4.heap.size W4 W13) := ⟨HB116.out.trans (hB124.mono (by omega))⟩; have HD130 := Aside0.mk (HD117.out.below (by omega) hB124); have HD131 := Aside0.mk (HD118.out.below (by omega) hB124); have HD132 := Aside0.mk (HD119.out.below (by omega) hB124); have cx133 : W13.cell? ⟨w.heap.size, 0, none⟩ = some v0 := (hB124.cell (p := ⟨w.heap.size, 0, none⟩) (show w.heap.size < W12.heap.size by omega)).trans cx121; have cx134 : W13.cell? ⟨W5.heap.size, 0, none⟩ = some (.slice A40 l0.length c41) := (hB124.cell (p := ⟨W5.heap.size, 0, none⟩) (show W5.heap.size < W12.heap.size by omega)).trans cx122; clear cx121 cx122; clear HB114 HB115 HB116 HD117 HD118 HD119; have HD135 := Aside0.mk hD125.out.toU; clear hD125) | (go_at_call 30; refine (eqL_c _ v57 v123 l1 HD131.out.reads HD135.out.reads HM.out.2).mono ?_; rintro e w_ ⟨rfl, ⟨nd136, rfl⟩⟩; have HB137 : Aside0 (Below w.heap.size w (W13.drewN nd136)) := ⟨pw_below_drewN HB127.out nd136⟩; have HB138 : Aside0 (Below w.heap.size w (W13.drewN nd136)) := ⟨pw_below_drewN HB128.out nd136⟩; have HB139 : Aside0 (Below W4.heap.size W4 (W13.drewN nd136)) := ⟨pw_below_drewN HB129.out nd136⟩; have HD140 := Aside0.mk (HD130.out.drewN nd136); have HD141 := Aside0.mk (HD131.out.drewN nd136); have HD142 := Aside0.mk (HD132.out.drewN nd136); have HD143 := Aside0.mk (HD135.out.drewN nd136); have cx144 : (W13.drewN nd136).cell? ⟨w.heap.size, 0, none⟩ = some v0 := cx133; have cx145 : (W13.drewN nd136).cell? ⟨W5.heap.size, 0, none⟩ = some (.slice A40 l0.length c41) := cx134; clear cx133 cx134; have hz146 : W13.heap.size ≤ (W13.drewN nd136).heap.size := (by simp); clear HB127 HB128 HB129 HD130 HD131 HD132 HD135; generalize W13.drewN nd136 = W14 at *))
    clear HD143
    go_upto_region 19 with (first | (go_at_call 35; refine (markG_U W4.heap.size W5.heap.size _ (by omega) (.slice A40 l0.length c41) l0 1 HD140.out HM.out.1 HK0.out (by omega)).mono ?_; rintro e W15 ⟨rfl, hB147, HD148, hK149⟩; have hz150 := hB147.size; have HB151 : Aside0 (Below w.heap.size w W15) := ⟨HB137.out.trans (hB147.mono (by omega))⟩; have HB152 : Aside0 (Below w.heap.size w W15) := ⟨HB138.out.trans (hB147.mono (by omega))⟩; have HB153 : Aside0 (Below W4.heap.size W4 W15) := ⟨HB139.out.trans (hB147.mono (by omega))⟩; have HD154 := Aside0.mk (HD141.out.moveIn fun b h1 h2 => hK149.out b (by omega) (by omega)); have HD155 := Aside0.mk (HD142.out.moveIn fun b h1 h2 => hK149.out b (by omega) (by omega)); have cx156 : W15.cell? ⟨w.heap.size, 0, none⟩ = some v0 := (hB147.cell (p := ⟨w.heap.size, 0, none⟩) (show w.heap.size < W4.heap.size by omega)).trans cx144; have cx157 : W15.cell? ⟨W5.heap.size, 0, none⟩ = some (.slice A40 l0.length c41) := (cell_same (hK149.out (W5.heap.size) (by omega) (by omega)) 0).trans cx145; clear cx144 cx145; clear HB137 HB138 HB139 HD141 HD142; clear HD140 hB147 hK149))
    clear HD148
    go_upto_region 20 with (first | (go_at_call 36; refine (markL_U W6.heap.size W7.heap.size _ (by omega) v57 l1 (1 + tot l0) HD154.out HM.out.2 HK1.out HK0.out.1).mono ?_; rintro e W16 ⟨rfl, hB158, HD159, hK160⟩; have hz161 := hB158.size; have HB162 : Aside0 (Below w.heap.size w W16) := ⟨HB151.out.trans (hB158.mono (by omega))⟩; have HB163 : Aside0 (Below w.heap.size w W16) := ⟨HB152.out.trans (hB158.mono (by omega))⟩; have HB164 : Aside0 (Below W4.heap.size W4 W16) := ⟨HB153.out.trans (hB158.mono (by omega))⟩; have HD165 := Aside0.mk (HD155.out.moveIn fun b h1 h2 => hK160.out b (by omega) (by omega)); have cx166 : W16.cell? ⟨w.heap.size, 0, none⟩ = some v0 := (hB158.cell (p := ⟨w.heap.size, 0, none⟩) (show w.heap.size < W6.heap.size by omega)).trans cx156; have cx167 : W16.cell? ⟨W5.heap.size, 0, none⟩ = some (.slice A40 l0.length c41) := (hB158.cell (p := ⟨W5.heap.size, 0, none⟩) (show W5.heap.size < W6.heap.size by omega)).trans cx157; clear cx156 cx157; clear HB151 HB152 HB153 HD155; clear HD154 hB158 hK160))
    clear HD159
    go_upto_region 23 with (first | (go_at_call 30; refine (eqRL_c _ v68 v28 R HD165.out.reads (hD30.out.below HB164.out) HF.out).mono ?_; rintro e w_ ⟨rfl, ⟨nd168, rfl⟩⟩; have HB169 : Aside0 (Below w.heap.size w (W16.drewN nd168)) := ⟨pw_below_drewN HB162.out nd168⟩; have HB170 : Aside0 (Below w.heap.size w (W16.drewN nd168)) := ⟨pw_below_drewN HB163.out nd168⟩; have HB171 : Aside0 (Below W4.heap.size W4 (W16.drewN nd168)) := ⟨pw_below_drewN HB164.out nd168⟩; have HD172 := Aside0.mk (HD165.out.drewN nd168); have cx173 : (W16.drewN nd168).cell? ⟨w.heap.size, 0, none⟩ = some v0 := cx166; have cx174 : (W16.drewN nd168).cell? ⟨W5.heap.size, 0, none⟩ = some (.slice A40 l0.length c41) := cx167; clear cx166 cx167; have hz175 : W16.heap.size ≤ (W16.drewN nd168).heap.size := (by simp); clear HB162 HB163 HB164 HD165; generalize W16.drewN nd168 = W17 at *))
    go_upto_region 25 with (first | (go_at_call 36; refine (markRL_U W7.heap.size W8.heap.size _ (by omega) v68 R 1 rfl HD172.out HF.out).mono ?_; rintro e W18 ⟨rfl, hB176, HD177, hK178⟩; have hz179 := hB176.size; have HB180 : Aside0 (Below w.heap.size w W18) := ⟨HB169.out.trans (hB176.mono (by omega))⟩; have HB181 : Aside0 (Below w.heap.size w W18) := ⟨HB170.out.trans (hB176.mono (by omega))⟩; have HB182 : Aside0 (Below W4.heap.size W4 W18) := ⟨HB171.out.trans (hB176.mono (by omega))⟩; have cx183 : W18.cell? ⟨w.heap.size, 0, none⟩ = some v0 := (hB176.cell (p := ⟨w.heap.size, 0, none⟩) (show w.heap.size < W7.heap.size by omega)).trans cx173; have cx184 : W18.cell? ⟨W5.heap.size, 0, none⟩ = some (.slice A40 l0.length c41) := (hB176.cell (p := ⟨W5.heap.size, 0, none⟩) (show W5.heap.size < W7.heap.size by omega)).trans cx174; clear cx173 cx174; clear HB169 HB170 HB171; clear HD172 hB176 hK178))
    go_upto_region 30 with (first | (go_at_call 37; refine (heldRL_c _ v68 R HD177.out.reads HF.out).mono ?_; rintro e w_ ⟨rfl, ⟨nd185, rfl⟩⟩; have HB186 : Aside0 (Below w.heap.size w (W18.drewN nd185)) := ⟨pw_below_drewN HB180.out nd185⟩; have HB187 : Aside0 (Below w.heap.size w (W18.drewN nd185)) := ⟨pw_below_drewN HB181.out nd185⟩; have HB188 : Aside0 (Below W4.heap.size W4 (W18.drewN nd185)) := ⟨pw_below_drewN HB182.out nd185⟩; have HD189 := Aside0.mk (HD177.out.drewN nd185); have cx190 : (W18.drewN nd185).cell? ⟨w.heap.size, 0, none⟩ = some v0 := cx183; have cx191 : (W18.drewN nd185).cell? ⟨W5.heap.size, 0, none⟩ = some (.slice A40 l0.length c41) := cx184; clear cx183 cx184; have hz192 : W18.heap.size ≤ (W18.drewN nd185).heap.size := (by simp); clear HB180 HB181 HB182 HD177; generalize W18.drewN nd185 = W19 at *))
    go_upto_region 31 with (first | (go_at_call 21; refine (toG_c _ v0 l0 (HS0.out.below HB186.out) HM.out.1).mono ?_; rintro e W20 ⟨v193, rfl, hB194, hD195⟩; have hz196 := hB194.size; have HB197 : Aside0 (Below w.heap.size w W20) := ⟨HB186.out.trans (hB194.mono (by omega))⟩; have HB198 : Aside0 (Below w.heap.size w W20) := ⟨HB187.out.trans (hB194.mono (by omega))⟩; have HB199 : Aside0 (Below W4.heap.size W4 W20) := ⟨HB188.out.trans (hB194.mono (by omega))⟩; have HD200 := Aside0.mk (HD189.out.below (by omega) hB194); have cx201 : W20.cell? ⟨w.heap.size, 0, none⟩ = some v0 := (hB194.cell (p := ⟨w.heap.size, 0, none⟩) (show w.heap.size < W19.heap.size by omega)).trans cx190; have cx202 : W20.cell? ⟨W5.heap.size, 0, none⟩ = some (.slice A40 l0.length c41) := (hB194.cell (p := ⟨W5.heap.size, 0, none⟩) (show W5.heap.size < W19.heap.size by omega)).trans cx191; clear cx190 cx191; clear HB186 HB187 HB188 HD189; have HD203 := Aside0.mk hD195.out.toU; clear hD195) | (go_at_call 28; refine (toL_c _ (.slice A_v1 l1.length c_v1) l1 (HS1.out.below HB198.out) HM.out.2).mono ?_; rintro e W21 ⟨v204, rfl, hB205, hD206⟩; have hz207 := hB205.size; have HB208 : Aside0 (Below w.heap.size w W21) := ⟨HB197.out.trans (hB205.mono (by omega))⟩; have HB209 : Aside0 (Below w.heap.size w W21) := ⟨HB198.out.trans (hB205.mono (by omega))⟩; have HB210 : Aside0 (Below W4.heap.size W4 W21) := ⟨HB199.out.trans (hB205.mono (by omega))⟩; have HD211 := Aside0.mk (HD200.out.below (by omega) hB205); have HD212 := Aside0.mk (HD203.out.below (by omega) hB205); have cx213 : W21.cell? ⟨w.heap.size, 0, none⟩ = some v0 := (hB205.cell (p := ⟨w.heap.size, 0, none⟩) (show w.heap.size < W20.heap.size by omega)).trans cx201; have cx214 : W21.cell? ⟨W5.heap.size, 0, none⟩ = some (.slice A40 l0.length c41) := (hB205.cell (p := ⟨W5.heap.size, 0, none⟩) (show W5.heap.size < W20.heap.size by omega)).trans cx202; clear cx201 cx202; clear HB197 HB198 HB199 HD200 HD203; have HD215 := Aside0.mk hD206.out.toU; clear hD206) | (go_at_call 39; refine (IM.out _ v193 v204 HD212.out.reads HD215.out.reads).mono ?_; rintro e W22 ⟨v216, rfl, hB217, hD218⟩; have hz219 := hB217.size; have HB220 : Aside0 (Below w.heap.size w W22) := ⟨HB208.out.trans (hB217.mono (by omega))⟩; have HB221 : Aside0 (Below w.heap.size w W22) := ⟨HB209.out.trans (hB217.mono (by omega))⟩; have HB222 : Aside0 (Below W4.heap.size W4 W22) := ⟨HB210.out.trans (hB217.mono (by omega))⟩; have HD223 := Aside0.mk (HD211.out.below (by omega) hB217); have HD224 := Aside0.mk (HD212.out.below (by omega) hB217); have HD225 := Aside0.mk (HD215.out.below (by omega) hB217); have cx226 : W22.cell? ⟨w.heap.size, 0, none⟩ = some v0 := (hB217.cell (p := ⟨w.heap.size, 0, none⟩) (show w.heap.size < W21.heap.size by omega)).trans cx213; have cx227 : W22.cell? ⟨W5.heap.size, 0, none⟩ = some (.slice A40 l0.length c41) := (hB217.cell (p := ⟨W5.heap.size, 0, none⟩) (show W5.heap.size < W21.heap.size by omega)).trans cx214; clear cx213 cx214; clear HB208 HB209 HB210 HD211 HD212 HD215; have HD228 := Aside0.mk hD218.out.toU; clear hD218))
    clear HD224
    clear HD225
    go_upto_region 34 with (first | (go_at_call 30; refine (eqRL_c _ v216 v28 R HD228.out.reads (hD30.out.below HB222.out) HF.out).mono ?_; rintro e w_ ⟨rfl, ⟨nd229, rfl⟩⟩; have HB230 : Aside0 (Below w.heap.size w (W22.drewN nd229)) := ⟨pw_below_drewN HB220.out nd229⟩; have HB231 : Aside0 (Below w.heap.size w (W22.drewN nd229)) := ⟨pw_below_drewN HB221.out nd229⟩; have HB232 : Aside0 (Below W4.heap.size W4 (W22.drewN nd229)) := ⟨pw_below_drewN HB222.out nd229⟩; have HD233 := Aside0.mk (HD223.out.drewN nd229); have HD234 := Aside0.mk (HD228.out.drewN nd229); have cx235 : (W22.drewN nd229).cell? ⟨w.heap.size, 0, none⟩ = some v0 := cx226; have cx236 : (W22.drewN nd229).cell? ⟨W5.heap.size, 0, none⟩ = some (.slice A40 l0.length c41) := cx227; clear cx226 cx227; have hz237 : W22.heap.size ≤ (W22.drewN nd229).heap.size := (by simp); clear HB220 HB221 HB222 HD223 HD228; generalize W22.drewN nd229 = W23 at *))
    clear HD234
    go_wp2_with (first | (go_at_call 37; refine (heldRL_c _ v68 R HD233.out.reads HF.out).mono ?_; rintro e w_ ⟨rfl, ⟨nd238, rfl⟩⟩; have HB239 : Aside0 (Below w.heap.size w (W23.drewN nd238)) := ⟨pw_below_drewN HB230.out nd238⟩; have HB240 : Aside0 (Below w.heap.size w (W23.drewN nd238)) := ⟨pw_below_drewN HB231.out nd238⟩; have HB241 : Aside0 (Below W4.heap.size W4 (W23.drewN nd238)) := ⟨pw_below_drewN HB232.out nd238⟩; have HD242 := Aside0.mk (HD233.out.drewN nd238); have cx243 : (W23.drewN nd238).cell? ⟨w.heap.size, 0, none⟩ = some v0 := cx235; have cx244 : (W23.drewN nd238).cell? ⟨W5.heap.size, 0, none⟩ = some (.slice A40 l0.length c41) := cx236; clear cx235 cx236; have hz245 : W23.heap.size ≤ (W23.drewN nd238).heap.size := (by simp); clear HB230 HB231 HB232 HD233; generalize W23.drewN nd238 = W24 at *))
    go_ret
    exact ⟨by first | rfl | trivial, HB239.out⟩
end Go.Proofs.Ytnbnalbomflafaa.RA
/-! ## Kr -/
namespace Go.Proofs.Ytnbnalbomflafaa.KR
open Go.RowKit Go.Proofs.YtnbnalbomflafaaW.PrintWords
open Go.ChangeShapes Go.WideShapes Go.Deep
set_option linter.unusedVariables false
/-- What a list that came in reads as. -/
structure ListIn (W : World) (A : Option Addr) (n c : Nat) (l : List Int) : Prop where
  len : n = l.length
  le : l.length ≤ c
  reads : Kd.C (Kd.int .i64) W A l.length l
  wf : ∀ x ∈ l, (Lit.int .i64 x).wf = true
structure RowsIn (W : World) (A : Option Addr) (n c : Nat) (l : List (List Int)) : Prop where
  len : n = l.length
  le : l.length ≤ c
  reads : Kd.C (Kd.slice 3 (Kd.int .i64)) W A l.length l
  wf : ∀ r ∈ l, ∀ x ∈ r, (Lit.int .i64 x).wf = true
  small : ∀ r ∈ l, r.length ≤ 9223372036854775807
theorem reads_of {W : World} {a' : Option Addr} {n c : Nat} {zs : List Int} (hl : n ≤ c) (hm : c ≤ maxLen) (hz : zs.length = c) (hn : a' = none → c = 0)
    (hc : ∀ ad, a' = some ad → ∀ j, j < c → W.cell? (ad.add j) = some (.int .i64 (zs.getD j 0))) : Kd.C (Kd.int .i64) W a' (zs.take n).length (zs.take n) := by
  have hln : (zs.take n).length = n := by rw [List.length_take]; omega
  rw [hln]
  refine Kd.C_of_reads (d := 0) ⟨hln, by unfold maxLen at hm; omega, fun h0 => ?_⟩
  cases a' with
  | none => have := hn rfl; omega
  | some ad =>
    refine ⟨ad, rfl, fun j hj => ?_⟩
    rw [hc ad rfl j (by omega)]
    simp [List.getD_eq_getElem?_getD, hj]
theorem array1 {α : Type} {cs : Array α} (h : cs.size = 1) : ∃ c0, cs = #[c0] := by
  obtain ⟨l⟩ := cs
  match l, h with
  | [c0], _ => exact ⟨c0, rfl⟩
section
variable {H : Type} {enc : TypeId × Value → H} {W : World} {base : Nat} {held : Bool}
theorem open_list {a : Option Addr} {len cap : Nat} {d : DataW H} {p : List MemPlace} (h : DataW.Trod enc Try.prog W base (fun _ => true) held 37 (.slice a len cap) d p) : ∃ l, ListIn W a len cap l := by
  obtain ⟨fuel, hf⟩ := h
  rcases open_ints Try.underlying37 Try.underlying3 (by kernel_rfl) hf with ⟨hcs, _⟩ | ⟨x, l, c, zs, hcs, _, hl, hm, hz, _, hcell, hwz⟩
  · simp [Value.cells] at hcs
    obtain ⟨rfl, rfl, rfl⟩ := hcs
    exact ⟨[], rfl, Nat.le_refl _, Kd.C_nil _ _, by simp⟩
  · simp [Value.cells] at hcs
    obtain ⟨rfl, rfl, rfl⟩ := hcs
    have hz' : zs.length = cap := by simpa using hz
    have hln : (zs.take len).length = len := by rw [List.length_take]; omega
    refine ⟨zs.take len, hln.symm, by omega, ?_, fun x hx => hwz x (List.mem_of_mem_take hx)⟩
    refine reads_of hl hm hz' (fun h => by cases h) (fun ad e j hj => ?_)
    injection e with e
    subst e
    exact hcell j (by omega)
theorem rows_of {fuel : Nat} {cs : List Value} {x : DataW H × List MemPlace} (h : DataW.trod enc Try.prog W base (fun _ => true) held fuel 22 cs = some x) : ∃ A n c l, cs = [.slice A n c] ∧ RowsIn W A n c l := by
  rcases open_int_rows Try.underlying22 Try.underlying37 Try.underlying3 (by kernel_rfl) (by kernel_rfl) h with ⟨rfl, _⟩ | ⟨a, len, cap, A, L, C, Z, rfl, hb, hl, hm, hx, hr⟩
  · exact ⟨none, 0, 0, [], rfl, rfl, Nat.le_refl _, Kd.C_nil _ _, by simp, by simp⟩
  · refine ⟨some a, len, cap, (List.range len).map fun r => (Z r).take (L r), rfl, by simp, by simpa using hl, ?_, ?_, ?_⟩
    · refine ⟨by simp, by simp; unfold maxLen at hm; omega, fun h0 => ⟨a, rfl, fun j p hj => ?_⟩⟩
      have hjl : j < len := by
        have := (List.getElem?_eq_some_iff.1 hj).1
        simpa using this
      obtain ⟨hc, h1, h2, h3, h4, h5, h6⟩ := hr j (by omega)
      have hp : p = (Z j).take (L j) := by
        rw [List.getElem?_map, List.getElem?_range hjl] at hj
        exact (Option.some.inj hj).symm
      have hpl : p.length = L j := by rw [hp, List.length_take]; omega
      refine ⟨[.slice (A j) p.length (C j)], rfl, ⟨A j, C j, rfl, by omega, ?_⟩, fun i u hu => ?_⟩
      · rw [hp]
        exact reads_of h1 h2 h3 h5 (fun ad e i hi => (h6 ad e).2 i hi)
      · have hi : i = 0 := by
          have := (List.getElem?_eq_some_iff.1 hu).1
          simp at this
          exact this
        subst hi
        simp at hu
        rw [← hu, hpl]
        have e : j * (Kd.slice 3 (Kd.int .i64)).sz + 0 = j := by show j * 1 + 0 = j; omega
        rw [e]
        exact hc
    · intro r hr' x hx'
      obtain ⟨j, hj, rfl⟩ := List.mem_map.1 hr'
      have := List.mem_range.1 hj
      exact (hr j (by omega)).2.2.2.2.1 x (List.mem_of_mem_take hx')
    · intro r hr'
      obtain ⟨j, hj, rfl⟩ := List.mem_map.1 hr'
      have hj := List.mem_range.1 hj
      have h1 := (hr j (by omega)).2.1
      have h2 := (hr j (by omega)).2.2.1
      unfold maxLen at h2
      rw [List.length_take]
      omega
set_option maxRecDepth 100000 in
theorem open_graph {r : Reach} {b0 t : Nat} {f0 : Field} {v : Value} {d : DataW H} {p : List MemPlace} (hs : Try.prog.underlying t = some (.struct #[f0])) (hC : Try.prog.cellsOf t = 1) (hf : f0.type = 22) (ho : f0.offset = 0)
    (hv : Value.okWide Try.prog W r b0 t v) (h : DataW.Trod enc Try.prog W base (fun _ => true) held t v d p) : ∃ A n c l, v = .agg #[.slice A n c] ∧ RowsIn W A n c l := by
  obtain ⟨cs, rfl, hsz⟩ := okWide_struct hs hv
  obtain ⟨c0, rfl⟩ := array1 (hsz.trans hC)
  obtain ⟨fuel, hfu⟩ := h
  obtain ⟨y0, n, hx, _, h0⟩ := trod_struct1 hs hfu
  have hc22 : Try.prog.cellsOf 22 = 1 := by kernel_rfl
  rw [hf, ho, hc22] at h0
  obtain ⟨A, m, c, l, hcs, hR⟩ := rows_of h0
  have e : c0 = .slice A m c := by simpa [Value.cells] using hcs
  subst e
  exact ⟨A, m, c, l, rfl, hR⟩
end
end Go.Proofs.Ytnbnalbomflafaa.KR
