/-
  Texts of the seat, merged (part 6).
-/
import Derived.Test.YtnbnalbomflafaaX9WMore
import Derived.Test.YtnbnalbomflafaaProg
import Derived.Deep.Matrix
import Derived.Lib.SmallJoins
import Derived.WalkKit
import Derived.ProofKit
import Derived.OpenShut
import Derived.ChangeSame
import Derived.Test.YtnbnalbomflafaaX95
/-! ## GT1 -/
namespace Go.Proofs.Ytnbnalbomflafaa.GT
open Go.RowKit Go.Proofs.YtnbnalbomflafaaW.PrintWords Go.Proofs.YtnbnalbomflafaaW.PrintLast Go.Proofs.YtnbnalbomflafaaW.PrintMore
open Go.Proofs.Ytnbnalbomflafaa.GA Go.Proofs.Ytnbnalbomflafaa.GB Go.Proofs.Ytnbnalbomflafaa.GD Go.Proofs.Ytnbnalbomflafaa.KA Go.Proofs.Ytnbnalbomflafaa.GR Go.Proofs.Ytnbnalbomflafaa.GQ Go.Proofs.Ytnbnalbomflafaa.DT
attribute [local go_sem] RA.field80_0 RA.field80_1 RA.field80_2 max2_int min2_int max_two min_two max_three min_three max_four min_four   -- for this text's walks alone
set_option linter.unusedVariables false
set_option linter.unusedSimpArgs false
mutual
def spec_ExpectedSteps.j0 : Nat → Int → Int → Int → Bool → List (List Int) → Option (Int × Int × Bool)
  | 0, _, _, _, _, _ => none
  | k + 1, x1, x2, x3, x29, x185000 => if x29 = true then (some (0, 0, false)) else ((spec_hiMatrix.f x185000 x2 x3).bind fun bt188 => (spec_ExpectedSteps.l0 k x1 bt188.1 bt188.2 ([] : List Int) bt188.1 (bt188.1.length : Int) 0 x185000))
def spec_ExpectedSteps.l0 : Nat → Int → List Int → List (List Int) → List Int → List Int → Int → Int → List (List Int) → Option (Int × Int × Bool)
  | 0, _, _, _, _, _, _, _, _ => none
  | k + 1, x1, x10, x11, x12, x38, x39, x40, x185000 => if x40 < x39 then (if 0 ≤ x40 then (if x40 < (x38.length : Int) then (if 0 ≤ (rd x38 x40) then (if (rd x38 x40) < (x185000.length : Int) then (if x12.length < 17592186044416 then (spec_ExpectedSteps.l0 k x1 x10 x11 (x12 ++ [((rd_L1 x185000 (rd x38 x40)).length : Int)]) x38 x39 (wrap64 (x40 + 1)) x185000) else (none)) else (none)) else (none)) else (none)) else (none)) else ((spec_hiSolve.f k x11 x12).bind fun bt199 => (spec_ExpectedSteps.l1 k x1 bt199.1 bt199.2 x10 (x10.length : Int) 0))
def spec_ExpectedSteps.l1 : Nat → Int → List Int → Int → List Int → Int → Int → Option (Int × Int × Bool)
  | 0, _, _, _, _, _, _ => none
  | k + 1, x1, x15, x16, x60, x61, x62 => if x62 < x61 then (if 0 ≤ x62 then (if x62 < (x60.length : Int) then (if (rd x60 x62) = x1 then (if x62 < (x15.length : Int) then ((spec_hiRatio.f k (rd x15 x62) x16).bind fun bt205 => (some (bt205.1, bt205.2, true))) else (none)) else (spec_ExpectedSteps.l1 k x1 x15 x16 x60 x61 (wrap64 (x62 + 1)))) else (none)) else (none)) else (some (0, 1, true))
end
def spec_ExpectedSteps.f (k : Nat) (l0_0 : List (List Int)) (a1 : Int) (a2 : Int) (a3 : Int) : Option (Int × Int × Bool) := (spec_hiGood.f k l0_0 a2 a3).bind fun t186 => (if t186 = true then ((spec_grPlace.f k l0_0 a1).bind fun t187 => (spec_ExpectedSteps.j0 k a1 a2 a3 (!t187) l0_0)) else (spec_ExpectedSteps.j0 k a1 a2 a3 true l0_0))
theorem spec_ExpectedSteps.mono_l : ∀ k, (∀ y0 y1 y2 y3 y4, LeO (spec_ExpectedSteps.j0 k y0 y1 y2 y3 y4) (spec_ExpectedSteps.j0 (k + 1) y0 y1 y2 y3 y4)) ∧ (∀ y0 y1 y2 y3 y4 y5 y6 y7, LeO (spec_ExpectedSteps.l0 k y0 y1 y2 y3 y4 y5 y6 y7) (spec_ExpectedSteps.l0 (k + 1) y0 y1 y2 y3 y4 y5 y6 y7)) ∧ (∀ y0 y1 y2 y3 y4 y5, LeO (spec_ExpectedSteps.l1 k y0 y1 y2 y3 y4 y5) (spec_ExpectedSteps.l1 (k + 1) y0 y1 y2 y3 y4 y5))
  | 0 => ⟨fun _ _ _ _ _ r h => by simp [spec_ExpectedSteps.j0] at h, fun _ _ _ _ _ _ _ _ r h => by simp [spec_ExpectedSteps.l0] at h, fun _ _ _ _ _ _ r h => by simp [spec_ExpectedSteps.l1] at h⟩
  | k + 1 => by
    obtain ⟨ih0, ih1, ih2⟩ := spec_ExpectedSteps.mono_l k
    refine ⟨?_, ?_, ?_⟩
    · intro y0 y1 y2 y3 y4
      unfold spec_ExpectedSteps.j0
      repeat' first
      | (with_reducible exact ih0 _ _ _ _ _)
      | (with_reducible exact ih1 _ _ _ _ _ _ _ _)
      | (with_reducible exact ih2 _ _ _ _ _ _)
      | (with_reducible exact spec_grPlace.mono _ _ _)
      | (with_reducible exact spec_hiGood.mono _ _ _ _)
      | (with_reducible exact spec_hiRatio.mono _ _ _)
      | (with_reducible exact spec_hiSolve.mono _ _ _)
      | (with_reducible exact LeO.refl _)
      | (with_reducible exact LeO.none _)
      | (with_reducible refine LeO.ite ?_ ?_)
      | (with_reducible refine LeO.bind ?_ (fun _ => ?_))
      | exact ih0 _ _ _ _ _
      | exact ih1 _ _ _ _ _ _ _ _
      | exact ih2 _ _ _ _ _ _
      | exact spec_grPlace.mono _ _ _
      | exact spec_hiGood.mono _ _ _ _
      | exact spec_hiRatio.mono _ _ _
      | exact spec_hiSolve.mono _ _ _
      | exact LeO.none _
      | refine LeO.ite ?_ ?_
      | refine LeO.bind ?_ (fun _ => ?_)
    · intro y0 y1 y2 y3 y4 y5 y6 y7
      unfold spec_ExpectedSteps.l0
      repeat' first
      | (with_reducible exact ih0 _ _ _ _ _)
      | (with_reducible exact ih1 _ _ _ _ _ _ _ _)
      | (with_reducible exact ih2 _ _ _ _ _ _)
      | (with_reducible exact spec_grPlace.mono _ _ _)
      | (with_reducible exact spec_hiGood.mono _ _ _ _)
      | (with_reducible exact spec_hiRatio.mono _ _ _)
      | (with_reducible exact spec_hiSolve.mono _ _ _)
      | (with_reducible exact LeO.refl _)
      | (with_reducible exact LeO.none _)
      | (with_reducible refine LeO.ite ?_ ?_)
      | (with_reducible refine LeO.bind ?_ (fun _ => ?_))
      | exact ih0 _ _ _ _ _
      | exact ih1 _ _ _ _ _ _ _ _
      | exact ih2 _ _ _ _ _ _
      | exact spec_grPlace.mono _ _ _
      | exact spec_hiGood.mono _ _ _ _
      | exact spec_hiRatio.mono _ _ _
      | exact spec_hiSolve.mono _ _ _
      | exact LeO.none _
      | refine LeO.ite ?_ ?_
      | refine LeO.bind ?_ (fun _ => ?_)
    · intro y0 y1 y2 y3 y4 y5
      unfold spec_ExpectedSteps.l1
      repeat' first
      | (with_reducible exact ih0 _ _ _ _ _)
      | (with_reducible exact ih1 _ _ _ _ _ _ _ _)
      | (with_reducible exact ih2 _ _ _ _ _ _)
      | (with_reducible exact spec_grPlace.mono _ _ _)
      | (with_reducible exact spec_hiGood.mono _ _ _ _)
      | (with_reducible exact spec_hiRatio.mono _ _ _)
      | (with_reducible exact spec_hiSolve.mono _ _ _)
      | (with_reducible exact LeO.refl _)
      | (with_reducible exact LeO.none _)
      | (with_reducible refine LeO.ite ?_ ?_)
      | (with_reducible refine LeO.bind ?_ (fun _ => ?_))
      | exact ih0 _ _ _ _ _
      | exact ih1 _ _ _ _ _ _ _ _
      | exact ih2 _ _ _ _ _ _
      | exact spec_grPlace.mono _ _ _
      | exact spec_hiGood.mono _ _ _ _
      | exact spec_hiRatio.mono _ _ _
      | exact spec_hiSolve.mono _ _ _
      | exact LeO.none _
      | refine LeO.ite ?_ ?_
      | refine LeO.bind ?_ (fun _ => ?_)
theorem spec_ExpectedSteps.mono : ∀ a0 a1 a2 a3 k, LeO (spec_ExpectedSteps.f k a0 a1 a2 a3) (spec_ExpectedSteps.f (k + 1) a0 a1 a2 a3) := by
  intro a0 a1 a2 a3 k
  obtain ⟨ih0, ih1, ih2⟩ := spec_ExpectedSteps.mono_l k
  unfold spec_ExpectedSteps.f
  repeat' first
      | (with_reducible exact ih0 _ _ _ _ _)
      | (with_reducible exact ih1 _ _ _ _ _ _ _ _)
      | (with_reducible exact ih2 _ _ _ _ _ _)
      | (with_reducible exact spec_grPlace.mono _ _ _)
      | (with_reducible exact spec_hiGood.mono _ _ _ _)
      | (with_reducible exact spec_hiRatio.mono _ _ _)
      | (with_reducible exact spec_hiSolve.mono _ _ _)
      | (with_reducible exact LeO.refl _)
      | (with_reducible exact LeO.none _)
      | (with_reducible refine LeO.ite ?_ ?_)
      | (with_reducible refine LeO.bind ?_ (fun _ => ?_))
      | exact ih0 _ _ _ _ _
      | exact ih1 _ _ _ _ _ _ _ _
      | exact ih2 _ _ _ _ _ _
      | exact spec_grPlace.mono _ _ _
      | exact spec_hiGood.mono _ _ _ _
      | exact spec_hiRatio.mono _ _ _
      | exact spec_hiSolve.mono _ _ _
      | exact LeO.none _
      | refine LeO.ite ?_ ?_
      | refine LeO.bind ?_ (fun _ => ?_)
set_option maxHeartbeats 8000000 in
set_option maxRecDepth 100000 in
theorem spec_ExpectedSteps.calls (k : Nat) (A0_0 : Option Addr) (c0_0 : Nat) (l0_0 : List (List Int)) (a1 : Int) (a2 : Int) (a3 : Int) (r1 : Int) (r2 : Int) (r3 : Bool) (w : World) (hr0_0 : Kd.C (Kd.slice 3 (Kd.int .i64)) w A0_0 l0_0.length l0_0) (hc0_0 : l0_0.length ≤ c0_0) (h : spec_ExpectedSteps.f k l0_0 a1 a2 a3 = some (r1, r2, r3)) :
    Calls Try.prog 40 #[.agg #[.slice A0_0 l0_0.length c0_0], .int .i64 a1, .int .i64 a2, .int .i64 a3] w fun e w' => e = .returned (.tuple #[.agg #[.int .i64 r1, .int .i64 r2], .bool r3]) ∧ Below w.heap.size w w' := by
  have hu30 := Try.underlying30
  have hu27 := Try.underlying27
  have HR0_0 := Aside0.mk hr0_0
  have HC0_0 := Aside0.mk hc0_0
  clear hr0_0 hc0_0
  have HB := Aside0.mk (Below.refl w.heap.size w)
  have H : ((spec_hiGood.f k l0_0 a2 a3).bind fun t186 => (if t186 = true then ((spec_grPlace.f k l0_0 a1).bind fun t187 => (spec_ExpectedSteps.j0 k a1 a2 a3 (!t187) l0_0)) else (spec_ExpectedSteps.j0 k a1 a2 a3 true l0_0))) = some (r1, r2, r3) := h
  clear h
  have HC5 := Aside0.mk H
  clear H
  go_enter Try.func40, Try.ntmps40
  go_upto_region 1 with (first | ((with_reducible refine gate_dst (N := 4) rfl ?_); refine box_event ?hg (N := 4) ?hd (cs := #[.slice A0_0 l0_0.length c0_0]) (t := 30) ?hr ?_; (case hd => rfl); (case hg => rfl); (case hr => first | (go_simp; done) | (go_simp; rfl)); intro gb184 hg w6 hbox hb; have n0_ := Aside0.mk (below_step (by repeat (first | (with_reducible first | exact HB.out | apply below_alloc | apply pw_below_drewN | apply below_drew1) | exact HB.out)) hb); have n1_ := Aside0.mk (hbox); have n2_ := Aside0.mk ((by rw [hg]; exact (below_size (by repeat (first | (with_reducible first | exact HB.out | apply below_alloc | apply pw_below_drewN | apply below_drew1) | exact HB.out))) : w.heap.size ≤ gb184)); have n3_ := Aside0.mk ((by rw [hg]; exact (below_size (by repeat (first | (with_reducible first | exact HB.out | apply below_alloc | apply pw_below_drewN | apply below_drew1) | exact HB.out))) : w.heap.size ≤ gb184)); clear HB; have HB := n0_; have BK184 := n1_; have GW184 := n2_; have GE184 := n3_; clear n0_ n1_ n2_ n3_; clear hb hbox hg) | ((with_reducible refine gate_dst (N := 8) rfl ?_); refine box_event ?hg (N := 8) ?hd (cs := #[.int .i64 0, .int .i64 0]) (t := 27) ?hr ?_; (case hd => rfl); (case hg => rfl); (case hr => first | (go_simp; done) | (go_simp; rfl)); intro gb185 hg w7 hbox hb; have n0_ := Aside0.mk (blk_below (g := gb184) (o := .cells #[.slice A0_0 l0_0.length c0_0] 30 (0, 0)) (by (with_reducible repeat (first | refine blk_drewN ?_ _ | refine blk_drew ?_ | refine blk_alloc ?_ _)); exact BK184.out) hb); have n1_ := Aside0.mk (below_step (by repeat (first | (with_reducible first | exact HB.out | apply below_alloc | apply pw_below_drewN | apply below_drew1 | refine below_set ?_ GE184.out) | exact HB.out)) hb); have n2_ := Aside0.mk (hbox); have n3_ := Aside0.mk ((by rw [hg]; exact (below_size (by repeat (first | (with_reducible first | exact HB.out | apply below_alloc | apply pw_below_drewN | apply below_drew1 | refine below_set ?_ GE184.out) | exact HB.out))) : w.heap.size ≤ gb185)); have n4_ := Aside0.mk ((by rw [hg]; exact (below_size (by repeat (first | (with_reducible first | exact HB.out | apply below_alloc | apply pw_below_drewN | apply below_drew1 | refine below_set ?_ GE184.out) | exact HB.out))) : w.heap.size ≤ gb185)); have n5_ := Aside0.mk ((by rw [hg]; exact Nat.ne_of_lt (blk_lt (g := gb184) (o := .cells #[.slice A0_0 l0_0.length c0_0] 30 (0, 0)) (by (with_reducible repeat (first | refine blk_drewN ?_ _ | refine blk_drew ?_ | refine blk_alloc ?_ _)); exact BK184.out)) : gb184 ≠ gb185)); have n6_ := Aside0.mk ((by rw [hg]; exact Nat.ne_of_gt (blk_lt (g := gb184) (o := .cells #[.slice A0_0 l0_0.length c0_0] 30 (0, 0)) (by (with_reducible repeat (first | refine blk_drewN ?_ _ | refine blk_drew ?_ | refine blk_alloc ?_ _)); exact BK184.out)) : gb185 ≠ gb184)); clear BK184; clear HB; have BK184 := n0_; have HB := n1_; have BK185 := n2_; have GW185 := n3_; have GE185 := n4_; have NB184_185 := n5_; have NB185_184 := n6_; clear n0_ n1_ n2_ n3_ n4_ n5_ n6_; clear hb hbox hg))
  (try simp only [Act.put, List.setIfInBounds_toArray, List.set_cons_zero, List.set_cons_succ])
  go_cut [29] (fun v29 wc => ∃ (kq : Nat) (x29_4 : Bool), v29 = .bool x29_4 ∧ Aside0 (spec_ExpectedSteps.j0 kq a1 a2 a3 x29_4 l0_0 = some (r1, r2, r3)) ∧ Aside0 (kq ≤ k) ∧ Aside0 (wc.heap[gb184]? = some (.cells #[(.slice A0_0 l0_0.length c0_0)] 30 (0, 0))) ∧ Aside0 (wc.heap[gb185]? = some (.cells #[.int .i64 0, .int .i64 0] 27 (0, 0))) ∧ Aside0 (Below w.heap.size w wc))
  case first =>
    have H := HC5.out
    clear HC5
    replace H := Option.bind_eq_some_iff.mp H
    obtain ⟨t186, A80, H⟩ := H
    replace H : (if t186 = true then ((spec_grPlace.f k l0_0 a1).bind fun t187 => (spec_ExpectedSteps.j0 k a1 a2 a3 (!t187) l0_0)) else (spec_ExpectedSteps.j0 k a1 a2 a3 true l0_0)) = some (r1, r2, r3) := H
    have A8 := Aside0.mk A80
    clear A80
    by_cases c9 : t186 = true
    · subst c9
      have H1 : ((spec_grPlace.f k l0_0 a1).bind fun t187 => (spec_ExpectedSteps.j0 k a1 a2 a3 (!t187) l0_0)) = some (r1, r2, r3) := by rw [if_pos rfl] at H; exact H
      clear H
      have H := H1
      clear H1
      replace H := Option.bind_eq_some_iff.mp H
      obtain ⟨t187, A100, H⟩ := H
      replace H : (spec_ExpectedSteps.j0 k a1 a2 a3 (!t187) l0_0) = some (r1, r2, r3) := H
      have A10 := Aside0.mk A100
      clear A100
      have H' := Aside0.mk H
      clear H
      have hnb11 := NB184_185.out
      have hnc11 := NB185_184.out
      have hcz12_0 : w7.cell? ⟨gb184, 0, none⟩ = some (.slice A0_0 l0_0.length c0_0) := (blk_cell BK184.out 0).trans rfl
      have hfz12_0 := blk_frozen BK184.out 0
      go_wp2_with (first | ((with_reducible refine gate_callee (f := 87) rfl ?_); refine goesL_ (some 22) rfl rfl Try.func87 (by kernel_rfl) rfl #[.agg #[.slice A0_0 l0_0.length c0_0], .int .i64 a2, .int .i64 a3] rfl (by (try simp only [List.map_toArray, List.map_cons, List.map_nil]); first | done | rfl | (simp only [List.length_drop, List.length_take]; rfl)) ?_; (with_reducible refine (spec_hiGood.calls k _ _ l0_0 a2 a3 true _ ?side1 ?side2 A8.out).mono ?_); (case side1 => repeat (first | exact (Kd.C_below HR0_0.out HB.out) | (with_reducible refine Kd.C_alloc ?_ _) | (with_reducible refine Kd.C_drewN ?_ _) | (with_reducible refine Kd.C_drew ?_))); (case side2 => exact HC0_0.out); rintro e w13 ⟨rfl, hb⟩; refine ⟨_, rfl, ?_⟩; have n0_ := Aside0.mk (blk_below (g := gb184) (o := .cells #[.slice A0_0 l0_0.length c0_0] 30 (0, 0)) (by (with_reducible repeat (first | refine blk_drewN ?_ _ | refine blk_drew ?_ | refine blk_alloc ?_ _)); exact BK184.out) hb); have n1_ := Aside0.mk (blk_below (g := gb185) (o := .cells #[.int .i64 0, .int .i64 0] 27 (0, 0)) (by (with_reducible repeat (first | refine blk_drewN ?_ _ | refine blk_drew ?_ | refine blk_alloc ?_ _)); exact BK185.out) hb); have n2_ := Aside0.mk (below_step (by repeat (first | (with_reducible first | exact HB.out | apply below_alloc | apply pw_below_drewN | apply below_drew1 | refine below_set ?_ GE184.out | refine below_set ?_ GE185.out) | exact HB.out)) hb); clear BK184; clear BK185; clear HB; have BK184 := n0_; have BK185 := n1_; have HB := n2_; clear n0_ n1_ n2_; (try clear hb); (try clear hb2); (try clear hk); (try clear hi); have hcz14_0 : w13.cell? ⟨gb184, 0, none⟩ = some (.slice A0_0 l0_0.length c0_0) := (blk_cell BK184.out 0).trans rfl; have hfz14_0 := blk_frozen BK184.out 0) | (go_at_call 72; (with_reducible refine (spec_grPlace.calls k _ _ l0_0 a1 t187 _ ?side1 ?side2 A10.out).mono ?_); (case side1 => repeat (first | exact (Kd.C_below HR0_0.out HB.out) | (with_reducible refine Kd.C_alloc ?_ _) | (with_reducible refine Kd.C_drewN ?_ _) | (with_reducible refine Kd.C_drew ?_))); (case side2 => exact HC0_0.out); rintro e w15 ⟨rfl, hb⟩; have n0_ := Aside0.mk (blk_below (g := gb184) (o := .cells #[.slice A0_0 l0_0.length c0_0] 30 (0, 0)) (by (with_reducible repeat (first | refine blk_drewN ?_ _ | refine blk_drew ?_ | refine blk_alloc ?_ _)); exact BK184.out) hb); have n1_ := Aside0.mk (blk_below (g := gb185) (o := .cells #[.int .i64 0, .int .i64 0] 27 (0, 0)) (by (with_reducible repeat (first | refine blk_drewN ?_ _ | refine blk_drew ?_ | refine blk_alloc ?_ _)); exact BK185.out) hb); have n2_ := Aside0.mk (below_step (by repeat (first | (with_reducible first | exact HB.out | apply below_alloc | apply pw_below_drewN | apply below_drew1 | refine below_set ?_ GE184.out | refine below_set ?_ GE185.out) | exact HB.out)) hb); clear BK184; clear BK185; clear HB; have BK184 := n0_; have BK185 := n1_; have HB := n2_; clear n0_ n1_ n2_; (try clear hb); (try clear hb2); (try clear hk); (try clear hi)))
      go_meet
      case rel => exact ⟨_, (!t187), (by first | rfl | (simp; done) | (simp [*]; done)), H', ⟨by first | omega | exact Nat.le_refl _⟩, ⟨by (with_reducible repeat (first | refine blk_drewN ?_ _ | refine blk_drew ?_ | refine blk_alloc ?_ _)); exact BK184.out⟩, ⟨by (with_reducible repeat (first | refine blk_drewN ?_ _ | refine blk_drew ?_ | refine blk_alloc ?_ _)); exact BK185.out⟩, ⟨by repeat (first | (with_reducible first | exact HB.out | apply below_alloc | apply pw_below_drewN | apply below_drew1 | refine below_set ?_ GE184.out | refine below_set ?_ GE185.out) | exact HB.out)⟩⟩
    · replace c9 := Bool.eq_false_iff.mpr c9
      subst c9
      have H1 : (spec_ExpectedSteps.j0 k a1 a2 a3 true l0_0) = some (r1, r2, r3) := by rw [if_neg (show ¬ (false = true) by decide)] at H; exact H
      clear H
      have H := H1
      clear H1
      have H' := Aside0.mk H
      clear H
      have hnb16 := NB184_185.out
      have hnc16 := NB185_184.out
      have hcz17_0 : w7.cell? ⟨gb184, 0, none⟩ = some (.slice A0_0 l0_0.length c0_0) := (blk_cell BK184.out 0).trans rfl
      have hfz17_0 := blk_frozen BK184.out 0
      go_wp2_with (first | ((with_reducible refine gate_callee (f := 87) rfl ?_); refine goesL_ (some 22) rfl rfl Try.func87 (by kernel_rfl) rfl #[.agg #[.slice A0_0 l0_0.length c0_0], .int .i64 a2, .int .i64 a3] rfl (by (try simp only [List.map_toArray, List.map_cons, List.map_nil]); first | done | rfl | (simp only [List.length_drop, List.length_take]; rfl)) ?_; (with_reducible refine (spec_hiGood.calls k _ _ l0_0 a2 a3 false _ ?side1 ?side2 A8.out).mono ?_); (case side1 => repeat (first | exact (Kd.C_below HR0_0.out HB.out) | (with_reducible refine Kd.C_alloc ?_ _) | (with_reducible refine Kd.C_drewN ?_ _) | (with_reducible refine Kd.C_drew ?_))); (case side2 => exact HC0_0.out); rintro e w18 ⟨rfl, hb⟩; refine ⟨_, rfl, ?_⟩; have n0_ := Aside0.mk (blk_below (g := gb184) (o := .cells #[.slice A0_0 l0_0.length c0_0] 30 (0, 0)) (by (with_reducible repeat (first | refine blk_drewN ?_ _ | refine blk_drew ?_ | refine blk_alloc ?_ _)); exact BK184.out) hb); have n1_ := Aside0.mk (blk_below (g := gb185) (o := .cells #[.int .i64 0, .int .i64 0] 27 (0, 0)) (by (with_reducible repeat (first | refine blk_drewN ?_ _ | refine blk_drew ?_ | refine blk_alloc ?_ _)); exact BK185.out) hb); have n2_ := Aside0.mk (below_step (by repeat (first | (with_reducible first | exact HB.out | apply below_alloc | apply pw_below_drewN | apply below_drew1 | refine below_set ?_ GE184.out | refine below_set ?_ GE185.out) | exact HB.out)) hb); clear BK184; clear BK185; clear HB; have BK184 := n0_; have BK185 := n1_; have HB := n2_; clear n0_ n1_ n2_; (try clear hb); (try clear hb2); (try clear hk); (try clear hi)))
      go_meet
      case rel => exact ⟨_, (true), (by first | rfl | (simp; done) | (simp [*]; done)), H', ⟨by first | omega | exact Nat.le_refl _⟩, ⟨by (with_reducible repeat (first | refine blk_drewN ?_ _ | refine blk_drew ?_ | refine blk_alloc ?_ _)); exact BK184.out⟩, ⟨by (with_reducible repeat (first | refine blk_drewN ?_ _ | refine blk_drew ?_ | refine blk_alloc ?_ _)); exact BK185.out⟩, ⟨by repeat (first | (with_reducible first | exact HB.out | apply below_alloc | apply pw_below_drewN | apply below_drew1 | refine below_set ?_ GE184.out | refine below_set ?_ GE185.out) | exact HB.out)⟩⟩
  case rest =>
    clear HC5
    try clear c1
    try clear p2
    try clear c4
    try clear c8
    try clear c9
    try clear c11
    try clear c16
    try clear hcz12_0
    try clear hcz14_0
    try clear hcz17_0
    try clear hfz12_0
    try clear hfz14_0
    try clear hfz17_0
    obtain ⟨kq, x29_4, rfl, HA, HJ4, BK184, BK185, HB⟩ := hcut
    cases kq with
    | zero => exact absurd HA.out (by simp [spec_ExpectedSteps.j0])
    | succ kj4 =>
      have H := HA.out
      clear HA
      simp only [spec_ExpectedSteps.j0] at H
      by_cases c19 : x29_4 = true
      · subst c19
        have H1 : (some (0, 0, false)) = some (r1, r2, r3) := by rw [if_pos rfl] at H; exact H
        clear H
        have H := H1
        clear H1
        simp only [Option.some.injEq, Prod.mk.injEq] at H
        obtain ⟨rfl, rfl, rfl⟩ := H
        have hnb20 := NB185_184.out
        have hnc20 := NB184_185.out
        have hcz21_0 : wc.cell? ⟨gb185, 0, none⟩ = some (.int .i64 0) := (blk_cell BK185.out 0).trans rfl
        have hcz21_1 : wc.cell? ⟨gb185, 1, none⟩ = some (.int .i64 0) := (blk_cell BK185.out 1).trans rfl
        have hfz21_0 := blk_frozen BK185.out 0
        have hfz21_1 := blk_frozen BK185.out 1
        go_wp2
        refine bodyPost_ret (results_ct rfl _ _ gb185 27 #[.int .i64 0, .int .i64 0] (0, 0) _ rfl (by (with_reducible repeat (first | refine blk_drewN ?_ _ | refine blk_drew ?_ | refine blk_alloc ?_ _)); refine blk_put (cs := #[.int .i64 0, .int .i64 0]) ?_ 1 _ rfl; (with_reducible repeat (first | refine blk_drewN ?_ _ | refine blk_drew ?_ | refine blk_alloc ?_ _)); refine blk_put (cs := #[.int .i64 0, .int .i64 0]) ?_ 0 _ rfl; (with_reducible repeat (first | refine blk_drewN ?_ _ | refine blk_drew ?_ | refine blk_alloc ?_ _)); exact BK185.out) Try.underlying27 rfl (by kernel_rfl)) rfl ?_
        exact ⟨by first | rfl | (simp [errW_none, errW_some] <;> rfl) | (simp [*, errW_none, errW_some] <;> rfl), by repeat (first | (with_reducible first | exact HB.out | apply below_alloc | apply pw_below_drewN | apply below_drew1 | refine below_set ?_ GE184.out | refine below_set ?_ GE185.out) | exact HB.out)⟩
      · replace c19 := Bool.eq_false_iff.mpr c19
        subst c19
        have H1 : ((spec_hiMatrix.f l0_0 a2 a3).bind fun bt188 => (spec_ExpectedSteps.l0 kj4 a1 bt188.1 bt188.2 ([] : List Int) bt188.1 (bt188.1.length : Int) 0 l0_0)) = some (r1, r2, r3) := by rw [if_neg (show ¬ (false = true) by decide)] at H; exact H
        clear H
        have H := H1
        clear H1
        replace H := Option.bind_eq_some_iff.mp H
        obtain ⟨⟨t188, t191⟩, A220, H⟩ := H
        replace H : (spec_ExpectedSteps.l0 kj4 a1 t188 t191 ([] : List Int) t188 (t188.length : Int) 0 l0_0) = some (r1, r2, r3) := H
        have A22 := Aside0.mk A220
        clear A220
        have H' := Aside0.mk H
        clear H
        have hnb23 := NB184_185.out
        have hnc23 := NB185_184.out
        have hcz24_0 : wc.cell? ⟨gb184, 0, none⟩ = some (.slice A0_0 l0_0.length c0_0) := (blk_cell BK184.out 0).trans rfl
        have hfz24_0 := blk_frozen BK184.out 0
        go_wp2_with (first | ((with_reducible refine gate_callee (f := 88) rfl ?_); refine goesL_ (some 35) rfl rfl Try.func88 (by kernel_rfl) rfl #[.agg #[.slice A0_0 l0_0.length c0_0], .int .i64 a2, .int .i64 a3] rfl (by (try simp only [List.map_toArray, List.map_cons, List.map_nil]); first | done | rfl | (simp only [List.length_drop, List.length_take]; rfl)) ?_; (with_reducible refine (spec_hiMatrix.calls _ _ l0_0 a2 a3 t188 t191 _ ?side1 ?side2 A22.out).mono ?_); (case side1 => repeat (first | exact (Kd.C_below HR0_0.out HB.out) | (with_reducible refine Kd.C_alloc ?_ _) | (with_reducible refine Kd.C_drewN ?_ _) | (with_reducible refine Kd.C_drew ?_))); (case side2 => exact HC0_0.out); rintro e w25 ⟨v189, v192, rfl, ho0, ho1, hb⟩; refine ⟨_, rfl, ?_⟩; have n0_ := Aside0.mk (Kd.R_lower ho0 (below_size (by repeat (first | (with_reducible first | exact HB.out | apply below_alloc | apply pw_below_drewN | apply below_drew1 | refine below_set ?_ GE184.out | refine below_set ?_ GE185.out) | exact HB.out)))); have n1_ := Aside0.mk (Kd.S_lower ho1 (below_size (by repeat (first | (with_reducible first | exact HB.out | apply below_alloc | apply pw_below_drewN | apply below_drew1 | refine below_set ?_ GE184.out | refine below_set ?_ GE185.out) | exact HB.out)))); have n2_ := Aside0.mk (blk_below (g := gb184) (o := .cells #[.slice A0_0 l0_0.length c0_0] 30 (0, 0)) (by (with_reducible repeat (first | refine blk_drewN ?_ _ | refine blk_drew ?_ | refine blk_alloc ?_ _)); exact BK184.out) hb); have n3_ := Aside0.mk (blk_below (g := gb185) (o := .cells #[.int .i64 0, .int .i64 0] 27 (0, 0)) (by (with_reducible repeat (first | refine blk_drewN ?_ _ | refine blk_drew ?_ | refine blk_alloc ?_ _)); exact BK185.out) hb); have n4_ := Aside0.mk (below_step (by repeat (first | (with_reducible first | exact HB.out | apply below_alloc | apply pw_below_drewN | apply below_drew1 | refine below_set ?_ GE184.out | refine below_set ?_ GE185.out) | exact HB.out)) hb); clear BK184; clear BK185; clear HB; have HO190 := n0_; have HO193 := n1_; have BK184 := n2_; have BK185 := n3_; have HB := n4_; clear n0_ n1_ n2_ n3_ n4_; (try clear hb); (try clear hb2); (try clear hk); (try clear hi); (try clear ho0); (try clear ho1); obtain ⟨Ao26, co26, eo26⟩ := Kd.R_slice HO190.out; subst eo26))
        go_loopg [12, 40] kj4 (fun kq v12 v40 w' => ∃ (x12_2 : List Int) (x40_2 : Int), v40 = .int .i64 x40_2 ∧ Aside0 (spec_ExpectedSteps.l0 kq a1 t188 t191 x12_2 t188 (t188.length : Int) x40_2 l0_0 = some (r1, r2, r3)) ∧ Aside0 (kq ≤ kj4) ∧ Aside0 (Kd.R (Kd.int .i64) 3 w' w.heap.size (fun k_ => some k_ ≠ (v12 : Value).ownBlock) (.slice Ao26 t188.length co26) t188) ∧ Aside0 (Kd.S (Kd.slice 3 (Kd.int .i64)) 37 w' w.heap.size (fun k_ => some k_ ≠ ((.slice Ao26 t188.length co26) : Value).ownBlock ∧ some k_ ≠ (v12 : Value).ownBlock ∧ some k_ ≠ ((.slice Ao26 t188.length co26) : Value).ownBlock) v192 t191) ∧ Aside0 (Kd.R (Kd.int .i64) 3 w' w.heap.size (fun k_ => some k_ ≠ ((.slice Ao26 t188.length co26) : Value).ownBlock ∧ some k_ ≠ ((.slice Ao26 t188.length co26) : Value).ownBlock) v12 x12_2) ∧ Aside0 (Kd.R (Kd.int .i64) 3 w' w.heap.size (fun k_ => some k_ ≠ (v12 : Value).ownBlock) (.slice Ao26 t188.length co26) t188) ∧ Aside0 (w'.heap[gb184]? = some (.cells #[(.slice A0_0 l0_0.length c0_0)] 30 (0, 0))) ∧ Aside0 (w'.heap[gb185]? = some (.cells #[.int .i64 0, .int .i64 0] 27 (0, 0))) ∧ Aside0 (Below w.heap.size w w'))
        case atStart => exact ⟨(([] : List Int)), (0), (by first | rfl | (simp; done) | (simp [*]; done)), H', ⟨Nat.le_refl _⟩, ⟨by (with_reducible repeat (first | apply Kd.R_alloc | apply Kd.R_drewN | apply Kd.R_drew)); exact Kd.R_mono HO190.out (fun _ hk => (by simp [Value.ownBlock]))⟩, ⟨by (with_reducible repeat (first | apply Kd.S_alloc | apply Kd.S_drewN | apply Kd.S_drew)); exact Kd.S_mono HO193.out (fun _ hk => ⟨hk, ⟨(by simp [Value.ownBlock]), hk⟩⟩)⟩, ⟨by first | exact Kd.R_nil _ _ _ _ _ | exact Kd.N_nil _ _ _ _ _ | exact Kd.V_nil _ _ _ _ _ | exact Kd.Q_nil _ _ _ _ _ | exact Kd.S_nil _ _ _ _ _⟩, ⟨by (with_reducible repeat (first | apply Kd.R_alloc | apply Kd.R_drewN | apply Kd.R_drew)); exact Kd.R_mono HO190.out (fun _ hk => (by simp [Value.ownBlock]))⟩, ⟨by (with_reducible repeat (first | refine blk_drewN ?_ _ | refine blk_drew ?_ | refine blk_alloc ?_ _)); exact BK184.out⟩, ⟨by (with_reducible repeat (first | refine blk_drewN ?_ _ | refine blk_drew ?_ | refine blk_alloc ?_ _)); exact BK185.out⟩, ⟨by repeat (first | (with_reducible first | exact HB.out | apply below_alloc | apply pw_below_drewN | apply below_drew1 | refine below_set ?_ GE184.out | refine below_set ?_ GE185.out) | exact HB.out)⟩⟩
        case round =>
          clear H'
          try clear c1
          try clear c2
          try clear p2
          try clear c4
          try clear c8
          try clear c9
          try clear c11
          try clear c16
          try clear c19
          try clear c20
          try clear c23
          try clear hcz12_0
          try clear hcz14_0
          try clear hcz17_0
          try clear hcz21_0
          try clear hcz21_1
          try clear hcz24_0
          try clear hfz12_0
          try clear hfz14_0
          try clear hfz17_0
          try clear hfz21_0
          try clear hfz21_1
          try clear hfz24_0
          try clear p2
          obtain ⟨x12_2, x40_2, rfl, HA, HK2, HO_10, HO_11, HO_12, HO_38, BK184, BK185, HB⟩ := hrel
          cases gk with
          | zero => exact absurd HA.out (by simp [spec_ExpectedSteps.l0])
          | succ k2 =>
            have H := HA.out
            clear HA
            simp only [spec_ExpectedSteps.l0] at H
            by_cases c27 : x40_2 < (t188.length : Int)
            · rw [if_pos c27] at H
              have c27b0 : decide (x40_2 < (t188.length : Int)) = true := decide_eq_true c27
              clear c27
              by_cases c28 : 0 ≤ x40_2
              · rw [if_pos c28] at H
                have c28b0 : decide (0 ≤ x40_2) = true := decide_eq_true c28
                clear c28
                by_cases c29 : x40_2 < (t188.length : Int)
                · rw [if_pos c29] at H
                  have c29b0 : decide (x40_2 < (t188.length : Int)) = true := decide_eq_true c29
                  clear c29
                  by_cases c30 : 0 ≤ (rd t188 x40_2)
                  · rw [if_pos c30] at H
                    have c30b0 : decide (0 ≤ (rd t188 x40_2)) = true := decide_eq_true c30
                    clear c30
                    by_cases c31 : (rd t188 x40_2) < (l0_0.length : Int)
                    · rw [if_pos c31] at H
                      have c31b0 : decide ((rd t188 x40_2) < (l0_0.length : Int)) = true := decide_eq_true c31
                      clear c31
                      by_cases c32 : x12_2.length < 17592186044416
                      · rw [if_pos c32] at H
                        have LMc32 := Aside0.mk c32
                        clear c32
                        obtain ⟨y196, hy196⟩ : ∃ y_ : List Int, y_ = (x12_2 ++ [((rd_L1 l0_0 (rd t188 x40_2)).length : Int)]) := ⟨_, rfl⟩
                        replace H : (spec_ExpectedSteps.l0 k2 a1 t188 t191 y196 t188 (t188.length : Int) (wrap64 (x40_2 + 1)) l0_0) = some (r1, r2, r3) := by first | (rw [hy196]; with_reducible exact H) | (have H2_ := (Option.bind_some _ _).symm.trans H; rw [hy196]; with_reducible exact H2_) | (have H2_ := (Option.bind_some _ _).symm.trans H; with_reducible exact H2_) | with_reducible exact H | (rw [hy196]; exact H) | exact H
                        have Ny196 := Aside0.mk hy196
                        clear hy196
                        have H' := Aside0.mk H
                        clear H
                        have p194 : 0 ≤ (x40_2 : Int) := of_decide_eq_true (by first | (with_reducible assumption) | assumption)
                        have q194 : x40_2 < (t188.length : Int) := of_decide_eq_true (by first | (with_reducible assumption) | assumption)
                        obtain ⟨ad194, e194, hx194_0⟩ := Kd.at_int (Kd.R_reads' HO_38.out).2.2 x40_2 p194 q194
                        cases e194
                        replace p194 := eq_true p194
                        replace q194 := eq_true q194
                        have hnb33 := NB184_185.out
                        have hnc33 := NB185_184.out
                        have hcz34_0 : wr.cell? ⟨gb184, 0, none⟩ = some (.slice A0_0 l0_0.length c0_0) := (blk_cell BK184.out 0).trans rfl
                        have hfz34_0 := blk_frozen BK184.out 0
                        have p195 : 0 ≤ ((rd t188 x40_2) : Int) := of_decide_eq_true (by first | (with_reducible assumption) | assumption)
                        have q195 : (rd t188 x40_2) < (l0_0.length : Int) := of_decide_eq_true (by first | (with_reducible assumption) | assumption)
                        obtain ⟨ad195, A195_0, c195_0, e195, hx195_0, hl195_0, hi195_0⟩ := at_L1 HR0_0.out (rd t188 x40_2) p195 q195
                        cases e195
                        replace hx195_0 := (HB.out.cell (World.block_lt_of_cell? w _ hx195_0)).trans hx195_0
                        have HR195_0 := Aside0.mk hi195_0
                        have HC195_0 := Aside0.mk hl195_0
                        clear hi195_0 hl195_0
                        replace p195 := eq_true p195
                        replace q195 := eq_true q195
                        go_wp2_with (first | ((with_reducible refine gate_builtin (b := .append) (xs := #[.tmp 44, .tmp 51]) rfl ?_); at_builtin; refine Kd.R_append (Kd.int .i64) (w0 := w) w.heap.size rfl (.tmp 44) (.tmp 51) 37 3 (.int .i64 0) 8 rfl Try.underlying37 info3 rfl (by decide) (by omega) u12 x12_2 ((rd_L1 l0_0 (rd t188 x40_2)).length : Int) [.int .i64 ((rd_L1 l0_0 (rd t188 x40_2)).length : Int)] (fun k_ => some k_ ≠ (.slice (some ad194) t188.length co26 : Value).ownBlock ∧ some k_ ≠ (.slice (some ad194) t188.length co26 : Value).ownBlock) (fun _ => False) rfl rfl ?aP (fun _ hk => hk.elim) ?aF ?aO ?aB ?aS ?aL ?_; (case aP => exact rfl); (case aB => exact (by repeat (first | (with_reducible first | exact HB.out | apply below_alloc | apply pw_below_drewN | apply below_drew1 | refine below_set ?_ GE184.out | refine below_set ?_ GE185.out) | exact HB.out))); (case aF => exact (fun k_ hk => ⟨Kd.fresh' (Kd.R_lt (by (with_reducible repeat (first | apply Kd.R_alloc | apply Kd.R_drewN | apply Kd.R_drew)); exact HO_10.out)) k_ hk, Kd.fresh' (Kd.R_lt (by (with_reducible repeat (first | apply Kd.R_alloc | apply Kd.R_drewN | apply Kd.R_drew)); exact HO_38.out)) k_ hk⟩)); (case aO => exact (by (with_reducible repeat (first | apply Kd.R_alloc | apply Kd.R_drewN | apply Kd.R_drew)); exact HO_12.out)); (case aS => exact (below_size (by repeat (first | (with_reducible first | exact HB.out | apply below_alloc | apply pw_below_drewN | apply below_drew1 | refine below_set ?_ GE184.out | refine below_set ?_ GE185.out) | exact HB.out)))); (case aL => have := LMc32.out; omega); intro v197 w35 ho hb hg hat; rw [← Ny196.out] at ho; have n0_ := Aside0.mk (Kd.R_after (ok := (fun _ => True)) (by (with_reducible repeat (first | apply Kd.R_alloc | apply Kd.R_drewN | apply Kd.R_drew)); exact Kd.R_mono HO_10.out (fun _ hk => ⟨trivial, hk⟩)) hg hat); have n1_ := Aside0.mk (Kd.S_after (ok := (fun k_ => some k_ ≠ (.slice (some ad194) t188.length co26 : Value).ownBlock ∧ some k_ ≠ (.slice (some ad194) t188.length co26 : Value).ownBlock)) (by (with_reducible repeat (first | apply Kd.S_alloc | apply Kd.S_drewN | apply Kd.S_drew)); exact Kd.S_mono HO_11.out (fun _ hk => ⟨⟨hk.1, hk.2.2⟩, hk.2.1⟩)) hg hat); have n2_ := Aside0.mk (Kd.R_after (ok := (fun _ => True)) (by (with_reducible repeat (first | apply Kd.R_alloc | apply Kd.R_drewN | apply Kd.R_drew)); exact Kd.R_mono HO_38.out (fun _ hk => ⟨trivial, hk⟩)) hg hat); have n3_ := Aside0.mk (blk_grown (g := gb184) (o := .cells #[.slice (some ad195) l0_0.length c0_0] 30 (0, 0)) (by (with_reducible repeat (first | refine blk_drewN ?_ _ | refine blk_drew ?_ | refine blk_alloc ?_ _)); exact BK184.out) hg (Kd.R_ne HO_12.out BK184.out (by decide))); have n4_ := Aside0.mk (blk_grown (g := gb185) (o := .cells #[.int .i64 0, .int .i64 0] 27 (0, 0)) (by (with_reducible repeat (first | refine blk_drewN ?_ _ | refine blk_drew ?_ | refine blk_alloc ?_ _)); exact BK185.out) hg (Kd.R_ne HO_12.out BK185.out (by decide))); have n5_ := Aside0.mk (hb); have n6_ := Aside0.mk (ho); clear HO_10; clear HO_11; clear HO_38; clear BK184; clear BK185; clear HB; clear HO_12; have HO_10 := n0_; have HO_11 := n1_; have HO_38 := n2_; have BK184 := n3_; have BK185 := n4_; have HB := n5_; have HO198 := n6_; clear n0_ n1_ n2_ n3_ n4_ n5_ n6_; clear ho hb hg hat))
                        go_roundg k2
                        case measure => have := HJ4.out; have := HK2.out; omega
                        case rel => exact ⟨(y196), (wrap64 (x40_2 + 1)), (by first | rfl | (simp; done) | (simp [*]; done)), H', ⟨by have := HJ4.out; have := HK2.out; omega⟩, ⟨by (with_reducible repeat (first | apply Kd.R_alloc | apply Kd.R_drewN | apply Kd.R_drew)); exact Kd.R_mono HO_10.out (fun _ hk => hk.2)⟩, ⟨by (with_reducible repeat (first | apply Kd.S_alloc | apply Kd.S_drewN | apply Kd.S_drew)); exact Kd.S_mono HO_11.out (fun _ hk => ⟨hk.1.1, ⟨hk.2, hk.1.2⟩⟩)⟩, ⟨by (with_reducible repeat (first | apply Kd.R_alloc | apply Kd.R_drewN | apply Kd.R_drew)); exact HO198.out⟩, ⟨by (with_reducible repeat (first | apply Kd.R_alloc | apply Kd.R_drewN | apply Kd.R_drew)); exact Kd.R_mono HO_38.out (fun _ hk => hk.2)⟩, ⟨by (with_reducible repeat (first | refine blk_drewN ?_ _ | refine blk_drew ?_ | refine blk_alloc ?_ _)); exact BK184.out⟩, ⟨by (with_reducible repeat (first | refine blk_drewN ?_ _ | refine blk_drew ?_ | refine blk_alloc ?_ _)); exact BK185.out⟩, ⟨by repeat (first | (with_reducible first | exact HB.out | apply below_alloc | apply pw_below_drewN | apply below_drew1 | refine below_set ?_ GE184.out | refine below_set ?_ GE185.out) | exact HB.out)⟩⟩
                      · rw [if_neg c32] at H
                        exact absurd H (by simp)
                    · rw [if_neg c31] at H
                      exact absurd H (by simp)
                  · rw [if_neg c30] at H
                    exact absurd H (by simp)
                · rw [if_neg c29] at H
                  exact absurd H (by simp)
              · rw [if_neg c28] at H
                exact absurd H (by simp)
            · rw [if_neg c27] at H
              have c27b0 : decide (x40_2 < (t188.length : Int)) = false := decide_eq_false c27
              clear c27
              replace H := Option.bind_eq_some_iff.mp H
              obtain ⟨⟨t199, t200⟩, A360, H⟩ := H
              replace H : (spec_ExpectedSteps.l1 k2 a1 t199 t200 t188 (t188.length : Int) 0) = some (r1, r2, r3) := H
              have A36 := Aside0.mk A360
              clear A360
              have H' := Aside0.mk H
              clear H
              obtain ⟨Ao37, co37, eo37⟩ := Kd.S_slice HO_11.out
              subst eo37
              obtain ⟨Ao38, co38, eo38⟩ := Kd.R_slice HO_12.out
              subst eo38
              go_wp2_with (first | ((with_reducible refine gate_callee (f := 89) rfl ?_); refine goesL_ (some 57) rfl rfl Try.func89 (by kernel_rfl) rfl #[.slice Ao37 t191.length co37, .slice Ao38 x12_2.length co38] rfl (by (try simp only [List.map_toArray, List.map_cons, List.map_nil]); first | done | rfl | (simp only [List.length_drop, List.length_take]; rfl)) ?_; (with_reducible refine (spec_hiSolve.calls k2 _ _ t191 _ _ x12_2 t199 t200 _ ?side1 ?side2 ?side3 ?side4 A36.out).mono ?_); (case side1 => repeat (first | exact (Kd.S_reads' HO_11.out).2.2 | (with_reducible refine Kd.C_alloc ?_ _) | (with_reducible refine Kd.C_drewN ?_ _) | (with_reducible refine Kd.C_drew ?_))); (case side2 => exact (Kd.S_reads' HO_11.out).2.1); (case side3 => repeat (first | exact (Kd.R_reads' HO_12.out).2.2 | (with_reducible refine Kd.C_alloc ?_ _) | (with_reducible refine Kd.C_drewN ?_ _) | (with_reducible refine Kd.C_drew ?_))); (case side4 => exact (Kd.R_reads' HO_12.out).2.1); rintro e w39 ⟨v201, rfl, ho0, hb⟩; refine ⟨_, rfl, ?_⟩; have n0_ := Aside0.mk (Kd.R_elder' (by (with_reducible repeat (first | apply Kd.R_alloc | apply Kd.R_drewN | apply Kd.R_drew)); exact HO_10.out) (Kd.R_base ho0) hb); have n1_ := Aside0.mk (Kd.S_elder' (by (with_reducible repeat (first | apply Kd.S_alloc | apply Kd.S_drewN | apply Kd.S_drew)); exact HO_11.out) (Kd.R_base ho0) hb); have n2_ := Aside0.mk (Kd.R_elder' (by (with_reducible repeat (first | apply Kd.R_alloc | apply Kd.R_drewN | apply Kd.R_drew)); exact HO_12.out) (Kd.R_base ho0) hb); have n3_ := Aside0.mk (Kd.R_elder' (by (with_reducible repeat (first | apply Kd.R_alloc | apply Kd.R_drewN | apply Kd.R_drew)); exact HO_38.out) (Kd.R_base ho0) hb); have n4_ := Aside0.mk (Kd.R_lower (Kd.R_new' (Kd.R_new' (Kd.R_new' ho0 (Kd.R_lt (by (with_reducible repeat (first | apply Kd.R_alloc | apply Kd.R_drewN | apply Kd.R_drew)); exact HO_10.out))) (Kd.R_lt (by (with_reducible repeat (first | apply Kd.R_alloc | apply Kd.R_drewN | apply Kd.R_drew)); exact HO_12.out))) (Kd.R_lt (by (with_reducible repeat (first | apply Kd.R_alloc | apply Kd.R_drewN | apply Kd.R_drew)); exact HO_38.out))) (below_size (by repeat (first | (with_reducible first | exact HB.out | apply below_alloc | apply pw_below_drewN | apply below_drew1 | refine below_set ?_ GE184.out | refine below_set ?_ GE185.out) | exact HB.out)))); have n5_ := Aside0.mk (blk_below (g := gb184) (o := .cells #[.slice A0_0 l0_0.length c0_0] 30 (0, 0)) (by (with_reducible repeat (first | refine blk_drewN ?_ _ | refine blk_drew ?_ | refine blk_alloc ?_ _)); exact BK184.out) hb); have n6_ := Aside0.mk (blk_below (g := gb185) (o := .cells #[.int .i64 0, .int .i64 0] 27 (0, 0)) (by (with_reducible repeat (first | refine blk_drewN ?_ _ | refine blk_drew ?_ | refine blk_alloc ?_ _)); exact BK185.out) hb); have n7_ := Aside0.mk (below_step (by repeat (first | (with_reducible first | exact HB.out | apply below_alloc | apply pw_below_drewN | apply below_drew1 | refine below_set ?_ GE184.out | refine below_set ?_ GE185.out) | exact HB.out)) hb); clear HO_10; clear HO_11; clear HO_12; clear HO_38; clear BK184; clear BK185; clear HB; have HO_10 := n0_; have HO_11 := n1_; have HO_12 := n2_; have HO_38 := n3_; have HO202 := n4_; have BK184 := n5_; have BK185 := n6_; have HB := n7_; clear n0_ n1_ n2_ n3_ n4_ n5_ n6_ n7_; (try clear hb); (try clear hb2); (try clear hk); (try clear hi); (try clear ho0)))
              go_loopg [62] k2 (fun kq v62 w' => ∃ (x62_3 : Int) (x186000_3 : Int) (x186001_3 : Int), v62 = .int .i64 x62_3 ∧ Aside0 (spec_ExpectedSteps.l1 kq a1 t199 t200 t188 (t188.length : Int) x62_3 = some (r1, r2, r3)) ∧ Aside0 (kq ≤ k2) ∧ Aside0 (Kd.R (Kd.int .i64) 3 w' w.heap.size (fun k_ => some k_ ≠ ((.slice Ao26 t188.length co26) : Value).ownBlock) v201 t199) ∧ Aside0 (Kd.R (Kd.int .i64) 3 w' w.heap.size (fun k_ => some k_ ≠ (v201 : Value).ownBlock) (.slice Ao26 t188.length co26) t188) ∧ Aside0 (w'.heap[gb184]? = some (.cells #[(.slice A0_0 l0_0.length c0_0)] 30 (0, 0))) ∧ Aside0 (w'.heap[gb185]? = some (.cells #[.int .i64 x186000_3, .int .i64 x186001_3] 27 (0, 0))) ∧ Aside0 (Below w.heap.size w w'))
              case atStart => exact ⟨(0), (0), (0), (by first | rfl | (simp; done) | (simp [*]; done)), H', ⟨Nat.le_refl _⟩, ⟨by (with_reducible repeat (first | apply Kd.R_alloc | apply Kd.R_drewN | apply Kd.R_drew)); exact Kd.R_mono HO202.out (fun _ hk => hk.1.1.2)⟩, ⟨by (with_reducible repeat (first | apply Kd.R_alloc | apply Kd.R_drewN | apply Kd.R_drew)); exact Kd.R_mono HO_10.out (fun _ hk => hk.2)⟩, ⟨by (with_reducible repeat (first | refine blk_drewN ?_ _ | refine blk_drew ?_ | refine blk_alloc ?_ _)); exact BK184.out⟩, ⟨by (with_reducible repeat (first | refine blk_drewN ?_ _ | refine blk_drew ?_ | refine blk_alloc ?_ _)); exact BK185.out⟩, ⟨by repeat (first | (with_reducible first | exact HB.out | apply below_alloc | apply pw_below_drewN | apply below_drew1 | refine below_set ?_ GE184.out | refine below_set ?_ GE185.out) | exact HB.out)⟩⟩
              case round =>
                clear H'
                try clear c1
                try clear p1
                try clear q1
                try clear hx1
                try clear c2
                try clear p2
                try clear c3
                try clear c4
                try clear p6
                try clear c8
                try clear c9
                try clear c11
                try clear c16
                try clear c19
                try clear p19
                try clear q19
                try clear hx19
                try clear c20
                try clear c23
                try clear c27
                try clear c27b0
                try clear c28
                try clear c28b0
                try clear c29
                try clear c29b0
                try clear c30
                try clear c30b0
                try clear c31
                try clear c31b0
                try clear c32
                try clear c33
                try clear hcz12_0
                try clear hcz14_0
                try clear hcz17_0
                try clear hcz21_0
                try clear hcz21_1
                try clear hcz24_0
                try clear hcz34_0
                try clear hfz12_0
                try clear hfz14_0
                try clear hfz17_0
                try clear hfz21_0
                try clear hfz21_1
                try clear hfz24_0
                try clear hfz34_0
                try clear hx194_0
                try clear hx195_0
                try clear p194
                try clear p195
                try clear p2
                try clear q194
                try clear q195
                obtain ⟨x62_3, x186000_3, x186001_3, rfl, HA, HK3, HO_15, HO_60, BK184, BK185, HB⟩ := hrel
                cases gk with
                | zero => exact absurd HA.out (by simp [spec_ExpectedSteps.l1])
                | succ k3 =>
                  have H := HA.out
                  clear HA
                  simp only [spec_ExpectedSteps.l1] at H
                  by_cases c40 : x62_3 < (t188.length : Int)
                  · rw [if_pos c40] at H
                    have c40b0 : decide (x62_3 < (t188.length : Int)) = true := decide_eq_true c40
                    clear c40
                    by_cases c41 : 0 ≤ x62_3
                    · rw [if_pos c41] at H
                      have c41b0 : decide (0 ≤ x62_3) = true := decide_eq_true c41
                      clear c41
                      by_cases c42 : x62_3 < (t188.length : Int)
                      · rw [if_pos c42] at H
                        have c42b0 : decide (x62_3 < (t188.length : Int)) = true := decide_eq_true c42
                        clear c42
                        by_cases c43 : (rd t188 x62_3) = a1
                        · rw [if_pos c43] at H
                          have c43b0 : ((rd t188 x62_3) == a1) = true := beq_iff_eq.mpr c43
                          have c43b1 : ((rd t188 x62_3) != a1) = false := bne_eq_false_iff_eq.mpr c43
                          clear c43
                          by_cases c44 : x62_3 < (t199.length : Int)
                          · rw [if_pos c44] at H
                            have c44b0 : decide (x62_3 < (t199.length : Int)) = true := decide_eq_true c44
                            clear c44
                            replace H := Option.bind_eq_some_iff.mp H
                            obtain ⟨⟨t205, t206⟩, A450, H⟩ := H
                            replace H : (some (t205, t206, true)) = some (r1, r2, r3) := H
                            have A45 := Aside0.mk A450
                            clear A450
                            simp only [Option.some.injEq, Prod.mk.injEq] at H
                            obtain ⟨rfl, rfl, rfl⟩ := H
                            have p203 : 0 ≤ (x62_3 : Int) := of_decide_eq_true (by first | (with_reducible assumption) | assumption)
                            have q203 : x62_3 < (t188.length : Int) := of_decide_eq_true (by first | (with_reducible assumption) | assumption)
                            obtain ⟨ad203, e203, hx203_0⟩ := Kd.at_int (Kd.R_reads' HO_60.out).2.2 x62_3 p203 q203
                            cases e203
                            replace p203 := eq_true p203
                            replace q203 := eq_true q203
                            obtain ⟨Ao46, co46, eo46⟩ := Kd.R_slice HO_15.out
                            subst eo46
                            have p204 : 0 ≤ (x62_3 : Int) := of_decide_eq_true (by first | (with_reducible assumption) | assumption)
                            have q204 : x62_3 < (t199.length : Int) := of_decide_eq_true (by first | (with_reducible assumption) | assumption)
                            obtain ⟨ad204, e204, hx204_0⟩ := Kd.at_int (Kd.R_reads' HO_15.out).2.2 x62_3 p204 q204
                            cases e204
                            replace p204 := eq_true p204
                            replace q204 := eq_true q204
                            go_wp2_with (first | ((with_reducible refine gate_callee (f := 74) rfl ?_); refine goesL_ (some 75) rfl rfl Try.func74 (by kernel_rfl) rfl #[.int .i64 (rd t199 x62_3), .int .i64 t200] rfl (by (try simp only [List.map_toArray, List.map_cons, List.map_nil]); first | done | rfl | (simp only [List.length_drop, List.length_take]; rfl)) ?_; (with_reducible refine (spec_hiRatio.calls k3 (rd t199 x62_3) t200 t205 t206 _ A45.out).mono ?_); rintro e w47 ⟨rfl, hb⟩; refine ⟨_, rfl, ?_⟩; have n0_ := Aside0.mk (Kd.R_below (by (with_reducible repeat (first | apply Kd.R_alloc | apply Kd.R_drewN | apply Kd.R_drew)); exact HO_15.out) hb); have n1_ := Aside0.mk (Kd.R_below (by (with_reducible repeat (first | apply Kd.R_alloc | apply Kd.R_drewN | apply Kd.R_drew)); exact HO_60.out) hb); have n2_ := Aside0.mk (blk_below (g := gb184) (o := .cells #[.slice A0_0 l0_0.length c0_0] 30 (0, 0)) (by (with_reducible repeat (first | refine blk_drewN ?_ _ | refine blk_drew ?_ | refine blk_alloc ?_ _)); exact BK184.out) hb); have n3_ := Aside0.mk (blk_below (g := gb185) (o := .cells #[.int .i64 x186000_3, .int .i64 x186001_3] 27 (0, 0)) (by (with_reducible repeat (first | refine blk_drewN ?_ _ | refine blk_drew ?_ | refine blk_alloc ?_ _)); exact BK185.out) hb); have n4_ := Aside0.mk (below_step (by repeat (first | (with_reducible first | exact HB.out | apply below_alloc | apply pw_below_drewN | apply below_drew1 | refine below_set ?_ GE184.out | refine below_set ?_ GE185.out) | exact HB.out)) hb); clear HO_15; clear HO_60; clear BK184; clear BK185; clear HB; have HO_15 := n0_; have HO_60 := n1_; have BK184 := n2_; have BK185 := n3_; have HB := n4_; clear n0_ n1_ n2_ n3_ n4_; (try clear hb); (try clear hb2); (try clear hk); (try clear hi); have hnb48 := NB185_184.out; have hnc48 := NB184_185.out; have hcz49_0 : w47.cell? ⟨gb185, 0, none⟩ = some (.int .i64 x186000_3) := (blk_cell BK185.out 0).trans rfl; have hcz49_1 : w47.cell? ⟨gb185, 1, none⟩ = some (.int .i64 x186001_3) := (blk_cell BK185.out 1).trans rfl; have hfz49_0 := blk_frozen BK185.out 0; have hfz49_1 := blk_frozen BK185.out 1))
                            refine bodyPost_ret (results_ct rfl _ _ gb185 27 #[.int .i64 t205, .int .i64 t206] (0, 0) _ rfl (by (with_reducible repeat (first | refine blk_drewN ?_ _ | refine blk_drew ?_ | refine blk_alloc ?_ _)); refine blk_put (cs := #[.int .i64 t205, .int .i64 x186001_3]) ?_ 1 _ rfl; (with_reducible repeat (first | refine blk_drewN ?_ _ | refine blk_drew ?_ | refine blk_alloc ?_ _)); refine blk_put (cs := #[.int .i64 x186000_3, .int .i64 x186001_3]) ?_ 0 _ rfl; (with_reducible repeat (first | refine blk_drewN ?_ _ | refine blk_drew ?_ | refine blk_alloc ?_ _)); exact BK185.out) Try.underlying27 rfl (by kernel_rfl)) rfl ?_
                            exact ⟨by first | rfl | (simp [errW_none, errW_some] <;> rfl) | (simp [*, errW_none, errW_some] <;> rfl), by repeat (first | (with_reducible first | exact HB.out | apply below_alloc | apply pw_below_drewN | apply below_drew1 | refine below_set ?_ GE184.out | refine below_set ?_ GE185.out) | exact HB.out)⟩
                          · rw [if_neg c44] at H
                            exact absurd H (by simp)
                        · rw [if_neg c43] at H
                          have c43b0 : ((rd t188 x62_3) == a1) = false := beq_eq_false_iff_ne.mpr c43
                          have c43b1 : ((rd t188 x62_3) != a1) = true := bne_iff_ne.mpr c43
                          have H' := Aside0.mk H
                          clear H
                          have p203 : 0 ≤ (x62_3 : Int) := of_decide_eq_true (by first | (with_reducible assumption) | assumption)
                          have q203 : x62_3 < (t188.length : Int) := of_decide_eq_true (by first | (with_reducible assumption) | assumption)
                          obtain ⟨ad203, e203, hx203_0⟩ := Kd.at_int (Kd.R_reads' HO_60.out).2.2 x62_3 p203 q203
                          cases e203
                          replace p203 := eq_true p203
                          replace q203 := eq_true q203
                          go_wp2
                          go_roundg k3
                          case measure => have := HJ4.out; have := HK2.out; have := HK3.out; omega
                          case rel => exact ⟨(wrap64 (x62_3 + 1)), (x186000_3), (x186001_3), (by first | rfl | (simp; done) | (simp [*]; done)), H', ⟨by have := HJ4.out; have := HK2.out; have := HK3.out; omega⟩, ⟨by (with_reducible repeat (first | apply Kd.R_alloc | apply Kd.R_drewN | apply Kd.R_drew)); exact HO_15.out⟩, ⟨by (with_reducible repeat (first | apply Kd.R_alloc | apply Kd.R_drewN | apply Kd.R_drew)); exact HO_60.out⟩, ⟨by (with_reducible repeat (first | refine blk_drewN ?_ _ | refine blk_drew ?_ | refine blk_alloc ?_ _)); exact BK184.out⟩, ⟨by (with_reducible repeat (first | refine blk_drewN ?_ _ | refine blk_drew ?_ | refine blk_alloc ?_ _)); exact BK185.out⟩, ⟨by repeat (first | (with_reducible first | exact HB.out | apply below_alloc | apply pw_below_drewN | apply below_drew1 | refine below_set ?_ GE184.out | refine below_set ?_ GE185.out) | exact HB.out)⟩⟩
                      · rw [if_neg c42] at H
                        exact absurd H (by simp)
                    · rw [if_neg c41] at H
                      exact absurd H (by simp)
                  · rw [if_neg c40] at H
                    have c40b0 : decide (x62_3 < (t188.length : Int)) = false := decide_eq_false c40
                    clear c40
                    simp only [Option.some.injEq, Prod.mk.injEq] at H
                    obtain ⟨rfl, rfl, rfl⟩ := H
                    have hnb50 := NB185_184.out
                    have hnc50 := NB184_185.out
                    have hcz51_0 : wr.cell? ⟨gb185, 0, none⟩ = some (.int .i64 x186000_3) := (blk_cell BK185.out 0).trans rfl
                    have hcz51_1 : wr.cell? ⟨gb185, 1, none⟩ = some (.int .i64 x186001_3) := (blk_cell BK185.out 1).trans rfl
                    have hfz51_0 := blk_frozen BK185.out 0
                    have hfz51_1 := blk_frozen BK185.out 1
                    go_wp2
                    refine bodyPost_ret (results_ct rfl _ _ gb185 27 #[.int .i64 0, .int .i64 1] (0, 0) _ rfl (by (with_reducible repeat (first | refine blk_drewN ?_ _ | refine blk_drew ?_ | refine blk_alloc ?_ _)); refine blk_put (cs := #[.int .i64 0, .int .i64 x186001_3]) ?_ 1 _ rfl; (with_reducible repeat (first | refine blk_drewN ?_ _ | refine blk_drew ?_ | refine blk_alloc ?_ _)); refine blk_put (cs := #[.int .i64 x186000_3, .int .i64 x186001_3]) ?_ 0 _ rfl; (with_reducible repeat (first | refine blk_drewN ?_ _ | refine blk_drew ?_ | refine blk_alloc ?_ _)); exact BK185.out) Try.underlying27 rfl (by kernel_rfl)) rfl ?_
                    exact ⟨by first | rfl | (simp [errW_none, errW_some] <;> rfl) | (simp [*, errW_none, errW_some] <;> rfl), by repeat (first | (with_reducible first | exact HB.out | apply below_alloc | apply pw_below_drewN | apply below_drew1 | refine below_set ?_ GE184.out | refine below_set ?_ GE185.out) | exact HB.out)⟩
end Go.Proofs.Ytnbnalbomflafaa.GT
/-! ## GT2 -/
namespace Go.Proofs.Ytnbnalbomflafaa.GT
open Go.RowKit Go.Proofs.YtnbnalbomflafaaW.PrintWords Go.Proofs.YtnbnalbomflafaaW.PrintLast Go.Proofs.YtnbnalbomflafaaW.PrintMore
open Go.Proofs.Ytnbnalbomflafaa.GA Go.Proofs.Ytnbnalbomflafaa.GB Go.Proofs.Ytnbnalbomflafaa.GD Go.Proofs.Ytnbnalbomflafaa.KA Go.Proofs.Ytnbnalbomflafaa.GR Go.Proofs.Ytnbnalbomflafaa.GQ Go.Proofs.Ytnbnalbomflafaa.DT
attribute [local go_sem] RA.field80_0 RA.field80_1 RA.field80_2 max2_int min2_int max_two min_two max_three min_three max_four min_four   -- for this text's walks alone
set_option linter.unusedVariables false
set_option linter.unusedSimpArgs false
mutual
def spec_hiChances.l0 : Nat → Int → Int → List Int → List (List Int) → List Int → List Int → Int → Int → List (List Int) → Option ((List (S27)))
  | 0, _, _, _, _, _, _, _, _, _ => none
  | k + 1, x1, x2, x7, x8, x9, x27, x28, x29, x208000 => if x29 < x28 then (if 0 ≤ x29 then (if x29 < (x27.length : Int) then (if 0 ≤ (rd x27 x29) then (if (rd x27 x29) < (x208000.length : Int) then (spec_hiChances.l1 k x1 x2 x7 x8 x9 0 x27 x28 x29 (rd_L1 x208000 (rd x27 x29)) ((rd_L1 x208000 (rd x27 x29)).length : Int) 0 x208000) else (none)) else (none)) else (none)) else (none)) else ((spec_hiSolve.f k x8 x9).bind fun bt220 => (if 0 ≤ (x208000.length : Int) then (if ((x208000.length : Int) : Int).toNat ≤ 17592186044416 then ((some (List.replicate ((x208000.length : Int) : Int).toNat z27 : List (S27))).bind fun y224 => (if 0 ≤ x1 then (if x1 < (y224.length : Int) then (if 0 ≤ x2 then (if x2 < (y224.length : Int) then (spec_hiChances.l2 k bt220.1 bt220.2 ((y224.set (x1 : Int).toNat (⟨1, 1⟩ : S27)).set (x2 : Int).toNat (⟨0, 1⟩ : S27)) x7 (x7.length : Int) 0) else (none)) else (none)) else (none)) else (none))) else (none)) else (none)))
def spec_hiChances.l1 : Nat → Int → Int → List Int → List (List Int) → List Int → Int → List Int → Int → Int → List Int → Int → Int → List (List Int) → Option ((List (S27)))
  | 0, _, _, _, _, _, _, _, _, _, _, _, _, _ => none
  | k + 1, x1, x2, x7, x8, x9, x12, x27, x28, x29, x37, x38, x39, x208000 => if x39 < x38 then (if 0 ≤ x39 then (if x39 < (x37.length : Int) then (if (rd x37 x39) = x1 then (spec_hiChances.l1 k x1 x2 x7 x8 x9 (wrap64 (x12 + 1)) x27 x28 x29 x37 x38 (wrap64 (x39 + 1)) x208000) else (spec_hiChances.l1 k x1 x2 x7 x8 x9 x12 x27 x28 x29 x37 x38 (wrap64 (x39 + 1)) x208000)) else (none)) else (none)) else (if x9.length < 17592186044416 then (spec_hiChances.l0 k x1 x2 x7 x8 (x9 ++ [x12]) x27 x28 (wrap64 (x29 + 1)) x208000) else (none))
def spec_hiChances.l2 : Nat → List Int → Int → List (S27) → List Int → Int → Int → Option ((List (S27)))
  | 0, _, _, _, _, _, _ => none
  | k + 1, x15, x16, x17, x72, x73, x74 => if x74 < x73 then (if 0 ≤ x74 then (if x74 < (x72.length : Int) then (if x74 < (x15.length : Int) then ((spec_hiRatio.f k (rd x15 x74) x16).bind fun bt231 => (if 0 ≤ (rd x72 x74) then (if (rd x72 x74) < (x17.length : Int) then (spec_hiChances.l2 k x15 x16 (x17.set ((rd x72 x74) : Int).toNat (⟨bt231.1, bt231.2⟩ : S27)) x72 x73 (wrap64 (x74 + 1))) else (none)) else (none))) else (none)) else (none)) else (none)) else (some x17)
end
def spec_hiChances.f (k : Nat) (l0_0 : List (List Int)) (a1 : Int) (a2 : Int) : Option ((List (S27))) := (spec_hiMatrix.f l0_0 a1 a2).bind fun bt208 => (spec_hiChances.l0 k a1 a2 bt208.1 bt208.2 ([] : List Int) bt208.1 (bt208.1.length : Int) 0 l0_0)
theorem spec_hiChances.mono_l : ∀ k, (∀ y0 y1 y2 y3 y4 y5 y6 y7 y8, LeO (spec_hiChances.l0 k y0 y1 y2 y3 y4 y5 y6 y7 y8) (spec_hiChances.l0 (k + 1) y0 y1 y2 y3 y4 y5 y6 y7 y8)) ∧ (∀ y0 y1 y2 y3 y4 y5 y6 y7 y8 y9 y10 y11 y12, LeO (spec_hiChances.l1 k y0 y1 y2 y3 y4 y5 y6 y7 y8 y9 y10 y11 y12) (spec_hiChances.l1 (k + 1) y0 y1 y2 y3 y4 y5 y6 y7 y8 y9 y10 y11 y12)) ∧ (∀ y0 y1 y2 y3 y4 y5, LeO (spec_hiChances.l2 k y0 y1 y2 y3 y4 y5) (spec_hiChances.l2 (k + 1) y0 y1 y2 y3 y4 y5))
  | 0 => ⟨fun _ _ _ _ _ _ _ _ _ r h => by simp [spec_hiChances.l0] at h, fun _ _ _ _ _ _ _ _ _ _ _ _ _ r h => by simp [spec_hiChances.l1] at h, fun _ _ _ _ _ _ r h => by simp [spec_hiChances.l2] at h⟩
  | k + 1 => by
    obtain ⟨ih0, ih1, ih2⟩ := spec_hiChances.mono_l k
    refine ⟨?_, ?_, ?_⟩
    · intro y0 y1 y2 y3 y4 y5 y6 y7 y8
      unfold spec_hiChances.l0
      repeat' first
      | (with_reducible exact ih0 _ _ _ _ _ _ _ _ _)
      | (with_reducible exact ih1 _ _ _ _ _ _ _ _ _ _ _ _ _)
      | (with_reducible exact ih2 _ _ _ _ _ _)
      | (with_reducible exact spec_hiRatio.mono _ _ _)
      | (with_reducible exact spec_hiSolve.mono _ _ _)
      | (with_reducible exact LeO.refl _)
      | (with_reducible exact LeO.none _)
      | (with_reducible refine LeO.ite ?_ ?_)
      | (with_reducible refine LeO.bind ?_ (fun _ => ?_))
      | exact ih0 _ _ _ _ _ _ _ _ _
      | exact ih1 _ _ _ _ _ _ _ _ _ _ _ _ _
      | exact ih2 _ _ _ _ _ _
      | exact spec_hiRatio.mono _ _ _
      | exact spec_hiSolve.mono _ _ _
      | exact LeO.none _
      | refine LeO.ite ?_ ?_
      | refine LeO.bind ?_ (fun _ => ?_)
    · intro y0 y1 y2 y3 y4 y5 y6 y7 y8 y9 y10 y11 y12
      unfold spec_hiChances.l1
      repeat' first
      | (with_reducible exact ih0 _ _ _ _ _ _ _ _ _)
      | (with_reducible exact ih1 _ _ _ _ _ _ _ _ _ _ _ _ _)
      | (with_reducible exact ih2 _ _ _ _ _ _)
      | (with_reducible exact spec_hiRatio.mono _ _ _)
      | (with_reducible exact spec_hiSolve.mono _ _ _)
      | (with_reducible exact LeO.refl _)
      | (with_reducible exact LeO.none _)
      | (with_reducible refine LeO.ite ?_ ?_)
      | (with_reducible refine LeO.bind ?_ (fun _ => ?_))
      | exact ih0 _ _ _ _ _ _ _ _ _
      | exact ih1 _ _ _ _ _ _ _ _ _ _ _ _ _
      | exact ih2 _ _ _ _ _ _
      | exact spec_hiRatio.mono _ _ _
      | exact spec_hiSolve.mono _ _ _
      | exact LeO.none _
      | refine LeO.ite ?_ ?_
      | refine LeO.bind ?_ (fun _ => ?_)
    · intro y0 y1 y2 y3 y4 y5
      unfold spec_hiChances.l2
      repeat' first
      | (with_reducible exact ih0 _ _ _ _ _ _ _ _ _)
      | (with_reducible exact ih1 _ _ _ _ _ _ _ _ _ _ _ _ _)
      | (with_reducible exact ih2 _ _ _ _ _ _)
      | (with_reducible exact spec_hiRatio.mono _ _ _)
      | (with_reducible exact spec_hiSolve.mono _ _ _)
      | (with_reducible exact LeO.refl _)
      | (with_reducible exact LeO.none _)
      | (with_reducible refine LeO.ite ?_ ?_)
      | (with_reducible refine LeO.bind ?_ (fun _ => ?_))
      | exact ih0 _ _ _ _ _ _ _ _ _
      | exact ih1 _ _ _ _ _ _ _ _ _ _ _ _ _
      | exact ih2 _ _ _ _ _ _
      | exact spec_hiRatio.mono _ _ _
      | exact spec_hiSolve.mono _ _ _
      | exact LeO.none _
      | refine LeO.ite ?_ ?_
      | refine LeO.bind ?_ (fun _ => ?_)
theorem spec_hiChances.mono : ∀ a0 a1 a2 k, LeO (spec_hiChances.f k a0 a1 a2) (spec_hiChances.f (k + 1) a0 a1 a2) := by
  intro a0 a1 a2 k
  obtain ⟨ih0, ih1, ih2⟩ := spec_hiChances.mono_l k
  unfold spec_hiChances.f
  repeat' first
      | (with_reducible exact ih0 _ _ _ _ _ _ _ _ _)
      | (with_reducible exact ih1 _ _ _ _ _ _ _ _ _ _ _ _ _)
      | (with_reducible exact ih2 _ _ _ _ _ _)
      | (with_reducible exact spec_hiRatio.mono _ _ _)
      | (with_reducible exact spec_hiSolve.mono _ _ _)
      | (with_reducible exact LeO.refl _)
      | (with_reducible exact LeO.none _)
      | (with_reducible refine LeO.ite ?_ ?_)
      | (with_reducible refine LeO.bind ?_ (fun _ => ?_))
      | exact ih0 _ _ _ _ _ _ _ _ _
      | exact ih1 _ _ _ _ _ _ _ _ _ _ _ _ _
      | exact ih2 _ _ _ _ _ _
      | exact spec_hiRatio.mono _ _ _
      | exact spec_hiSolve.mono _ _ _
      | exact LeO.none _
      | refine LeO.ite ?_ ?_
      | refine LeO.bind ?_ (fun _ => ?_)
def spec_HitChance.f (k : Nat) (l0_0 : List (List Int)) (a1 : Int) (a2 : Int) (a3 : Int) : Option (Int × Int × Bool) := (spec_hiGood.f k l0_0 a2 a3).bind fun t236 => (if t236 = true then ((spec_grPlace.f k l0_0 a1).bind fun t237 => (if t237 = true then ((spec_hiChances.f k l0_0 a2 a3).bind fun t238 => (if 0 ≤ a1 then (if a1 < (t238.length : Int) then (some ((rd_T27 t238 a1).f0, (rd_T27 t238 a1).f1, true)) else (none)) else (none))) else (some (0, 0, false)))) else (some (0, 0, false)))
theorem spec_HitChance.mono : ∀ a0 a1 a2 a3 k, LeO (spec_HitChance.f k a0 a1 a2 a3) (spec_HitChance.f (k + 1) a0 a1 a2 a3) := by
  intro a0 a1 a2 a3 k
  unfold spec_HitChance.f
  repeat' first
      | (with_reducible exact spec_grPlace.mono _ _ _)
      | (with_reducible exact spec_hiChances.mono _ _ _ _)
      | (with_reducible exact spec_hiGood.mono _ _ _ _)
      | (with_reducible exact LeO.refl _)
      | (with_reducible exact LeO.none _)
      | (with_reducible refine LeO.ite ?_ ?_)
      | (with_reducible refine LeO.bind ?_ (fun _ => ?_))
      | exact spec_grPlace.mono _ _ _
      | exact spec_hiChances.mono _ _ _ _
      | exact spec_hiGood.mono _ _ _ _
      | exact LeO.none _
      | refine LeO.ite ?_ ?_
      | refine LeO.bind ?_ (fun _ => ?_)
def spec_ChancesOf.f (k : Nat) (l0_0 : List (List Int)) (a1 : Int) (a2 : Int) : Option ((List (S27)) × Bool) := (spec_hiGood.f k l0_0 a1 a2).bind fun t243 => (if t243 = true then ((spec_hiChances.f k l0_0 a1 a2).bind fun t244 => (some (t244, true))) else (some (([] : List (S27)), false)))
theorem spec_ChancesOf.mono : ∀ a0 a1 a2 k, LeO (spec_ChancesOf.f k a0 a1 a2) (spec_ChancesOf.f (k + 1) a0 a1 a2) := by
  intro a0 a1 a2 k
  unfold spec_ChancesOf.f
  repeat' first
      | (with_reducible exact spec_hiChances.mono _ _ _ _)
      | (with_reducible exact spec_hiGood.mono _ _ _ _)
      | (with_reducible exact LeO.refl _)
      | (with_reducible exact LeO.none _)
      | (with_reducible refine LeO.ite ?_ ?_)
      | (with_reducible refine LeO.bind ?_ (fun _ => ?_))
      | exact spec_hiChances.mono _ _ _ _
      | exact spec_hiGood.mono _ _ _ _
      | exact LeO.none _
      | refine LeO.ite ?_ ?_
      | refine LeO.bind ?_ (fun _ => ?_)
end Go.Proofs.Ytnbnalbomflafaa.GT
/-! ## GT3 -/
namespace Go.Proofs.Ytnbnalbomflafaa.GT
open Go.RowKit Go.Proofs.YtnbnalbomflafaaW.PrintWords Go.Proofs.YtnbnalbomflafaaW.PrintLast Go.Proofs.YtnbnalbomflafaaW.PrintMore
open Go.Proofs.Ytnbnalbomflafaa.GA Go.Proofs.Ytnbnalbomflafaa.GB Go.Proofs.Ytnbnalbomflafaa.GD Go.Proofs.Ytnbnalbomflafaa.KA Go.Proofs.Ytnbnalbomflafaa.GR Go.Proofs.Ytnbnalbomflafaa.GQ Go.Proofs.Ytnbnalbomflafaa.DT
attribute [local go_sem] RA.field80_0 RA.field80_1 RA.field80_2 max2_int min2_int max_two min_two max_three min_three max_four min_four   -- for this text's walks alone
set_option linter.unusedVariables false
set_option linter.unusedSimpArgs false
mutual
def spec_hiBound.l0 : Nat → Int → List (S27) → Int → List Int → Int → Int → List (List Int) → Option (Int × Int)
  | 0, _, _, _, _, _, _, _ => none
  | k + 1, x9, x10, x11, x32, x33, x34, x248000 => if x34 < x33 then (if 0 ≤ x34 then (if x34 < (x32.length : Int) then (if 0 ≤ (rd x32 x34) then (if (rd x32 x34) < (x248000.length : Int) then (spec_hiBound.l1 k x9 x10 x11 (rd x32 x34) x32 x33 x34 (rd_L1 x248000 (rd x32 x34)) ((rd_L1 x248000 (rd x32 x34)).length : Int) 0 x248000) else (none)) else (none)) else (none)) else (none)) else ((spec_hiRatio.f k x11 x9).bind fun bt260 => (some (bt260.1, bt260.2)))
def spec_hiBound.l1 : Nat → Int → List (S27) → Int → Int → List Int → Int → Int → List Int → Int → Int → List (List Int) → Option (Int × Int)
  | 0, _, _, _, _, _, _, _, _, _, _, _ => none
  | k + 1, x9, x10, x11, x13, x32, x33, x34, x42, x43, x44, x248000 => if x44 < x43 then (if 0 ≤ x44 then (if x44 < (x42.length : Int) then (if 0 ≤ x13 then (if x13 < (x10.length : Int) then (if ((rd_T27 x10 x13).f1) = 0 then (none) else (if 0 ≤ (rd x42 x44) then (if (rd x42 x44) < (x10.length : Int) then (if ((rd_T27 x10 (rd x42 x44)).f1) = 0 then (none) else ((spec_l1Abs.f (wrap64 ((wrap64 (((rd_T27 x10 x13).f0) * (wrap64 (Int.tdiv x9 ((rd_T27 x10 x13).f1))))) - (wrap64 (((rd_T27 x10 (rd x42 x44)).f0) * (wrap64 (Int.tdiv x9 ((rd_T27 x10 (rd x42 x44)).f1)))))))).bind fun t269 => (spec_hiBound.l1 k x9 x10 (wrap64 (x11 + t269)) x13 x32 x33 x34 x42 x43 (wrap64 (x44 + 1)) x248000))) else (none)) else (none))) else (none)) else (none)) else (none)) else (none)) else (spec_hiBound.l0 k x9 x10 x11 x32 x33 (wrap64 (x34 + 1)) x248000)
end
def spec_hiBound.f (k : Nat) (l0_0 : List (List Int)) (a1 : Int) (a2 : Int) : Option (Int × Int) := (spec_hiMatrix.f l0_0 a1 a2).bind fun bt249 => ((spec_trDet.f k bt249.2).bind fun t255 => ((spec_l1Abs.f t255).bind fun t256 => ((spec_hiChances.f k l0_0 a1 a2).bind fun t257 => (spec_hiBound.l0 k t256 t257 t256 bt249.1 (bt249.1.length : Int) 0 l0_0))))
theorem spec_hiBound.mono_l : ∀ k, (∀ y0 y1 y2 y3 y4 y5 y6, LeO (spec_hiBound.l0 k y0 y1 y2 y3 y4 y5 y6) (spec_hiBound.l0 (k + 1) y0 y1 y2 y3 y4 y5 y6)) ∧ (∀ y0 y1 y2 y3 y4 y5 y6 y7 y8 y9 y10, LeO (spec_hiBound.l1 k y0 y1 y2 y3 y4 y5 y6 y7 y8 y9 y10) (spec_hiBound.l1 (k + 1) y0 y1 y2 y3 y4 y5 y6 y7 y8 y9 y10))
  | 0 => ⟨fun _ _ _ _ _ _ _ r h => by simp [spec_hiBound.l0] at h, fun _ _ _ _ _ _ _ _ _ _ _ r h => by simp [spec_hiBound.l1] at h⟩
  | k + 1 => by
    obtain ⟨ih0, ih1⟩ := spec_hiBound.mono_l k
    refine ⟨?_, ?_⟩
    · intro y0 y1 y2 y3 y4 y5 y6
      unfold spec_hiBound.l0
      repeat' first
      | (with_reducible exact ih0 _ _ _ _ _ _ _)
      | (with_reducible exact ih1 _ _ _ _ _ _ _ _ _ _ _)
      | (with_reducible exact spec_hiChances.mono _ _ _ _)
      | (with_reducible exact spec_hiRatio.mono _ _ _)
      | (with_reducible exact spec_trDet.mono _ _)
      | (with_reducible exact LeO.refl _)
      | (with_reducible exact LeO.none _)
      | (with_reducible refine LeO.ite ?_ ?_)
      | (with_reducible refine LeO.bind ?_ (fun _ => ?_))
      | exact ih0 _ _ _ _ _ _ _
      | exact ih1 _ _ _ _ _ _ _ _ _ _ _
      | exact spec_hiChances.mono _ _ _ _
      | exact spec_hiRatio.mono _ _ _
      | exact spec_trDet.mono _ _
      | exact LeO.none _
      | refine LeO.ite ?_ ?_
      | refine LeO.bind ?_ (fun _ => ?_)
    · intro y0 y1 y2 y3 y4 y5 y6 y7 y8 y9 y10
      unfold spec_hiBound.l1
      repeat' first
      | (with_reducible exact ih0 _ _ _ _ _ _ _)
      | (with_reducible exact ih1 _ _ _ _ _ _ _ _ _ _ _)
      | (with_reducible exact spec_hiChances.mono _ _ _ _)
      | (with_reducible exact spec_hiRatio.mono _ _ _)
      | (with_reducible exact spec_trDet.mono _ _)
      | (with_reducible exact LeO.refl _)
      | (with_reducible exact LeO.none _)
      | (with_reducible refine LeO.ite ?_ ?_)
      | (with_reducible refine LeO.bind ?_ (fun _ => ?_))
      | exact ih0 _ _ _ _ _ _ _
      | exact ih1 _ _ _ _ _ _ _ _ _ _ _
      | exact spec_hiChances.mono _ _ _ _
      | exact spec_hiRatio.mono _ _ _
      | exact spec_trDet.mono _ _
      | exact LeO.none _
      | refine LeO.ite ?_ ?_
      | refine LeO.bind ?_ (fun _ => ?_)
theorem spec_hiBound.mono : ∀ a0 a1 a2 k, LeO (spec_hiBound.f k a0 a1 a2) (spec_hiBound.f (k + 1) a0 a1 a2) := by
  intro a0 a1 a2 k
  obtain ⟨ih0, ih1⟩ := spec_hiBound.mono_l k
  unfold spec_hiBound.f
  repeat' first
      | (with_reducible exact ih0 _ _ _ _ _ _ _)
      | (with_reducible exact ih1 _ _ _ _ _ _ _ _ _ _ _)
      | (with_reducible exact spec_hiChances.mono _ _ _ _)
      | (with_reducible exact spec_hiRatio.mono _ _ _)
      | (with_reducible exact spec_trDet.mono _ _)
      | (with_reducible exact LeO.refl _)
      | (with_reducible exact LeO.none _)
      | (with_reducible refine LeO.ite ?_ ?_)
      | (with_reducible refine LeO.bind ?_ (fun _ => ?_))
      | exact ih0 _ _ _ _ _ _ _
      | exact ih1 _ _ _ _ _ _ _ _ _ _ _
      | exact spec_hiChances.mono _ _ _ _
      | exact spec_hiRatio.mono _ _ _
      | exact spec_trDet.mono _ _
      | exact LeO.none _
      | refine LeO.ite ?_ ?_
      | refine LeO.bind ?_ (fun _ => ?_)
def spec_HitBound.f (k : Nat) (l0_0 : List (List Int)) (a1 : Int) (a2 : Int) : Option (Int × Int × Bool) := (spec_hiGood.f k l0_0 a1 a2).bind fun t272 => (if t272 = true then ((spec_hiBound.f k l0_0 a1 a2).bind fun bt273 => (some (bt273.1, bt273.2, true))) else (some (0, 0, false)))
theorem spec_HitBound.mono : ∀ a0 a1 a2 k, LeO (spec_HitBound.f k a0 a1 a2) (spec_HitBound.f (k + 1) a0 a1 a2) := by
  intro a0 a1 a2 k
  unfold spec_HitBound.f
  repeat' first
      | (with_reducible exact spec_hiBound.mono _ _ _ _)
      | (with_reducible exact spec_hiGood.mono _ _ _ _)
      | (with_reducible exact LeO.refl _)
      | (with_reducible exact LeO.none _)
      | (with_reducible refine LeO.ite ?_ ?_)
      | (with_reducible refine LeO.bind ?_ (fun _ => ?_))
      | exact spec_hiBound.mono _ _ _ _
      | exact spec_hiGood.mono _ _ _ _
      | exact LeO.none _
      | refine LeO.ite ?_ ?_
      | refine LeO.bind ?_ (fun _ => ?_)
def spec_HitGap.f (k : Nat) (l0_0 : List (List Int)) (l1 : List Int) (a2 : Int) (a3 : Int) (a4 : Int) (a5 : Int) : Option (Int × Int × Bool) := (spec_hiAsked.f k l0_0 l1 a2 a3 a4 a5).bind fun t305 => (if t305 = true then ((spec_hiChances.f k l0_0 a3 a4).bind fun t306 => (if 0 ≤ a2 then (if a2 < (t306.length : Int) then ((spec_hiRun.f k l0_0 l1 a2 a3 a4 a5).bind fun bt311 => ((spec_hiSum.f k bt311.1).bind fun t318 => ((spec_l1Abs.f (wrap64 ((wrap64 (t318 * ((rd_T27 t306 a2).f1))) - (wrap64 (a5 * ((rd_T27 t306 a2).f0)))))).bind fun t319 => ((spec_hiRatio.f k t319 ((rd_T27 t306 a2).f1)).bind fun bt320 => (some (bt320.1, bt320.2, true)))))) else (none)) else (none))) else (some (0, 0, false)))
theorem spec_HitGap.mono : ∀ a0 a1 a2 a3 a4 a5 k, LeO (spec_HitGap.f k a0 a1 a2 a3 a4 a5) (spec_HitGap.f (k + 1) a0 a1 a2 a3 a4 a5) := by
  intro a0 a1 a2 a3 a4 a5 k
  unfold spec_HitGap.f
  repeat' first
      | (with_reducible exact spec_hiAsked.mono _ _ _ _ _ _ _)
      | (with_reducible exact spec_hiChances.mono _ _ _ _)
      | (with_reducible exact spec_hiRatio.mono _ _ _)
      | (with_reducible exact spec_hiRun.mono _ _ _ _ _ _ _)
      | (with_reducible exact spec_hiSum.mono _ _)
      | (with_reducible exact LeO.refl _)
      | (with_reducible exact LeO.none _)
      | (with_reducible refine LeO.ite ?_ ?_)
      | (with_reducible refine LeO.bind ?_ (fun _ => ?_))
      | exact spec_hiAsked.mono _ _ _ _ _ _ _
      | exact spec_hiChances.mono _ _ _ _
      | exact spec_hiRatio.mono _ _ _
      | exact spec_hiRun.mono _ _ _ _ _ _ _
      | exact spec_hiSum.mono _ _
      | exact LeO.none _
      | refine LeO.ite ?_ ?_
      | refine LeO.bind ?_ (fun _ => ?_)
end Go.Proofs.Ytnbnalbomflafaa.GT
/-! ## Dp -/
namespace Go.Proofs.Ytnbnalbomflafaa.DT
open Go.RowKit Go.Proofs.YtnbnalbomflafaaW.PrintWords Go.Proofs.YtnbnalbomflafaaW.PrintLast Go.Proofs.YtnbnalbomflafaaW.PrintMore
open Go.Proofs.Ytnbnalbomflafaa.GA hiding info37
open Go.Proofs.Ytnbnalbomflafaa.GR hiding rd_L1 at_L1 S27 z27 rd_T27
open Go.Proofs.Ytnbnalbomflafaa.RA
set_option linter.unusedVariables false
set_option linter.unusedSimpArgs false
/-- What is known of a good graph's equations. -/
structure Eqs (l : List (List Int)) (own : Int → Int) (atA a b : Int) : Prop where
  m6 : (innerL l a b).length ≤ 6
  sq : Sq (innerL l a b).length (matM l a b)
  bM : ∀ r c, r < (innerL l a b).length → c < (innerL l a b).length → (matF (matM l a b) r c).natAbs ≤ 5
  lR : (rightL l own atA 0 a b (innerL l a b)).length = (innerL l a b).length
  bR : ∀ r : Nat, r < (innerL l a b).length → (rd (rightL l own atA 0 a b (innerL l a b)) (r : Int)).natAbs ≤ 5
theorem eqs_of {l : List (List Int)} {own : Int → Int} {atA a b : Int} (h : goodB l a b = true) (hS : ∀ p : Int, 0 ≤ p → p < l.length → ∀ x, x ≤ (rd_L1 l p).length → -5 ≤ sumF own atA 0 a b p (rd_L1 l p) x ∧ sumF own atA 0 a b p (rd_L1 l p) x ≤ 5) : Eqs l own atA a b := by
  obtain ⟨hab, a0, a1, b0, b1, h8, h5, _, _⟩ := good_facts h
  refine ⟨inner_six h8 a0 a1 b0 b1 hab, sq_matM l a b, fun r c hr hc => matM_bound h5 hr hc, by simp [rightL], fun r hr => ?_⟩
  rw [rightL_at l own atA 0 a b _ hr]
  have hm := inner_mem (l := l) (a := a) (b := b) (p := rd (innerL l a b) (r : Int)) (by rw [rd_at _ r hr]; exact List.getElem_mem _)
  have := hS _ hm.1 hm.2.1 _ (Nat.le_refl _)
  omega
theorem eqs_solve {l : List (List Int)} {own : Int → Int} {atA a b : Int} (h : Eqs l own atA a b) (k : Nat) (hk : 300 ≤ k) : spec_hiSolve.f k (matM l a b) (rightL l own atA 0 a b (innerL l a b)) = some (numsL (innerL l a b).length (matM l a b) (rightL l own atA 0 a b (innerL l a b)), denOf l a b) := solve_f h.m6 h.sq h.lR h.bM h.bR k hk
theorem nums_at (l : List (List Int)) (own : Int → Int) (atA a b : Int) {j : Nat} (hj : j < (innerL l a b).length) : rd (numsL (innerL l a b).length (matM l a b) (rightL l own atA 0 a b (innerL l a b))) (j : Int) = numOf l own atA 0 a b j := by
  rw [rd_at _ j (by simpa [numsL] using hj)]
  simp [numsL, numOf]
theorem num_bound {l : List (List Int)} {own : Int → Int} {atA a b : Int} (h : Eqs l own atA a b) {j : Nat} (hj : j < (innerL l a b).length) : (numOf l own atA 0 a b j).natAbs ≤ 11250000 := by
  unfold numOf
  refine det_le h.m6 fun r c hr hc => ?_
  rw [colL_at h.sq _ hr hc]
  split
  · exact h.bR r hr
  · exact h.bM r c hr hc
theorem den_bound {l : List (List Int)} {own : Int → Int} {atA a b : Int} (h : Eqs l own atA a b) : (denOf l a b).natAbs ≤ 11250000 := det_le h.m6 h.bM
theorem good_graph {l : List (List Int)} {a b : Int} (h : goodB l a b = true) : KA.isGraphB l = true := (KA.place_is ((goodB_is l a b).2 h).1).1
/-- What the program's list holds at a place. -/
theorem outL_at {l : List (List Int)} {own : Int → Int} {atA a b : Int} {p : Int} (h0 : 0 ≤ p) (h1 : p < l.length) : rd (outL l own atA 0 a b) p = if p = a then atA * denOf l a b else if p = b then 0 * denOf l a b else numOf l own atA 0 a b ((innerL l a b).idxOf p) := by
  obtain ⟨i, rfl⟩ := Int.eq_ofNat_of_zero_le h0
  rw [rd_at _ i (by simp [outL]; omega)]
  simp [outL]
theorem out_bound {l : List (List Int)} {own : Int → Int} {atA a b : Int} (h : Eqs l own atA a b) (hA : -1 ≤ atA ∧ atA ≤ 1) {p : Int} (h0 : 0 ≤ p) (h1 : p < l.length) : (rd (outL l own atA 0 a b) p).natAbs ≤ 11250000 := by
  rw [outL_at h0 h1]
  have hd := den_bound h
  split
  · rw [Int.natAbs_mul]
    have h2 : atA.natAbs ≤ 1 := by omega
    have := Nat.mul_le_mul h2 hd
    omega
  · split
    · simp
    · rename_i q1 q2
      exact num_bound h (List.idxOf_lt_length_iff.2 (mem_inner h0 h1 q1 q2))
def degOwn (l : List (List Int)) : Int → Int := fun p => ((rd_L1 l p).length : Int)
theorem steps_right (l : List (List Int)) (a b : Int) : rightL l (degOwn l) 0 0 a b (innerL l a b) = (innerL l a b).map fun p => ((rd_L1 l p).length : Int) := by
  unfold rightL
  refine List.map_congr_left fun p _ => ?_
  simp [sumF, degOwn]
theorem steps_l1 {l : List (List Int)} {a b p : Int} (h : Eqs l (degOwn l) 0 a b) (hd : 0 < denOf l a b) (d : Nat) : ∀ (k i : Nat), i + d = (innerL l a b).length → 100000000 + d < k → (∀ c : Nat, c < i → rd (innerL l a b) (c : Int) ≠ p) →
    GT.spec_ExpectedSteps.l1 k p (numsL (innerL l a b).length (matM l a b) (rightL l (degOwn l) 0 0 a b (innerL l a b))) (denOf l a b) (innerL l a b) ((innerL l a b).length : Int) (i : Int) = some (if p ∈ innerL l a b then ((ratV (numOf l (degOwn l) 0 0 a b ((innerL l a b).idxOf p)) (denOf l a b)).1, (ratV (numOf l (degOwn l) 0 0 a b ((innerL l a b).idxOf p)) (denOf l a b)).2, true) else (0, 1, true)) := by
  have hn : (numsL (innerL l a b).length (matM l a b) (rightL l (degOwn l) 0 0 a b (innerL l a b))).length = (innerL l a b).length := by simp [numsL]
  have hdb := den_bound h
  induction d with
  | zero =>
    intro k i hi hk hno
    obtain ⟨k, rfl⟩ := KA.succ_of (show 0 < k by omega)
    unfold GT.spec_ExpectedSteps.l1
    rw [if_neg (by omega), if_neg]
    intro hm
    obtain ⟨c, hc, he⟩ := List.mem_iff_getElem.1 hm
    exact hno c (by omega) (by rw [rd_at _ c hc, he])
  | succ d ih =>
    intro k i hi hk hno
    obtain ⟨k, rfl⟩ := KA.succ_of (show 0 < k by omega)
    have him : i < (innerL l a b).length := by omega
    have hm6 := h.m6
    unfold GT.spec_ExpectedSteps.l1
    rw [if_pos (by omega), if_pos (by omega), if_pos (by omega)]
    by_cases hp : rd (innerL l a b) (i : Int) = p
    · have hmem : p ∈ innerL l a b := by rw [← hp, rd_at _ i him]; exact List.getElem_mem _
      have hix : (innerL l a b).idxOf p = i := by
        have hlt := List.idxOf_lt_length_iff.2 hmem
        refine rd_inj (inner_nodup l a b) hlt him ?_
        rw [rd_at _ _ hlt, hp]
        exact List.getElem_idxOf hlt
      rw [if_pos hp, if_pos (by omega), nums_at l (degOwn l) 0 a b him, if_pos hmem, hix]
      have hnb := num_bound h him
      rw [spec_ratio (by omega) hd (by omega) k (by omega)]
      rfl
    · rw [if_neg hp, KA.wrap_up him (by omega)]
      exact ih k (i + 1) (by omega) (by omega) fun c hc => by
        by_cases q : c = i
        · rw [q]; exact hp
        · exact hno c (by omega)
theorem steps_l0 {l : List (List Int)} {a b p : Int} (hg : goodB l a b = true) (h : Eqs l (degOwn l) 0 a b) (hd : 0 < denOf l a b) (d : Nat) : ∀ (k i : Nat), i + d = (innerL l a b).length → 100000100 + d < k →
    GT.spec_ExpectedSteps.l0 k p (innerL l a b) (matM l a b) ((rightL l (degOwn l) 0 0 a b (innerL l a b)).take i) (innerL l a b) ((innerL l a b).length : Int) (i : Int) l = some (if p ∈ innerL l a b then ((ratV (numOf l (degOwn l) 0 0 a b ((innerL l a b).idxOf p)) (denOf l a b)).1, (ratV (numOf l (degOwn l) 0 0 a b ((innerL l a b).idxOf p)) (denOf l a b)).2, true) else (0, 1, true)) := by
  have hlR := h.lR
  have hm6 := h.m6
  induction d with
  | zero =>
    intro k i hi hk
    obtain ⟨k, rfl⟩ := KA.succ_of (show 0 < k by omega)
    unfold GT.spec_ExpectedSteps.l0
    rw [if_neg (by omega), List.take_of_length_le (by omega), eqs_solve h k (by omega), Option.bind_some]
    exact steps_l1 h hd (innerL l a b).length k 0 (by omega) (by omega) (fun c hc => by omega)
  | succ d ih =>
    intro k i hi hk
    obtain ⟨k, rfl⟩ := KA.succ_of (show 0 < k by omega)
    have him : i < (innerL l a b).length := by omega
    have hm := inner_mem (l := l) (a := a) (b := b) (p := rd (innerL l a b) (i : Int)) (by rw [rd_at _ i him]; exact List.getElem_mem _)
    have e : (rightL l (degOwn l) 0 0 a b (innerL l a b)).take i ++ [((rd_L1 l (rd (innerL l a b) (i : Int))).length : Int)] = (rightL l (degOwn l) 0 0 a b (innerL l a b)).take (i + 1) := by
      rw [List.take_succ_eq_append_getElem (by omega)]
      congr 2
      have := steps_right l a b
      simp only [this, List.getElem_map]
      rw [rd_at _ i him]
    unfold GT.spec_ExpectedSteps.l0
    rw [if_pos (by omega), if_pos (by omega), if_pos (by omega), if_pos hm.1, if_pos hm.2.1, if_pos (by simp; omega)]
    show GT.spec_ExpectedSteps.l0 k p _ _ ((rightL l (degOwn l) 0 0 a b (innerL l a b)).take i ++ [((rd_L1 l (rd (innerL l a b) (i : Int))).length : Int)]) _ _ _ _ = _
    rw [e, KA.wrap_up him (by omega)]
    exact ih k (i + 1) (by omega) (by omega)
noncomputable def stepsOk (l : List (List Int)) (p a b : Int) : Bool := goodB l a b && KA.placeB l p
noncomputable def expA (l : List (List Int)) (p a b : Int) : Int × Int := if stepsOk l p a b = true then ratV (rd (stL l a b) p) (denOf l a b) else (0, 0)
theorem spec_steps_f (l : List (List Int)) (p a b : Int) : GT.spec_ExpectedSteps.f 200000000 l p a b = some ((expA l p a b).1, (expA l p a b).2, stepsOk l p a b) := by
  unfold GT.spec_ExpectedSteps.f
  rw [((goodB_is l a b).1 200000000 (by omega)).1, Option.bind_some]
  cases hg : goodB l a b with
  | false =>
    rw [if_neg (by decide)]
    unfold GT.spec_ExpectedSteps.j0 expA stepsOk
    rw [hg]
    rfl
  | true =>
    rw [if_pos rfl, KA.grPlace_eq l p 200000000 (by omega), Option.bind_some]
    cases hp : KA.placeB l p with
    | false =>
      unfold GT.spec_ExpectedSteps.j0 expA stepsOk
      rw [hg, hp]
      rfl
    | true =>
      obtain ⟨hab, a0, a1, b0, b1, h8, h5, _, _⟩ := good_facts hg
      obtain ⟨_, _, _, p0, p1⟩ := KA.place_is hp
      have hE : Eqs l (degOwn l) 0 a b := eqs_of hg (sum_steps h5)
      have hd := den_pos hg
      have hok : stepsOk l p a b = true := by unfold stepsOk; rw [hg, hp]; rfl
      show (if (!true) = true then some (0, 0, false) else ((spec_hiMatrix.f l a b).bind fun bt188 => (GT.spec_ExpectedSteps.l0 199999999 p bt188.1 bt188.2 ([] : List Int) bt188.1 (bt188.1.length : Int) 0 l))) = _
      rw [if_neg (by decide)]
      have hM : spec_hiMatrix.f l a b = some (innerL l a b, matM l a b) := by unfold spec_hiMatrix.f; rw [if_pos (good_graph hg)]
      rw [hM, Option.bind_some]
      have := steps_l0 (p := p) hg hE hd (innerL l a b).length 199999999 0 (by omega) (by have := hE.m6; omega)
      rw [List.take_zero] at this
      refine this.trans ?_
      have ho : expA l p a b = ratV (rd (stL l a b) p) (denOf l a b) := by unfold expA; rw [if_pos hok]
      rw [ho, hok]
      unfold stL
      rw [show (fun p => ((rd_L1 l p).length : Int)) = degOwn l from rfl, outL_at p0 p1]
      by_cases hpa : p = a
      · rw [if_neg (fun hm => (inner_mem hm).2.2.1 hpa), if_pos hpa, Int.zero_mul, ratV_zero hd]
      · by_cases hpb : p = b
        · rw [if_neg (fun hm => (inner_mem hm).2.2.2 hpb), if_neg hpa, if_pos hpb, Int.zero_mul, ratV_zero hd]
        · rw [if_pos (mem_inner p0 p1 hpa hpb), if_neg hpa, if_neg hpb]
end Go.Proofs.Ytnbnalbomflafaa.DT
/-! ## Dq -/
namespace Go.Proofs.Ytnbnalbomflafaa.DT
open Go.RowKit Go.Proofs.YtnbnalbomflafaaW.PrintWords Go.Proofs.YtnbnalbomflafaaW.PrintLast Go.Proofs.YtnbnalbomflafaaW.PrintMore
open Go.Proofs.Ytnbnalbomflafaa.GA hiding info37
open Go.Proofs.Ytnbnalbomflafaa.RA
set_option linter.unusedVariables false
set_option linter.unusedSimpArgs false
/-- The answers: a ratio. -/
def RatC (w : World) (R : Int × Int) (ok : Bool) (e : Ending) (w' : World) : Prop := e = .returned (.tuple #[.agg #[.int .i64 R.1, .int .i64 R.2], .bool ok]) ∧ Below w.heap.size w w'
theorem two_boxes (w : World) (gv : Value) : ((w.alloc (.cells #[gv] 30)).alloc (.cells #[.int .i64 0, .int .i64 0] 27)).heap[w.heap.size]? = some (.cells #[gv] 30 (0, 0)) ∧ ((w.alloc (.cells #[gv] 30)).alloc (.cells #[.int .i64 0, .int .i64 0] 27)).heap[w.heap.size + 1]? = some (.cells #[.int .i64 0, .int .i64 0] 27 (0, 0)) ∧ Below w.heap.size w ((w.alloc (.cells #[gv] 30)).alloc (.cells #[.int .i64 0, .int .i64 0] 27)) ∧ ((w.alloc (.cells #[gv] 30)).alloc (.cells #[.int .i64 0, .int .i64 0] 27)).heap.size = w.heap.size + 2 := by
  refine ⟨blk_alloc (blk_new _ _) _, ?_, ((Below.refl _ _).alloc (Nat.le_refl _) _).alloc (by simp) _, by simp⟩
  have := blk_new (w.alloc (.cells #[gv] 30)) (.cells #[.int .i64 0, .int .i64 0] 27)
  simpa using this
theorem ratio_c {x d : Int} (hx : x.natAbs ≤ 1000000000000000) (hd : 0 < d) (hd2 : d ≤ 50000000) (W : World) : Calls Try.prog 78 #[.int .i64 x, .int .i64 d] W fun e w' => e = .returned (.agg #[.int .i64 (ratV x d).1, .int .i64 (ratV x d).2]) ∧ Below W.heap.size W w' :=
  (GA.impl_ratio.calls 100000000 x d _ _ W (impl_ratio_f hx hd hd2 100000000 (Nat.le_refl _))).mono fun e w' h => by
    first
    | exact h
    | exact ⟨h.1, by obtain ⟨nd, hn⟩ := h.2; rw [hn]; exact pw_below_drewN (Below.refl _ _) nd⟩
set_option maxHeartbeats 4000000 in
set_option maxRecDepth 100000 in
theorem impl_ExpectedSteps_c (l : List (List Int)) (p a b : Int) (w : World) (v : Value) (hv : RowsC w v l) : Calls Try.prog 41 #[.agg #[v], .int .i64 p, .int .i64 a, .int .i64 b] w (RatC w (expA l p a b) (stepsOk l p a b)) := by
  have HV := Aside0.mk hv
  obtain ⟨A, c, rfl, hc_, hC_⟩ := hv
  obtain ⟨t1, t2, t3, t4⟩ := two_boxes w (.slice A l.length c)
  have T1 := Aside0.mk t1
  have T2 := Aside0.mk t2
  have T3 := Aside0.mk t3
  have hzero : stepsOk l p a b = false → expA l p a b = (0, 0) := fun h => by unfold expA; rw [h]; rfl
  clear t1 t2 t3 hc_
  cases h1 : goodB l a b with
  | false =>
    have hno : stepsOk l p a b = false := by unfold stepsOk; rw [h1]; rfl
    rw [hzero hno, hno]
    have H1 := Aside0.mk h1
    clear h1 hno hzero hC_
    go_enter Try.func41, Try.ntmps41
    go_upto_region 1 with (fail)
    generalize (w.alloc (.cells #[.slice A l.length c] 30)).alloc (.cells #[.int .i64 0, .int .i64 0] 27) = W1 at *
    have hb1 : W1.cell? ⟨w.heap.size, 0, none⟩ = some (.slice A l.length c) := (blk_cell T1.out 0).trans rfl
    go_upto_region 2 with (go_at_call 81; refine (canEnd_c l a b _ _ (HV.out.below T3.out)).mono ?_; rw [H1.out]; rintro e w2 ⟨rfl, hB⟩; have T2' := Aside0.mk ((hB.block (w.heap.size + 1) (by omega)).trans T2.out); have HB := Aside0.mk (T3.out.trans (hB.mono (by omega))); clear hB)
    have x0 := (blk_cell T2'.out 0).trans rfl
    have x1 := (blk_cell T2'.out 1).trans rfl
    have y0 := blk_frozen T2'.out 0
    have y1 := blk_frozen T2'.out 1
    go_wp2_with (fail)
    refine bodyPost_ret (results_ct rfl _ _ (w.heap.size + 1) 27 #[.int .i64 0, .int .i64 0] (0, 0) _ rfl (by refine blk_put (cs := #[.int .i64 0, .int .i64 0]) ?_ 1 _ rfl; refine blk_put (cs := #[.int .i64 0, .int .i64 0]) ?_ 0 _ rfl; exact T2'.out) Try.underlying27 rfl (by kernel_rfl)) rfl ?_
    exact ⟨rfl, (HB.out.setCell (p := ⟨w.heap.size + 1, 0, none⟩) (by show w.heap.size ≤ w.heap.size + 1; omega) _).setCell (p := ⟨w.heap.size + 1, 1, none⟩) (by show w.heap.size ≤ w.heap.size + 1; omega) _⟩
  | true =>
    have H1 := Aside0.mk h1
    cases h2 : KA.placeB l p with
    | false =>
      have hno : stepsOk l p a b = false := by unfold stepsOk; rw [h1, h2]; rfl
      rw [hzero hno, hno]
      have H2 := Aside0.mk h2
      clear h1 h2 hno hzero hC_
      go_enter Try.func41, Try.ntmps41
      go_upto_region 1 with (fail)
      generalize (w.alloc (.cells #[.slice A l.length c] 30)).alloc (.cells #[.int .i64 0, .int .i64 0] 27) = W1 at *
      have hb1 : W1.cell? ⟨w.heap.size, 0, none⟩ = some (.slice A l.length c) := (blk_cell T1.out 0).trans rfl
      go_upto_region 2 with (first | (go_at_call 81; refine (canEnd_c l a b _ _ (HV.out.below T3.out)).mono ?_; rw [H1.out]; rintro e w2 ⟨rfl, hB⟩; have T1' := Aside0.mk ((hB.block (w.heap.size) (by omega)).trans T1.out); have T2' := Aside0.mk ((hB.block (w.heap.size + 1) (by omega)).trans T2.out); have HB := Aside0.mk (T3.out.trans (hB.mono (by omega))); have hs2 := hB.size; have hb2 : w2.cell? ⟨w.heap.size, 0, none⟩ = some (.slice A l.length c) := (blk_cell T1'.out 0).trans rfl; clear hB) | (go_at_call 76; refine (has_c l p _ _ _ (HV.out.below (HB.out.alloc HB.out.size _)) (oneI_D _ w.heap.size p HB.out.size).reads).mono ?_; rw [H2.out]; rintro e w3 ⟨rfl, hB⟩; have T3' := Aside0.mk ((hB.block (w.heap.size + 1) (by simp; omega)).trans (blk_alloc T2'.out _)); have HB3 := Aside0.mk ((HB.out.alloc HB.out.size _).trans (hB.mono (by simp; omega))); clear hB))
      have x0 := (blk_cell T3'.out 0).trans rfl
      have x1 := (blk_cell T3'.out 1).trans rfl
      have y0 := blk_frozen T3'.out 0
      have y1 := blk_frozen T3'.out 1
      go_wp2_with (fail)
      refine bodyPost_ret (results_ct rfl _ _ (w.heap.size + 1) 27 #[.int .i64 0, .int .i64 0] (0, 0) _ rfl (by refine blk_put (cs := #[.int .i64 0, .int .i64 0]) ?_ 1 _ rfl; refine blk_put (cs := #[.int .i64 0, .int .i64 0]) ?_ 0 _ rfl; exact T3'.out) Try.underlying27 rfl (by kernel_rfl)) rfl ?_
      exact ⟨rfl, (HB3.out.setCell (p := ⟨w.heap.size + 1, 0, none⟩) (by show w.heap.size ≤ w.heap.size + 1; omega) _).setCell (p := ⟨w.heap.size + 1, 1, none⟩) (by show w.heap.size ≤ w.heap.size + 1; omega) _⟩
    | true =>
      have hyes : stepsOk l p a b = true := by unfold stepsOk; rw [h1, h2]; rfl
      have hval : expA l p a b = ratV (rd (stL l a b) p) (denOf l a b) := by unfold expA; rw [if_pos hyes]
      rw [hval, hyes]
      obtain ⟨hab, a0, a1, b0, b1, h8, h5, hq, _⟩ := good_facts h1
      obtain ⟨_, _, _, p0, p1⟩ := KA.place_is h2
      have hE : Eqs l (degOwn l) 0 a b := eqs_of h1 (sum_steps h5)
      have HD := Aside0.mk (den_pos h1)
      have HDB := Aside0.mk (den_bound hE)
      have HPB : Aside0 ((rd (stL l a b) p).natAbs ≤ 11250000) := ⟨out_bound hE (by omega) p0 p1⟩
      have HLN : Aside0 ((stL l a b).length = l.length) := ⟨by simp [stL, outL]⟩
      have H2 := Aside0.mk h2
      have HF := Aside0.mk (And.intro hab (And.intro h5 hq))
      have HC0 := Aside0.mk hC_
      clear h1 h2 hzero hyes hval hab h5 hq hE hC_
      obtain ⟨sl, HSL⟩ : ∃ sl, Aside0 (stL l a b = sl) := ⟨_, ⟨rfl⟩⟩
      rw [HSL.out] at HPB HLN ⊢
      obtain ⟨den, HDE⟩ : ∃ d, Aside0 (denOf l a b = d) := ⟨_, ⟨rfl⟩⟩
      rw [HDE.out] at HD HDB ⊢
      go_enter Try.func41, Try.ntmps41
      go_upto_region 1 with (fail)
      generalize (w.alloc (.cells #[.slice A l.length c] 30)).alloc (.cells #[.int .i64 0, .int .i64 0] 27) = W1 at *
      have hb1 : W1.cell? ⟨w.heap.size, 0, none⟩ = some (.slice A l.length c) := (blk_cell T1.out 0).trans rfl
      go_upto_region 3 with (first | (go_at_call 81; refine (canEnd_c l a b _ _ (HV.out.below T3.out)).mono ?_; rw [H1.out]; rintro e w2 ⟨rfl, hB⟩; have T1' := Aside0.mk ((hB.block (w.heap.size) (by omega)).trans T1.out); have T2' := Aside0.mk ((hB.block (w.heap.size + 1) (by omega)).trans T2.out); have HB := Aside0.mk (T3.out.trans (hB.mono (by omega))); have hs2 := hB.size; have hb2 : w2.cell? ⟨w.heap.size, 0, none⟩ = some (.slice A l.length c) := (blk_cell T1'.out 0).trans rfl; clear hB) | (go_at_call 76; refine (has_c l p _ _ _ (HV.out.below (HB.out.alloc HB.out.size _)) (oneI_D _ w.heap.size p HB.out.size).reads).mono ?_; rw [H2.out]; rintro e w3 ⟨rfl, hB⟩; have T4' := Aside0.mk ((hB.block (w.heap.size) (by simp; omega)).trans (blk_alloc T1'.out _)); have T3' := Aside0.mk ((hB.block (w.heap.size + 1) (by simp; omega)).trans (blk_alloc T2'.out _)); have HB3 := Aside0.mk ((HB.out.alloc HB.out.size _).trans (hB.mono (by simp; omega))); have hs3 := hB.size; have hb3 : w3.cell? ⟨w.heap.size, 0, none⟩ = some (.slice A l.length c) := (blk_cell T4'.out 0).trans rfl; clear hB))
      clear hb1 hb2
      have hs4 : w.heap.size + 2 ≤ w3.heap.size := by simp at hs3; omega
      have HC3 : Aside0 (Kd.C (Kd.slice 3 (Kd.int .i64)) w3 A l.length l) := ⟨Kd.C_below HC0.out HB3.out⟩
      have HV3 : Aside0 (RowsC w3 (.slice A l.length c) l) := ⟨HV.out.below HB3.out⟩
      go_upto_region 4 with (go_at_call 90; refine (solved_c l (degOwn l) 0 0 a b HF.out.1 a0 a1 b0 b1 h8 HF.out.2.1 HF.out.2.2 (by omega) (by omega) (sum_steps HF.out.2.1) 91 Try.f91 #[.pointer (some ⟨w.heap.size, 0, none⟩)] Try.func91 (by kernel_rfl) rfl _ _ HV3.out (fun W hBW q hq0 hq1 => ownD_c W l A c w.heap.size q hq0 hq1 (Kd.C_below HC3.out hBW) ((hBW.cell (p := ⟨w.heap.size, 0, none⟩) (by show w.heap.size < w3.heap.size; omega)).trans ((blk_cell T4'.out 0).trans rfl)))).mono ?_; rintro e w4 ⟨v1, out, rfl, hB, hL, hO⟩; have HL : Aside0 (ListD w4 w3.heap.size v1 sl) := ⟨by have e := out_is hO.out; rw [← HSL.out]; unfold stL; rw [show (fun p => ((rd_L1 l p).length : Int)) = degOwn l from rfl, ← e]; exact hL.out⟩; rw [HDE.out]; have T5' := Aside0.mk ((hB.block (w.heap.size + 1) (by omega)).trans T3'.out); have HB4 := Aside0.mk (HB3.out.trans (hB.mono (by omega))); obtain ⟨gs, cs, hv1⟩ := listD_form HL.out (by rw [HLN.out]; omega); subst hv1; clear hB hL hO)
      obtain ⟨_, hca, _⟩ := list_cells HL.out rfl
      have hpn : ((p.toNat : Nat) : Int) = p := by omega
      have xs := (hca p.toNat (by rw [HLN.out]; omega)).1
      rw [hpn] at xs
      have x0 := (blk_cell T5'.out 0).trans rfl
      have x1 := (blk_cell T5'.out 1).trans rfl
      have y0 := blk_frozen T5'.out 0
      have y1 := blk_frozen T5'.out 1
      rw [HLN.out]
      clear hca hpn
      obtain ⟨xv, HXV⟩ : ∃ xv, Aside0 (rd sl p = xv) := ⟨_, ⟨rfl⟩⟩
      rw [HXV.out] at xs HPB ⊢
      go_wp2_with (go_at_call 78; refine (ratio_c (x := xv) (d := den) (by have := HPB.out; omega) HD.out (by have := HDB.out; omega) _).mono ?_; rintro e w5 ⟨rfl, hB⟩; have T6' := Aside0.mk ((hB.block (w.heap.size + 1) (blk_lt T5'.out)).trans T5'.out); have HB5 := Aside0.mk (HB4.out.trans (hB.mono HB4.out.size)); have x0 := (blk_cell T6'.out 0).trans rfl; have x1 := (blk_cell T6'.out 1).trans rfl; have y0 := blk_frozen T6'.out 0; have y1 := blk_frozen T6'.out 1; clear hB)
      refine bodyPost_ret (results_ct rfl _ _ (w.heap.size + 1) 27 #[.int .i64 (ratV xv den).1, .int .i64 (ratV xv den).2] (0, 0) _ rfl (by refine blk_put (cs := #[.int .i64 (ratV xv den).1, .int .i64 0]) ?_ 1 _ rfl; refine blk_put (cs := #[.int .i64 0, .int .i64 0]) ?_ 0 _ rfl; exact T6'.out) Try.underlying27 rfl (by kernel_rfl)) rfl ?_
      exact ⟨by rw [HXV.out]; rfl, (HB5.out.setCell (p := ⟨w.heap.size + 1, 0, none⟩) (by show w.heap.size ≤ w.heap.size + 1; omega) _).setCell (p := ⟨w.heap.size + 1, 1, none⟩) (by show w.heap.size ≤ w.heap.size + 1; omega) _⟩
end Go.Proofs.Ytnbnalbomflafaa.DT
/-! ## Dr -/
namespace Go.Proofs.Ytnbnalbomflafaa.RA
open Go.RowKit Go.Proofs.YtnbnalbomflafaaW.PrintWords Go.Proofs.YtnbnalbomflafaaW.PrintLast Go.Proofs.YtnbnalbomflafaaW.PrintMore
open Go.Proofs.Ytnbnalbomflafaa.DT
set_option linter.unusedVariables false
set_option linter.unusedSimpArgs false
theorem eqRat_c (w : World) (x y : Int) : Calls Try.prog 23 #[.agg #[.int .i64 x, .int .i64 y], .agg #[.int .i64 x, .int .i64 y]] w fun e w' => e = .returned (.bool true) ∧ Below w.heap.size w w' :=
  GA.laws_eqRatio.calls x y x y true w (by simp [GA.laws_eqRatio.f])
theorem spec_ExpectedSteps_c (l : List (List Int)) (p a b : Int) (W : World) (v : Value) (hv : RowsC W v l) : Calls Try.prog 40 #[.agg #[v], .int .i64 p, .int .i64 a, .int .i64 b] W (RatC W (expA l p a b) (stepsOk l p a b)) := by
  obtain ⟨A, c, rfl, hc, hC⟩ := hv
  exact GT.spec_ExpectedSteps.calls 200000000 A c l p a b _ _ _ W hC hc (spec_steps_f l p a b)
end Go.Proofs.Ytnbnalbomflafaa.RA
/-! ## Rn -/
namespace Go.Proofs.Ytnbnalbomflafaa.RA
open Go.RowKit Go.Proofs.YtnbnalbomflafaaW.PrintWords Go.Proofs.YtnbnalbomflafaaW.PrintLast Go.Proofs.YtnbnalbomflafaaW.PrintMore
open Go.Proofs.Ytnbnalbomflafaa.DT
set_option linter.unusedVariables false
set_option linter.unusedSimpArgs false
def T9_10 : Bool × List (List Nat × List Nat) := (true, [([], []), ([], []), ([1], [1]), ([0, 2, 2], [0, 2]), ([3], [3])])
def B9_10 : List Nat := [0, 0, 2, 7, 15]
theorem tabT9_10 : rtab .any (opsOf Try.f9 10) = T9_10 := by kernel_rfl
theorem bitsB9_10 : waitsOk T9_10.2 B9_10 = true := by kernel_rfl
set_option maxHeartbeats 4000000 in
set_option maxRecDepth 100000 in
theorem law_ExpectedSteps.walk (v0 : Value) (l0 : List (List Int)) (a1 : Int) (a2 : Int) (a3 : Int) (w : World) (hv0 : RowsC w v0 l0)  : Calls Try.prog 9 #[.agg #[v0], .int .i64 a1, .int .i64 a2, .int .i64 a3] w fun e w' => e = .returned (.bool true) ∧ Below w.heap.size w w' := by
  have HS0 := Aside0.mk hv0
  clear hv0
  obtain ⟨z0, hz0⟩ : ∃ z, z = szZ l0 1048576 := ⟨_, rfl⟩
  rcases szZ_is l0 1048576 (by omega) with hq0 | ⟨hp0, hr0, hs0⟩
  · rw [← hz0] at hq0
    have hn0 : z0 < 0 := by omega
    replace hz0 := Aside0.mk hz0
    go_enter Try.func9, Try.ntmps9
    have HZ0 := Aside0.mk hz0.out
    go_upto_region 1 with (fail)
    have HBw : Aside0 (Below w.heap.size w (w.alloc (.cells #[v0] 24))) := ⟨(Below.refl w.heap.size w).alloc (by simp) _⟩
    have hzb : w.heap.size + 1 ≤ (w.alloc (.cells #[v0] 24)).heap.size := by simp
    have cx_0 : (w.alloc (.cells #[v0] 24)).cell? ⟨w.heap.size, 0, none⟩ = some v0 := box_10 w v0 24
    generalize (w.alloc (.cells #[v0] 24)) = Wb at *
    go_wp2_with (first | (go_at_call 19; refine (szG_c _ v0 l0 (HS0.out.below HBw.out) 1048576 (by omega)).mono ?_; rintro e W1 ⟨rfl, hB1⟩; rw [← HZ0.out]; have hz2 := hB1.size; have HB3 : Aside0 (Below w.heap.size w W1) := ⟨HBw.out.trans (hB1.mono (by omega))⟩; have cx4 : W1.cell? ⟨w.heap.size, 0, none⟩ = some v0 := (hB1.cell (p := ⟨w.heap.size, 0, none⟩) (show w.heap.size < Wb.heap.size by omega)).trans cx_0; clear cx_0; clear HBw; clear hB1))
    go_ret
    exact ⟨by first | rfl | trivial, HB3.out⟩
  · rw [← hz0] at hp0 hr0
    have hg0 : ¬ (z0 < 0) := by omega
    have HM : Aside0 (Small l0) := ⟨hs0⟩
    have ht0 : 0 ≤ tot l0 ∧ tot l0 ≤ 1048576 := ⟨tot_pos _, HM.out.2.1⟩
    have hk : ¬ (1 + tot l0 < 0) := by omega
    have HK0 : Aside0 (0 ≤ 1 + tot l0 ∧ 1 + tot l0 ≤ 100000000) := ⟨by omega⟩
    clear ht0
    obtain ⟨R, hR⟩ : ∃ R, R = expA l0 a1 a2 a3 := ⟨_, rfl⟩
    obtain ⟨ok, hok⟩ : ∃ ok, ok = stepsOk l0 a1 a2 a3 := ⟨_, rfl⟩
    have spec0 := fun W v hv => spec_ExpectedSteps_c l0 a1 a2 a3 W v hv
    have impl0 := fun W v hv => impl_ExpectedSteps_c l0 a1 a2 a3 W v hv
    rw [← hR, ← hok] at spec0 impl0
    have SP := Aside0.mk spec0
    have IM := Aside0.mk impl0
    clear hR hok spec0 impl0
    have HZ0 := Aside0.mk hz0
    clear hz0
    clear hs0
    go_enter Try.func9, Try.ntmps9
    go_upto_region 1 with (fail)
    have HBw : Aside0 (Below w.heap.size w (w.alloc (.cells #[v0] 24))) := ⟨(Below.refl w.heap.size w).alloc (by simp) _⟩
    have hzb : w.heap.size + 1 ≤ (w.alloc (.cells #[v0] 24)).heap.size := by simp
    have cx_0 : (w.alloc (.cells #[v0] 24)).cell? ⟨w.heap.size, 0, none⟩ = some v0 := box_10 w v0 24
    generalize (w.alloc (.cells #[v0] 24)) = Wb at *
    go_upto_region 5 with (first | (go_at_call 19; refine (szG_c _ v0 l0 (HS0.out.below HBw.out) 1048576 (by omega)).mono ?_; rintro e W1 ⟨rfl, hB5⟩; rw [← HZ0.out]; have hz6 := hB5.size; have HB7 : Aside0 (Below w.heap.size w W1) := ⟨HBw.out.trans (hB5.mono (by omega))⟩; have cx8 : W1.cell? ⟨w.heap.size, 0, none⟩ = some v0 := (hB5.cell (p := ⟨w.heap.size, 0, none⟩) (show w.heap.size < Wb.heap.size by omega)).trans cx_0; clear cx_0; clear HBw; clear hB5))
    clear HZ0
    go_upto_region 6 with (first | (go_at_call 21; refine (toG_c _ v0 l0 (HS0.out.below HB7.out) HM.out).mono ?_; rintro e W2 ⟨v9, rfl, hB10, hD11⟩; have hz12 := hB10.size; have HB13 : Aside0 (Below w.heap.size w W2) := ⟨HB7.out.trans (hB10.mono (by omega))⟩; have cx14 : W2.cell? ⟨w.heap.size, 0, none⟩ = some v0 := (hB10.cell (p := ⟨w.heap.size, 0, none⟩) (show w.heap.size < W1.heap.size by omega)).trans cx8; clear cx8; clear HB7; have HD15 := Aside0.mk hD11.out.toU; clear hD11) | (go_at_call 40; refine (SP.out _ v9 HD15.out.reads).mono ?_; rintro e W3 ⟨rfl, hB16⟩; have hz17 := hB16.size; have HB18 : Aside0 (Below w.heap.size w W3) := ⟨HB13.out.trans (hB16.mono (by omega))⟩; have HD19 := Aside0.mk (HD15.out.below (by omega) hB16); have cx20 : W3.cell? ⟨w.heap.size, 0, none⟩ = some v0 := (hB16.cell (p := ⟨w.heap.size, 0, none⟩) (show w.heap.size < W2.heap.size by omega)).trans cx14; clear cx14; clear HB13 HD15; clear hB16))
    have hB21 : Below W3.heap.size W3 (W3.alloc (.cells #[.int .i64 R.1, .int .i64 R.2] 27)) := (Below.refl _ _).alloc (Nat.le_refl _) _
    have cx22 : (W3.alloc (.cells #[.int .i64 R.1, .int .i64 R.2] 27)).cell? ⟨W3.heap.size, 0, none⟩ = some (.int .i64 R.1) := (blk_cell (blk_new _ _) 0).trans rfl
    have cx23 : (W3.alloc (.cells #[.int .i64 R.1, .int .i64 R.2] 27)).cell? ⟨W3.heap.size, 1, none⟩ = some (.int .i64 R.2) := (blk_cell (blk_new _ _) 1).trans rfl
    have hz24 : W3.heap.size < (W3.alloc (.cells #[.int .i64 R.1, .int .i64 R.2] 27)).heap.size := by simp
    generalize (W3.alloc (.cells #[.int .i64 R.1, .int .i64 R.2] 27)) = W4 at *
    have hz25 := hB21.size
    have HB26 : Aside0 (Below w.heap.size w W4) := ⟨HB18.out.trans (hB21.mono (by omega))⟩
    have HD27 := Aside0.mk (HD19.out.below (by omega) hB21)
    have cx28 : W4.cell? ⟨w.heap.size, 0, none⟩ = some v0 := (hB21.cell (p := ⟨w.heap.size, 0, none⟩) (show w.heap.size < W3.heap.size by omega)).trans cx20
    clear cx20
    clear HB18 HD19
    clear HD27
    go_upto_region 7 with (first | (go_at_call 21; refine (toG_c _ v0 l0 (HS0.out.below HB26.out) HM.out).mono ?_; rintro e W5 ⟨v29, rfl, hB30, hD31⟩; obtain ⟨A32, c33, hv_, _⟩ := hD31.out.slice; subst hv_; have hz34 := hB30.size; have HB35 : Aside0 (Below w.heap.size w W5) := ⟨HB26.out.trans (hB30.mono (by omega))⟩; have cx36 : W5.cell? ⟨w.heap.size, 0, none⟩ = some v0 := (hB30.cell (p := ⟨w.heap.size, 0, none⟩) (show w.heap.size < W4.heap.size by omega)).trans cx28; have cx37 : W5.cell? ⟨W3.heap.size, 0, none⟩ = some (.int .i64 R.1) := (hB30.cell (p := ⟨W3.heap.size, 0, none⟩) (show W3.heap.size < W4.heap.size by omega)).trans cx22; have cx38 : W5.cell? ⟨W3.heap.size, 1, none⟩ = some (.int .i64 R.2) := (hB30.cell (p := ⟨W3.heap.size, 1, none⟩) (show W3.heap.size < W4.heap.size by omega)).trans cx23; clear cx28 cx22 cx23; clear HB26; have HD39 := Aside0.mk hD31.out.toU; clear hD31))
    have hB40 : Below W5.heap.size W5 (W5.alloc (.cells #[(.slice A32 l0.length c33)] 30)) := (Below.refl _ _).alloc (Nat.le_refl _) _
    have cx41 : (W5.alloc (.cells #[(.slice A32 l0.length c33)] 30)).cell? ⟨W5.heap.size, 0, none⟩ = some (.slice A32 l0.length c33) := (blk_cell (blk_new _ _) 0).trans rfl
    have hz42 : W5.heap.size < (W5.alloc (.cells #[(.slice A32 l0.length c33)] 30)).heap.size := by simp
    generalize (W5.alloc (.cells #[(.slice A32 l0.length c33)] 30)) = W6 at *
    have hz43 := hB40.size
    have HB44 : Aside0 (Below w.heap.size w W6) := ⟨HB35.out.trans (hB40.mono (by omega))⟩
    have HD45 := Aside0.mk (HD39.out.below (by omega) hB40)
    have cx46 : W6.cell? ⟨w.heap.size, 0, none⟩ = some v0 := (hB40.cell (p := ⟨w.heap.size, 0, none⟩) (show w.heap.size < W5.heap.size by omega)).trans cx36
    have cx47 : W6.cell? ⟨W3.heap.size, 0, none⟩ = some (.int .i64 R.1) := (hB40.cell (p := ⟨W3.heap.size, 0, none⟩) (show W3.heap.size < W5.heap.size by omega)).trans cx37
    have cx48 : W6.cell? ⟨W3.heap.size, 1, none⟩ = some (.int .i64 R.2) := (hB40.cell (p := ⟨W3.heap.size, 1, none⟩) (show W3.heap.size < W5.heap.size by omega)).trans cx38
    clear cx36 cx37 cx38
    clear HB35 HD39
    go_upto_region 8 with (first | (go_at_call 41; refine (IM.out _ (.slice A32 l0.length c33) HD45.out.reads).mono ?_; rintro e W7 ⟨rfl, hB49⟩; have hz50 := hB49.size; have HB51 : Aside0 (Below w.heap.size w W7) := ⟨HB44.out.trans (hB49.mono (by omega))⟩; have HD52 := Aside0.mk (HD45.out.below (by omega) hB49); have cx53 : W7.cell? ⟨w.heap.size, 0, none⟩ = some v0 := (hB49.cell (p := ⟨w.heap.size, 0, none⟩) (show w.heap.size < W6.heap.size by omega)).trans cx46; have cx54 : W7.cell? ⟨W3.heap.size, 0, none⟩ = some (.int .i64 R.1) := (hB49.cell (p := ⟨W3.heap.size, 0, none⟩) (show W3.heap.size < W6.heap.size by omega)).trans cx47; have cx55 : W7.cell? ⟨W3.heap.size, 1, none⟩ = some (.int .i64 R.2) := (hB49.cell (p := ⟨W3.heap.size, 1, none⟩) (show W3.heap.size < W6.heap.size by omega)).trans cx48; have cx56 : W7.cell? ⟨W5.heap.size, 0, none⟩ = some (.slice A32 l0.length c33) := (hB49.cell (p := ⟨W5.heap.size, 0, none⟩) (show W5.heap.size < W6.heap.size by omega)).trans cx41; clear cx46 cx47 cx48 cx41; clear HB44 HD45; clear hB49))
    have hB57 : Below W7.heap.size W7 (W7.alloc (.cells #[.int .i64 R.1, .int .i64 R.2] 27)) := (Below.refl _ _).alloc (Nat.le_refl _) _
    have cx58 : (W7.alloc (.cells #[.int .i64 R.1, .int .i64 R.2] 27)).cell? ⟨W7.heap.size, 0, none⟩ = some (.int .i64 R.1) := (blk_cell (blk_new _ _) 0).trans rfl
    have cx59 : (W7.alloc (.cells #[.int .i64 R.1, .int .i64 R.2] 27)).cell? ⟨W7.heap.size, 1, none⟩ = some (.int .i64 R.2) := (blk_cell (blk_new _ _) 1).trans rfl
    have hz60 : W7.heap.size < (W7.alloc (.cells #[.int .i64 R.1, .int .i64 R.2] 27)).heap.size := by simp
    generalize (W7.alloc (.cells #[.int .i64 R.1, .int .i64 R.2] 27)) = W8 at *
    have hz61 := hB57.size
    have HB62 : Aside0 (Below w.heap.size w W8) := ⟨HB51.out.trans (hB57.mono (by omega))⟩
    have HD63 := Aside0.mk (HD52.out.below (by omega) hB57)
    have cx64 : W8.cell? ⟨w.heap.size, 0, none⟩ = some v0 := (hB57.cell (p := ⟨w.heap.size, 0, none⟩) (show w.heap.size < W7.heap.size by omega)).trans cx53
    have cx65 : W8.cell? ⟨W3.heap.size, 0, none⟩ = some (.int .i64 R.1) := (hB57.cell (p := ⟨W3.heap.size, 0, none⟩) (show W3.heap.size < W7.heap.size by omega)).trans cx54
    have cx66 : W8.cell? ⟨W3.heap.size, 1, none⟩ = some (.int .i64 R.2) := (hB57.cell (p := ⟨W3.heap.size, 1, none⟩) (show W3.heap.size < W7.heap.size by omega)).trans cx55
    have cx67 : W8.cell? ⟨W5.heap.size, 0, none⟩ = some (.slice A32 l0.length c33) := (hB57.cell (p := ⟨W5.heap.size, 0, none⟩) (show W5.heap.size < W7.heap.size by omega)).trans cx56
    clear cx53 cx54 cx55 cx56
    clear HB51 HD52
    go_upto_region 10 with (first | (go_at_call 23; refine (eqRat_c _ R.1 R.2).mono ?_; rintro e W9 ⟨rfl, hB68⟩; have hz69 := hB68.size; have HB70 : Aside0 (Below w.heap.size w W9) := ⟨HB62.out.trans (hB68.mono (by omega))⟩; have HD71 := Aside0.mk (HD63.out.below (by omega) hB68); have cx72 : W9.cell? ⟨w.heap.size, 0, none⟩ = some v0 := (hB68.cell (p := ⟨w.heap.size, 0, none⟩) (show w.heap.size < W8.heap.size by omega)).trans cx64; have cx73 : W9.cell? ⟨W3.heap.size, 0, none⟩ = some (.int .i64 R.1) := (hB68.cell (p := ⟨W3.heap.size, 0, none⟩) (show W3.heap.size < W8.heap.size by omega)).trans cx65; have cx74 : W9.cell? ⟨W3.heap.size, 1, none⟩ = some (.int .i64 R.2) := (hB68.cell (p := ⟨W3.heap.size, 1, none⟩) (show W3.heap.size < W8.heap.size by omega)).trans cx66; have cx75 : W9.cell? ⟨W5.heap.size, 0, none⟩ = some (.slice A32 l0.length c33) := (hB68.cell (p := ⟨W5.heap.size, 0, none⟩) (show W5.heap.size < W8.heap.size by omega)).trans cx67; have cx76 : W9.cell? ⟨W7.heap.size, 0, none⟩ = some (.int .i64 R.1) := (hB68.cell (p := ⟨W7.heap.size, 0, none⟩) (show W7.heap.size < W8.heap.size by omega)).trans cx58; have cx77 : W9.cell? ⟨W7.heap.size, 1, none⟩ = some (.int .i64 R.2) := (hB68.cell (p := ⟨W7.heap.size, 1, none⟩) (show W7.heap.size < W8.heap.size by omega)).trans cx59; clear cx64 cx65 cx66 cx67 cx58 cx59; clear HB62 HD63; clear hB68))
    go_upto_region 10 with (fail)
    have HB78 : Aside0 (Below w.heap.size w W9.drew) := ⟨pw_below_drewN HB70.out 1⟩
    have HD79 : Aside0 (RowsU W9.drew W4.heap.size W5.heap.size (.slice A32 l0.length c33) l0) := ⟨HD71.out.drewN 1⟩
    clear HD71
    have cx80 : W9.drew.cell? ⟨w.heap.size, 0, none⟩ = some v0 := cx72
    have cx81 : W9.drew.cell? ⟨W3.heap.size, 0, none⟩ = some (.int .i64 R.1) := cx73
    have cx82 : W9.drew.cell? ⟨W3.heap.size, 1, none⟩ = some (.int .i64 R.2) := cx74
    have cx83 : W9.drew.cell? ⟨W5.heap.size, 0, none⟩ = some (.slice A32 l0.length c33) := cx75
    have cx84 : W9.drew.cell? ⟨W7.heap.size, 0, none⟩ = some (.int .i64 R.1) := cx76
    have cx85 : W9.drew.cell? ⟨W7.heap.size, 1, none⟩ = some (.int .i64 R.2) := cx77
    clear cx72 cx73 cx74 cx75 cx76 cx77
    have hz86 : W9.heap.size ≤ W9.drew.heap.size := by simp
    refine start_ (n := 5) (S := fun w' => w'.cell? ⟨w.heap.size, 0, none⟩ = some v0 ∧ w'.cell? ⟨W3.heap.size, 0, none⟩ = some (.int .i64 R.1) ∧ w'.cell? ⟨W3.heap.size, 1, none⟩ = some (.int .i64 R.2) ∧ w'.cell? ⟨W5.heap.size, 0, none⟩ = some (.slice A32 l0.length c33) ∧ w'.cell? ⟨W7.heap.size, 0, none⟩ = some (.int .i64 R.1) ∧ w'.cell? ⟨W7.heap.size, 1, none⟩ = some (.int .i64 R.2)) (ds := []) #[false, false, false, false, false] (by kernel_rfl) rfl rfl ⟨cx80, cx81, cx82, cx83, cx84, cx85⟩ (fun hHeld => ?_)
    refine with_tabW tabT9_10 bitsB9_10 (fun HT_ HW_ => ?_)
    generalize W9.drew = W10 at *
    refine take_ (i := 0) (N := some 48) (v := ?_) (a' := ?_) #[true, false, false, false, false] rfl rfl (take_ofW HT_.out HW_.out (by kernel_rfl)) (fun _ _ _ h => h) (Or.inl ⟨by rfl, ?_⟩) hHeld ?_ ?_
    rotate_left
    · rintro w' ⟨s0, s1, s2, s3, s4, s5⟩
      go_simp
      with_reducible rfl
    rotate_left
    · simp only [Act.put, List.setIfInBounds_toArray, List.set_cons_zero, List.set_cons_succ, i64_w, i32_w]
      rfl
    refine take_ (i := 1) (N := some 49) (v := ?_) (a' := ?_) #[true, true, false, false, false] rfl rfl (take_ofW HT_.out HW_.out (by kernel_rfl)) (fun _ _ _ h => h) (Or.inl ⟨by rfl, ?_⟩) hHeld ?_ ?_
    rotate_left
    · rintro w' ⟨s0, s1, s2, s3, s4, s5⟩
      go_simp
      with_reducible rfl
    rotate_left
    · simp only [Act.put, List.setIfInBounds_toArray, List.set_cons_zero, List.set_cons_succ, i64_w, i32_w]
      rfl
    refine one_ (i := 2) (N := some 50) #[true, true, true, false, false] rfl rfl (one_of HT_.out (by kernel_rfl)) (by decide) (fun K hK => ?_)
    refine goes_ Try.func21 (by kernel_rfl) rfl #[.agg #[v0]] (by rfl) rfl rfl (by (try simp only [List.map_toArray, List.map_cons, List.map_nil]); first | done | rfl) ?_
    (with_reducible refine (toG_c _ v0 l0 (HS0.out.below HB78.out) HM.out).mono ?_; rintro e W11 ⟨v87, rfl, hB88, hD89⟩; have hz90 := hB88.size; have HB91 : Aside0 (Below w.heap.size w W11) := ⟨HB78.out.trans (hB88.mono (by omega))⟩; have HD92 := Aside0.mk (HD79.out.below (by omega) hB88); have cx93 : W11.cell? ⟨w.heap.size, 0, none⟩ = some v0 := (hB88.cell (p := ⟨w.heap.size, 0, none⟩) (show w.heap.size < W10.heap.size by omega)).trans cx80; have cx94 : W11.cell? ⟨W3.heap.size, 0, none⟩ = some (.int .i64 R.1) := (hB88.cell (p := ⟨W3.heap.size, 0, none⟩) (show W3.heap.size < W10.heap.size by omega)).trans cx81; have cx95 : W11.cell? ⟨W3.heap.size, 1, none⟩ = some (.int .i64 R.2) := (hB88.cell (p := ⟨W3.heap.size, 1, none⟩) (show W3.heap.size < W10.heap.size by omega)).trans cx82; have cx96 : W11.cell? ⟨W5.heap.size, 0, none⟩ = some (.slice A32 l0.length c33) := (hB88.cell (p := ⟨W5.heap.size, 0, none⟩) (show W5.heap.size < W10.heap.size by omega)).trans cx83; have cx97 : W11.cell? ⟨W7.heap.size, 0, none⟩ = some (.int .i64 R.1) := (hB88.cell (p := ⟨W7.heap.size, 0, none⟩) (show W7.heap.size < W10.heap.size by omega)).trans cx84; have cx98 : W11.cell? ⟨W7.heap.size, 1, none⟩ = some (.int .i64 R.2) := (hB88.cell (p := ⟨W7.heap.size, 1, none⟩) (show W7.heap.size < W10.heap.size by omega)).trans cx85; clear cx80 cx81 cx82 cx83 cx84 cx85; clear HB78 HD79; have HD99 := Aside0.mk hD89.out.toU; clear hD89)
    refine ⟨_, rfl, ?_⟩
    refine hK.out _ _ ⟨cx93, cx94, cx95, cx96, cx97, cx98⟩ (fun hHeld => ?_)
    clear hK K
    refine norm_ (a' := ?_) ?_ ?_
    rotate_left
    · show Act.put _ (some 50) _ = _
      simp only [Act.put, List.setIfInBounds_toArray, List.set_cons_zero, List.set_cons_succ, i64_w, i32_w]
      rfl
    refine one_ (i := 3) (N := some 51) #[true, true, true, true, false] rfl rfl (one_of HT_.out (by kernel_rfl)) (by decide) (fun K hK => ?_)
    refine goes_ Try.func24 (by kernel_rfl) rfl #[.agg #[(.slice A32 l0.length c33)], .agg #[v87]] (by rfl) rfl rfl (by (try simp only [List.map_toArray, List.map_cons, List.map_nil]); first | done | rfl) ?_
    (with_reducible refine (eqG_c _ (.slice A32 l0.length c33) v87 l0 HD92.out.reads HD99.out.reads HM.out).mono ?_; rintro e W12 ⟨rfl, hB100⟩; have hz101 := hB100.size; have HB102 : Aside0 (Below w.heap.size w W12) := ⟨HB91.out.trans (hB100.mono (by omega))⟩; have HD103 := Aside0.mk (HD92.out.below (by omega) hB100); have HD104 := Aside0.mk (HD99.out.below (by omega) hB100); have cx105 : W12.cell? ⟨w.heap.size, 0, none⟩ = some v0 := (hB100.cell (p := ⟨w.heap.size, 0, none⟩) (show w.heap.size < W11.heap.size by omega)).trans cx93; have cx106 : W12.cell? ⟨W3.heap.size, 0, none⟩ = some (.int .i64 R.1) := (hB100.cell (p := ⟨W3.heap.size, 0, none⟩) (show W3.heap.size < W11.heap.size by omega)).trans cx94; have cx107 : W12.cell? ⟨W3.heap.size, 1, none⟩ = some (.int .i64 R.2) := (hB100.cell (p := ⟨W3.heap.size, 1, none⟩) (show W3.heap.size < W11.heap.size by omega)).trans cx95; have cx108 : W12.cell? ⟨W5.heap.size, 0, none⟩ = some (.slice A32 l0.length c33) := (hB100.cell (p := ⟨W5.heap.size, 0, none⟩) (show W5.heap.size < W11.heap.size by omega)).trans cx96; have cx109 : W12.cell? ⟨W7.heap.size, 0, none⟩ = some (.int .i64 R.1) := (hB100.cell (p := ⟨W7.heap.size, 0, none⟩) (show W7.heap.size < W11.heap.size by omega)).trans cx97; have cx110 : W12.cell? ⟨W7.heap.size, 1, none⟩ = some (.int .i64 R.2) := (hB100.cell (p := ⟨W7.heap.size, 1, none⟩) (show W7.heap.size < W11.heap.size by omega)).trans cx98; clear cx93 cx94 cx95 cx96 cx97 cx98; clear HB91 HD92 HD99; clear hB100)
    refine ⟨_, rfl, ?_⟩
    refine hK.out _ _ ⟨cx105, cx106, cx107, cx108, cx109, cx110⟩ (fun hHeld => ?_)
    clear hK K
    refine norm_ (a' := ?_) ?_ ?_
    rotate_left
    · show Act.put _ (some 51) _ = _
      simp only [Act.put, List.setIfInBounds_toArray, List.set_cons_zero, List.set_cons_succ, i64_w, i32_w]
      rfl
    refine pure_ (i := 4) (N := some 52) (v := ?_) (a' := ?_) #[true, true, true, true, true] rfl rfl (any_of HT_.out (by kernel_rfl)) (fun _ _ _ h => h) (Or.inl ⟨by rfl, ?_⟩) ?_ ?_
    rotate_left
    · intro w'
      go_simp
      with_reducible rfl
    rotate_left
    · simp only [Act.put, List.setIfInBounds_toArray, List.set_cons_zero, List.set_cons_succ, i64_w, i32_w]
      rfl
    refine done_ (done_of HT_.out (by kernel_rfl)) ?_
    clear HT_ HW_ hHeld
    clear HD104
    go_wp2_with (fail)
    go_ret
    exact ⟨by first | rfl | trivial, HB102.out⟩
end Go.Proofs.Ytnbnalbomflafaa.RA
/-! ## Kr -/
namespace Go.Proofs.Ytnbnalbomflafaa.KR
open Go.RowKit Go.Proofs.YtnbnalbomflafaaW.PrintWords
open Go.ChangeShapes Go.WideShapes Go.Deep
set_option linter.unusedVariables false
structure RowsIn (W : World) (A : Option Addr) (n c : Nat) (l : List (List Int)) : Prop where
  len : n = l.length
  le : l.length ≤ c
  reads : Kd.C (Kd.slice 3 (Kd.int .i64)) W A l.length l
  wf : ∀ r ∈ l, ∀ x ∈ r, (Lit.int .i64 x).wf = true
  small : ∀ r ∈ l, r.length ≤ 9223372036854775807
theorem reads_of {W : World} {a' : Option Addr} {n c : Nat} {zs : List Int} (hl : n ≤ c) (hm : c ≤ maxLen) (hz : zs.length = c) (hn : a' = none → c = 0)
    (hc : ∀ ad, a' = some ad → ∀ j, j < c → W.cell? (ad.add j) = some (.int .i64 (zs.getD j 0))) : Kd.C (Kd.int .i64) W a' (zs.take n).length (zs.take n) := by
  have hln : (zs.take n).length = n := by rw [List.length_take]; omega
  rw [hln]
  refine Kd.C_of_reads (d := 0) ⟨hln, by unfold maxLen at hm; omega, fun h0 => ?_⟩
  cases a' with
  | none => have := hn rfl; omega
  | some ad =>
    refine ⟨ad, rfl, fun j hj => ?_⟩
    rw [hc ad rfl j (by omega)]
    simp [List.getD_eq_getElem?_getD, hj]
theorem array1 {α : Type} {cs : Array α} (h : cs.size = 1) : ∃ c0, cs = #[c0] := by
  obtain ⟨l⟩ := cs
  match l, h with
  | [c0], _ => exact ⟨c0, rfl⟩
section
variable {H : Type} {enc : TypeId × Value → H} {W : World} {base : Nat} {held : Bool}
theorem rows_of {fuel : Nat} {cs : List Value} {x : DataW H × List MemPlace} (h : DataW.trod enc Try.prog W base (fun _ => true) held fuel 22 cs = some x) : ∃ A n c l, cs = [.slice A n c] ∧ RowsIn W A n c l := by
  rcases open_int_rows Try.underlying22 Try.underlying37 Try.underlying3 (by kernel_rfl) (by kernel_rfl) h with ⟨rfl, _⟩ | ⟨a, len, cap, A, L, C, Z, rfl, hb, hl, hm, hx, hr⟩
  · exact ⟨none, 0, 0, [], rfl, rfl, Nat.le_refl _, Kd.C_nil _ _, by simp, by simp⟩
  · refine ⟨some a, len, cap, (List.range len).map fun r => (Z r).take (L r), rfl, by simp, by simpa using hl, ?_, ?_, ?_⟩
    · refine ⟨by simp, by simp; unfold maxLen at hm; omega, fun h0 => ⟨a, rfl, fun j p hj => ?_⟩⟩
      have hjl : j < len := by
        have := (List.getElem?_eq_some_iff.1 hj).1
        simpa using this
      obtain ⟨hc, h1, h2, h3, h4, h5, h6⟩ := hr j (by omega)
      have hp : p = (Z j).take (L j) := by
        rw [List.getElem?_map, List.getElem?_range hjl] at hj
        exact (Option.some.inj hj).symm
      have hpl : p.length = L j := by rw [hp, List.length_take]; omega
      refine ⟨[.slice (A j) p.length (C j)], rfl, ⟨A j, C j, rfl, by omega, ?_⟩, fun i u hu => ?_⟩
      · rw [hp]
        exact reads_of h1 h2 h3 h5 (fun ad e i hi => (h6 ad e).2 i hi)
      · have hi : i = 0 := by
          have := (List.getElem?_eq_some_iff.1 hu).1
          simp at this
          exact this
        subst hi
        simp at hu
        rw [← hu, hpl]
        have e : j * (Kd.slice 3 (Kd.int .i64)).sz + 0 = j := by show j * 1 + 0 = j; omega
        rw [e]
        exact hc
    · intro r hr' x hx'
      obtain ⟨j, hj, rfl⟩ := List.mem_map.1 hr'
      have := List.mem_range.1 hj
      exact (hr j (by omega)).2.2.2.2.1 x (List.mem_of_mem_take hx')
    · intro r hr'
      obtain ⟨j, hj, rfl⟩ := List.mem_map.1 hr'
      have hj := List.mem_range.1 hj
      have h1 := (hr j (by omega)).2.1
      have h2 := (hr j (by omega)).2.2.1
      unfold maxLen at h2
      rw [List.length_take]
      omega
set_option maxRecDepth 100000 in
theorem open_graph {r : Reach} {b0 t : Nat} {f0 : Field} {v : Value} {d : DataW H} {p : List MemPlace} (hs : Try.prog.underlying t = some (.struct #[f0])) (hC : Try.prog.cellsOf t = 1) (hf : f0.type = 22) (ho : f0.offset = 0)
    (hv : Value.okWide Try.prog W r b0 t v) (h : DataW.Trod enc Try.prog W base (fun _ => true) held t v d p) : ∃ A n c l, v = .agg #[.slice A n c] ∧ RowsIn W A n c l := by
  obtain ⟨cs, rfl, hsz⟩ := okWide_struct hs hv
  obtain ⟨c0, rfl⟩ := array1 (hsz.trans hC)
  obtain ⟨fuel, hfu⟩ := h
  obtain ⟨y0, n, hx, _, h0⟩ := trod_struct1 hs hfu
  have hc22 : Try.prog.cellsOf 22 = 1 := by kernel_rfl
  rw [hf, ho, hc22] at h0
  obtain ⟨A, m, c, l, hcs, hR⟩ := rows_of h0
  have e : c0 = .slice A m c := by simpa [Value.cells] using hcs
  subst e
  exact ⟨A, m, c, l, rfl, hR⟩
end
end Go.Proofs.Ytnbnalbomflafaa.KR
