/-
  Texts of the seat, merged (part 5).
-/
import Derived.Test.YtnbnalbomflafaaProg
import Derived.Below
import Derived.Deep.Draws
import Derived.Deep.AppendLies
import Derived.Maps.AppendAt
import Derived.OwnWalk
import Derived.Laws.BytesArg
import Derived.Laws.MakeOwn
import Derived.Laws.OwnMore
import Derived.Deep.OwnRows
import Derived.Tactics
import Derived.Lib.ConvBytes
import Derived.Laws.Slices
import Derived.WalkKit
import Derived.KernelRfl
import Derived.RowKit3
import Derived.Deep.LoopGhost
import Derived.Deep.QuietTactic
import Derived.BigQuiet
import Derived.WideLaws
import Derived.Deep.DeepCutAuto
import Derived.Deep.CutBlock
import Derived.Deep.RegionHeld3
import Derived.Laws.Rows
import Derived.Lib.AppendStr
import Derived.ArgAppend
import Derived.Laws.IdiomCopy
import Derived.OrdersHeld
import Derived.Laws.BitsLemmas
import Derived.RowKit
import Derived.Test.YtnbnalbomflafaaX10WWords
import Derived.Test.YtnbnalbomflafaaX10WLast
import Derived.Test.YtnbnalbomflafaaX10WTab
import Derived.Test.YtnbnalbomflafaaX10WFour
import Derived.Test.YtnbnalbomflafaaX10WQPut
import Derived.Test.YtnbnalbomflafaaX10WApart
import Derived.Test.YtnbnalbomflafaaX10WArr
import Derived.Test.YtnbnalbomflafaaX10WZeros
import Derived.Test.YtnbnalbomflafaaX10WFoot
import Derived.Test.YtnbnalbomflafaaX10WKept
import Derived.Test.YtnbnalbomflafaaX10WShare
import Derived.Test.YtnbnalbomflafaaX10WN
import Derived.Test.YtnbnalbomflafaaX10WFootNe
import Derived.Test.YtnbnalbomflafaaX10WAt
import Derived.Test.YtnbnalbomflafaaX10WEqStruct
import Derived.Test.YtnbnalbomflafaaX10WRepsOne
import Derived.Test.YtnbnalbomflafaaX10WInv
import Derived.Test.YtnbnalbomflafaaX10WInvWords
import Derived.Test.YtnbnalbomflafaaX10WGuard
import Derived.Test.YtnbnalbomflafaaX10WNEv
import Derived.Test.YtnbnalbomflafaaX10WMore
import Derived.Deep.Matrix
import Derived.Lib.SmallJoins
import Derived.ProofKit
import Derived.OpenShut
import Derived.ChangeSame
import Derived.Test.YtnbnalbomflafaaX104
/-! ## GT2 -/
namespace Go.Proofs.Ytnbnalbomflafaa.GT
open Go.RowKit Go.Proofs.YtnbnalbomflafaaW.PrintWords Go.Proofs.YtnbnalbomflafaaW.PrintLast Go.Proofs.YtnbnalbomflafaaW.PrintMore
open Go.Proofs.Ytnbnalbomflafaa.GA Go.Proofs.Ytnbnalbomflafaa.GB Go.Proofs.Ytnbnalbomflafaa.GD Go.Proofs.Ytnbnalbomflafaa.KA Go.Proofs.Ytnbnalbomflafaa.GR Go.Proofs.Ytnbnalbomflafaa.GQ Go.Proofs.Ytnbnalbomflafaa.DT
attribute [local go_sem] RA.field80_0 RA.field80_1 RA.field80_2 max2_int min2_int max_two min_two max_three min_three max_four min_four   -- for this text's walks alone
set_option linter.unusedVariables false
set_option linter.unusedSimpArgs false
mutual
def spec_hiChances.l0 : Nat → Int → Int → List Int → List (List Int) → List Int → List Int → Int → Int → List (List Int) → Option ((List (S27)))
  | 0, _, _, _, _, _, _, _, _, _ => none
  | k + 1, x1, x2, x7, x8, x9, x27, x28, x29, x208000 => if x29 < x28 then (if 0 ≤ x29 then (if x29 < (x27.length : Int) then (if 0 ≤ (rd x27 x29) then (if (rd x27 x29) < (x208000.length : Int) then (spec_hiChances.l1 k x1 x2 x7 x8 x9 0 x27 x28 x29 (rd_L1 x208000 (rd x27 x29)) ((rd_L1 x208000 (rd x27 x29)).length : Int) 0 x208000) else (none)) else (none)) else (none)) else (none)) else ((spec_hiSolve.f k x8 x9).bind fun bt220 => (if 0 ≤ (x208000.length : Int) then (if ((x208000.length : Int) : Int).toNat ≤ 17592186044416 then ((some (List.replicate ((x208000.length : Int) : Int).toNat z27 : List (S27))).bind fun y224 => (if 0 ≤ x1 then (if x1 < (y224.length : Int) then (if 0 ≤ x2 then (if x2 < (y224.length : Int) then (spec_hiChances.l2 k bt220.1 bt220.2 ((y224.set (x1 : Int).toNat (⟨1, 1⟩ : S27)).set (x2 : Int).toNat (⟨0, 1⟩ : S27)) x7 (x7.length : Int) 0) else (none)) else (none)) else (none)) else (none))) else (none)) else (none)))
def spec_hiChances.l1 : Nat → Int → Int → List Int → List (List Int) → List Int → Int → List Int → Int → Int → List Int → Int → Int → List (List Int) → Option ((List (S27)))
  | 0, _, _, _, _, _, _, _, _, _, _, _, _, _ => none
  | k + 1, x1, x2, x7, x8, x9, x12, x27, x28, x29, x37, x38, x39, x208000 => if x39 < x38 then (if 0 ≤ x39 then (if x39 < (x37.length : Int) then (if (rd x37 x39) = x1 then (spec_hiChances.l1 k x1 x2 x7 x8 x9 (wrap64 (x12 + 1)) x27 x28 x29 x37 x38 (wrap64 (x39 + 1)) x208000) else (spec_hiChances.l1 k x1 x2 x7 x8 x9 x12 x27 x28 x29 x37 x38 (wrap64 (x39 + 1)) x208000)) else (none)) else (none)) else (if x9.length < 17592186044416 then (spec_hiChances.l0 k x1 x2 x7 x8 (x9 ++ [x12]) x27 x28 (wrap64 (x29 + 1)) x208000) else (none))
def spec_hiChances.l2 : Nat → List Int → Int → List (S27) → List Int → Int → Int → Option ((List (S27)))
  | 0, _, _, _, _, _, _ => none
  | k + 1, x15, x16, x17, x72, x73, x74 => if x74 < x73 then (if 0 ≤ x74 then (if x74 < (x72.length : Int) then (if x74 < (x15.length : Int) then ((spec_hiRatio.f k (rd x15 x74) x16).bind fun bt231 => (if 0 ≤ (rd x72 x74) then (if (rd x72 x74) < (x17.length : Int) then (spec_hiChances.l2 k x15 x16 (x17.set ((rd x72 x74) : Int).toNat (⟨bt231.1, bt231.2⟩ : S27)) x72 x73 (wrap64 (x74 + 1))) else (none)) else (none))) else (none)) else (none)) else (none)) else (some x17)
end
def spec_hiChances.f (k : Nat) (l0_0 : List (List Int)) (a1 : Int) (a2 : Int) : Option ((List (S27))) := (spec_hiMatrix.f l0_0 a1 a2).bind fun bt208 => (spec_hiChances.l0 k a1 a2 bt208.1 bt208.2 ([] : List Int) bt208.1 (bt208.1.length : Int) 0 l0_0)
set_option maxHeartbeats 8000000 in
set_option maxRecDepth 100000 in
theorem spec_hiChances.calls (k : Nat) (A0_0 : Option Addr) (c0_0 : Nat) (l0_0 : List (List Int)) (a1 : Int) (a2 : Int) (r : List (S27)) (w : World) (hr0_0 : Kd.C (Kd.slice 3 (Kd.int .i64)) w A0_0 l0_0.length l0_0) (hc0_0 : l0_0.length ≤ c0_0) (h : spec_hiChances.f k l0_0 a1 a2 = some r) :
    Calls Try.prog 92 #[.agg #[.slice A0_0 l0_0.length c0_0], .int .i64 a1, .int .i64 a2] w fun e w' => ∃ v0_ : Value, e = .returned (v0_) ∧ Kd.R k27 27 w' w.heap.size (fun _ => True) v0_ r ∧ Below w.heap.size w w' := by
  have hu30 := Try.underlying30
  have hu27 := Try.underlying27
  have HR0_0 := Aside0.mk hr0_0
  have HC0_0 := Aside0.mk hc0_0
  clear hr0_0 hc0_0
  have HB := Aside0.mk (Below.refl w.heap.size w)
  have H : ((spec_hiMatrix.f l0_0 a1 a2).bind fun bt208 => (spec_hiChances.l0 k a1 a2 bt208.1 bt208.2 ([] : List Int) bt208.1 (bt208.1.length : Int) 0 l0_0)) = some r := h
  clear h
  replace H := Option.bind_eq_some_iff.mp H
  obtain ⟨⟨t208, t211⟩, A40, H⟩ := H
  replace H : (spec_hiChances.l0 k a1 a2 t208 t211 ([] : List Int) t208 (t208.length : Int) 0 l0_0) = some r := H
  have A4 := Aside0.mk A40
  clear A40
  have H' := Aside0.mk H
  clear H
  go_enter Try.func92, Try.ntmps92
  go_wp2_with (first | ((with_reducible refine gate_dst (N := 3) rfl ?_); refine box_event ?hg (N := 3) ?hd (cs := #[.slice A0_0 l0_0.length c0_0]) (t := 30) ?hr ?_; (case hd => rfl); (case hg => rfl); (case hr => first | (go_simp; done) | (go_simp; rfl)); intro gb207 hg w5 hbox hb; have n0_ := Aside0.mk (below_step (by repeat (first | (with_reducible first | exact HB.out | apply below_alloc | apply pw_below_drewN | apply below_drew1) | exact HB.out)) hb); have n1_ := Aside0.mk (hbox); have n2_ := Aside0.mk ((by rw [hg]; exact (below_size (by repeat (first | (with_reducible first | exact HB.out | apply below_alloc | apply pw_below_drewN | apply below_drew1) | exact HB.out))) : w.heap.size ≤ gb207)); have n3_ := Aside0.mk ((by rw [hg]; exact (below_size (by repeat (first | (with_reducible first | exact HB.out | apply below_alloc | apply pw_below_drewN | apply below_drew1) | exact HB.out))) : w.heap.size ≤ gb207)); clear HB; have HB := n0_; have BK207 := n1_; have GW207 := n2_; have GE207 := n3_; clear n0_ n1_ n2_ n3_; clear hb hbox hg; have hcz6_0 : w5.cell? ⟨gb207, 0, none⟩ = some (.slice A0_0 l0_0.length c0_0) := (blk_cell BK207.out 0).trans rfl; have hfz6_0 := blk_frozen BK207.out 0) | ((with_reducible refine gate_callee (f := 88) rfl ?_); refine goesL_ (some 24) rfl rfl Try.func88 (by kernel_rfl) rfl #[.agg #[.slice A0_0 l0_0.length c0_0], .int .i64 a1, .int .i64 a2] rfl (by (try simp only [List.map_toArray, List.map_cons, List.map_nil]); first | done | rfl | (simp only [List.length_drop, List.length_take]; rfl)) ?_; (with_reducible refine (spec_hiMatrix.calls _ _ l0_0 a1 a2 t208 t211 _ ?side1 ?side2 A4.out).mono ?_); (case side1 => repeat (first | exact (Kd.C_below HR0_0.out HB.out) | (with_reducible refine Kd.C_alloc ?_ _) | (with_reducible refine Kd.C_drewN ?_ _) | (with_reducible refine Kd.C_drew ?_))); (case side2 => exact HC0_0.out); rintro e w7 ⟨v209, v212, rfl, ho0, ho1, hb⟩; refine ⟨_, rfl, ?_⟩; have n0_ := Aside0.mk (Kd.R_lower ho0 (below_size (by repeat (first | (with_reducible first | exact HB.out | apply below_alloc | apply pw_below_drewN | apply below_drew1 | refine below_set ?_ GE207.out) | exact HB.out)))); have n1_ := Aside0.mk (Kd.S_lower ho1 (below_size (by repeat (first | (with_reducible first | exact HB.out | apply below_alloc | apply pw_below_drewN | apply below_drew1 | refine below_set ?_ GE207.out) | exact HB.out)))); have n2_ := Aside0.mk (blk_below (g := gb207) (o := .cells #[.slice A0_0 l0_0.length c0_0] 30 (0, 0)) (by (with_reducible repeat (first | refine blk_drewN ?_ _ | refine blk_drew ?_ | refine blk_alloc ?_ _)); exact BK207.out) hb); have n3_ := Aside0.mk (below_step (by repeat (first | (with_reducible first | exact HB.out | apply below_alloc | apply pw_below_drewN | apply below_drew1 | refine below_set ?_ GE207.out) | exact HB.out)) hb); clear BK207; clear HB; have HO210 := n0_; have HO213 := n1_; have BK207 := n2_; have HB := n3_; clear n0_ n1_ n2_ n3_; (try clear hb); (try clear hb2); (try clear hk); (try clear hi); (try clear ho0); (try clear ho1); obtain ⟨Ao8, co8, eo8⟩ := Kd.R_slice HO210.out; subst eo8))
  go_loopg [9, 29] k (fun kq v9 v29 w' => ∃ (x9_1 : List Int) (x29_1 : Int), v29 = .int .i64 x29_1 ∧ Aside0 (spec_hiChances.l0 kq a1 a2 t208 t211 x9_1 t208 (t208.length : Int) x29_1 l0_0 = some r) ∧ Aside0 (kq ≤ k) ∧ Aside0 (Kd.R (Kd.int .i64) 3 w' w.heap.size (fun k_ => some k_ ≠ (v9 : Value).ownBlock) (.slice Ao8 t208.length co8) t208) ∧ Aside0 (Kd.S (Kd.slice 3 (Kd.int .i64)) 37 w' w.heap.size (fun k_ => some k_ ≠ ((.slice Ao8 t208.length co8) : Value).ownBlock ∧ some k_ ≠ (v9 : Value).ownBlock ∧ some k_ ≠ ((.slice Ao8 t208.length co8) : Value).ownBlock) v212 t211) ∧ Aside0 (Kd.R (Kd.int .i64) 3 w' w.heap.size (fun k_ => some k_ ≠ ((.slice Ao8 t208.length co8) : Value).ownBlock ∧ some k_ ≠ ((.slice Ao8 t208.length co8) : Value).ownBlock) v9 x9_1) ∧ Aside0 (Kd.R (Kd.int .i64) 3 w' w.heap.size (fun k_ => some k_ ≠ (v9 : Value).ownBlock) (.slice Ao8 t208.length co8) t208) ∧ Aside0 (w'.heap[gb207]? = some (.cells #[(.slice A0_0 l0_0.length c0_0)] 30 (0, 0))) ∧ Aside0 (Below w.heap.size w w'))
  case atStart => exact ⟨(([] : List Int)), (0), (by first | rfl | (simp; done) | (simp [*]; done)), H', ⟨Nat.le_refl _⟩, ⟨by (with_reducible repeat (first | apply Kd.R_alloc | apply Kd.R_drewN | apply Kd.R_drew)); exact Kd.R_mono HO210.out (fun _ hk => (by simp [Value.ownBlock]))⟩, ⟨by (with_reducible repeat (first | apply Kd.S_alloc | apply Kd.S_drewN | apply Kd.S_drew)); exact Kd.S_mono HO213.out (fun _ hk => ⟨hk, ⟨(by simp [Value.ownBlock]), hk⟩⟩)⟩, ⟨by first | exact Kd.R_nil _ _ _ _ _ | exact Kd.N_nil _ _ _ _ _ | exact Kd.V_nil _ _ _ _ _ | exact Kd.Q_nil _ _ _ _ _ | exact Kd.S_nil _ _ _ _ _⟩, ⟨by (with_reducible repeat (first | apply Kd.R_alloc | apply Kd.R_drewN | apply Kd.R_drew)); exact Kd.R_mono HO210.out (fun _ hk => (by simp [Value.ownBlock]))⟩, ⟨by (with_reducible repeat (first | refine blk_drewN ?_ _ | refine blk_drew ?_ | refine blk_alloc ?_ _)); exact BK207.out⟩, ⟨by repeat (first | (with_reducible first | exact HB.out | apply below_alloc | apply pw_below_drewN | apply below_drew1 | refine below_set ?_ GE207.out) | exact HB.out)⟩⟩
  case round =>
    clear H'
    try clear p2
    try clear c8
    try clear hcz6_0
    try clear hfz6_0
    obtain ⟨x9_1, x29_1, rfl, HA, HK1, HO_7, HO_8, HO_9, HO_27, BK207, HB⟩ := hrel
    cases gk with
    | zero => exact absurd HA.out (by simp [spec_hiChances.l0])
    | succ k1 =>
      have H := HA.out
      clear HA
      simp only [spec_hiChances.l0] at H
      by_cases c9 : x29_1 < (t208.length : Int)
      · rw [if_pos c9] at H
        have c9b0 : decide (x29_1 < (t208.length : Int)) = true := decide_eq_true c9
        clear c9
        by_cases c10 : 0 ≤ x29_1
        · rw [if_pos c10] at H
          have c10b0 : decide (0 ≤ x29_1) = true := decide_eq_true c10
          clear c10
          by_cases c11 : x29_1 < (t208.length : Int)
          · rw [if_pos c11] at H
            have c11b0 : decide (x29_1 < (t208.length : Int)) = true := decide_eq_true c11
            clear c11
            by_cases c12 : 0 ≤ (rd t208 x29_1)
            · rw [if_pos c12] at H
              have c12b0 : decide (0 ≤ (rd t208 x29_1)) = true := decide_eq_true c12
              clear c12
              by_cases c13 : (rd t208 x29_1) < (l0_0.length : Int)
              · rw [if_pos c13] at H
                have c13b0 : decide ((rd t208 x29_1) < (l0_0.length : Int)) = true := decide_eq_true c13
                clear c13
                have H' := Aside0.mk H
                clear H
                have p214 : 0 ≤ (x29_1 : Int) := of_decide_eq_true (by first | (with_reducible assumption) | assumption)
                have q214 : x29_1 < (t208.length : Int) := of_decide_eq_true (by first | (with_reducible assumption) | assumption)
                obtain ⟨ad214, e214, hx214_0⟩ := Kd.at_int (Kd.R_reads' HO_27.out).2.2 x29_1 p214 q214
                cases e214
                replace p214 := eq_true p214
                replace q214 := eq_true q214
                have hcz14_0 : wr.cell? ⟨gb207, 0, none⟩ = some (.slice A0_0 l0_0.length c0_0) := (blk_cell BK207.out 0).trans rfl
                have hfz14_0 := blk_frozen BK207.out 0
                have p215 : 0 ≤ ((rd t208 x29_1) : Int) := of_decide_eq_true (by first | (with_reducible assumption) | assumption)
                have q215 : (rd t208 x29_1) < (l0_0.length : Int) := of_decide_eq_true (by first | (with_reducible assumption) | assumption)
                obtain ⟨ad215, A215_0, c215_0, e215, hx215_0, hl215_0, hi215_0⟩ := at_L1 HR0_0.out (rd t208 x29_1) p215 q215
                cases e215
                replace hx215_0 := (HB.out.cell (World.block_lt_of_cell? w _ hx215_0)).trans hx215_0
                have HR215_0 := Aside0.mk hi215_0
                have HC215_0 := Aside0.mk hl215_0
                clear hi215_0 hl215_0
                replace p215 := eq_true p215
                replace q215 := eq_true q215
                go_wp2
                go_loopg [12, 39] k1 (fun kq v12 v39 w' => ∃ (x12_2 : Int) (x39_2 : Int), v12 = .int .i64 x12_2 ∧ v39 = .int .i64 x39_2 ∧ Aside0 (spec_hiChances.l1 kq a1 a2 t208 t211 x9_1 x12_2 t208 (t208.length : Int) x29_1 (rd_L1 l0_0 (rd t208 x29_1)) ((rd_L1 l0_0 (rd t208 x29_1)).length : Int) x39_2 l0_0 = some r) ∧ Aside0 (kq ≤ k1) ∧ Aside0 (Kd.R (Kd.int .i64) 3 w' w.heap.size (fun k_ => some k_ ≠ (u9 : Value).ownBlock) (.slice (some ad214) t208.length co8) t208) ∧ Aside0 (Kd.S (Kd.slice 3 (Kd.int .i64)) 37 w' w.heap.size (fun k_ => some k_ ≠ ((.slice (some ad214) t208.length co8) : Value).ownBlock ∧ some k_ ≠ (u9 : Value).ownBlock ∧ some k_ ≠ ((.slice (some ad214) t208.length co8) : Value).ownBlock) v212 t211) ∧ Aside0 (Kd.R (Kd.int .i64) 3 w' w.heap.size (fun k_ => some k_ ≠ ((.slice (some ad214) t208.length co8) : Value).ownBlock ∧ some k_ ≠ ((.slice (some ad214) t208.length co8) : Value).ownBlock) u9 x9_1) ∧ Aside0 (Kd.R (Kd.int .i64) 3 w' w.heap.size (fun k_ => some k_ ≠ (u9 : Value).ownBlock) (.slice (some ad214) t208.length co8) t208) ∧ Aside0 (w'.heap[gb207]? = some (.cells #[(.slice (some ad215) l0_0.length c0_0)] 30 (0, 0))) ∧ Aside0 (Below w.heap.size w w'))
                case atStart => exact ⟨(0), (0), (by first | rfl | (simp; done) | (simp [*]; done)), (by first | rfl | (simp; done) | (simp [*]; done)), H', ⟨Nat.le_refl _⟩, ⟨by (with_reducible repeat (first | apply Kd.R_alloc | apply Kd.R_drewN | apply Kd.R_drew)); exact HO_7.out⟩, ⟨by (with_reducible repeat (first | apply Kd.S_alloc | apply Kd.S_drewN | apply Kd.S_drew)); exact HO_8.out⟩, ⟨by (with_reducible repeat (first | apply Kd.R_alloc | apply Kd.R_drewN | apply Kd.R_drew)); exact HO_9.out⟩, ⟨by (with_reducible repeat (first | apply Kd.R_alloc | apply Kd.R_drewN | apply Kd.R_drew)); exact HO_27.out⟩, ⟨by (with_reducible repeat (first | refine blk_drewN ?_ _ | refine blk_drew ?_ | refine blk_alloc ?_ _)); exact BK207.out⟩, ⟨by repeat (first | (with_reducible first | exact HB.out | apply below_alloc | apply pw_below_drewN | apply below_drew1 | refine below_set ?_ GE207.out) | exact HB.out)⟩⟩
                case round =>
                  clear H'
                  try clear c1
                  try clear c2
                  try clear p2
                  try clear q2
                  try clear hx2
                  try clear c8
                  try clear c9
                  try clear c9b0
                  try clear c10
                  try clear c10b0
                  try clear c11
                  try clear c11b0
                  try clear c12
                  try clear c12b0
                  try clear c13
                  try clear c13b0
                  try clear hcz14_0
                  try clear hcz6_0
                  try clear hfz14_0
                  try clear hfz6_0
                  try clear hx214_0
                  try clear hx215_0
                  try clear p2
                  try clear p214
                  try clear p215
                  try clear q214
                  try clear q215
                  obtain ⟨x12_2, x39_2, rfl, rfl, HA, HK2, HO_7, HO_8, HO_9, HO_27, BK207, HB⟩ := hrel
                  cases gk with
                  | zero => exact absurd HA.out (by simp [spec_hiChances.l1])
                  | succ k2 =>
                    have H := HA.out
                    clear HA
                    simp only [spec_hiChances.l1] at H
                    by_cases c15 : x39_2 < ((rd_L1 l0_0 (rd t208 x29_1)).length : Int)
                    · rw [if_pos c15] at H
                      have c15b0 : decide (x39_2 < ((rd_L1 l0_0 (rd t208 x29_1)).length : Int)) = true := decide_eq_true c15
                      clear c15
                      by_cases c16 : 0 ≤ x39_2
                      · rw [if_pos c16] at H
                        have c16b0 : decide (0 ≤ x39_2) = true := decide_eq_true c16
                        clear c16
                        by_cases c17 : x39_2 < ((rd_L1 l0_0 (rd t208 x29_1)).length : Int)
                        · rw [if_pos c17] at H
                          have c17b0 : decide (x39_2 < ((rd_L1 l0_0 (rd t208 x29_1)).length : Int)) = true := decide_eq_true c17
                          clear c17
                          by_cases c18 : (rd (rd_L1 l0_0 (rd t208 x29_1)) x39_2) = a1
                          · rw [if_pos c18] at H
                            have c18b0 : ((rd (rd_L1 l0_0 (rd t208 x29_1)) x39_2) == a1) = true := beq_iff_eq.mpr c18
                            have c18b1 : ((rd (rd_L1 l0_0 (rd t208 x29_1)) x39_2) != a1) = false := bne_eq_false_iff_eq.mpr c18
                            clear c18
                            have H' := Aside0.mk H
                            clear H
                            have p216 : 0 ≤ (x39_2 : Int) := of_decide_eq_true (by first | (with_reducible assumption) | assumption)
                            have q216 : x39_2 < ((rd_L1 l0_0 (rd t208 x29_1)).length : Int) := of_decide_eq_true (by first | (with_reducible assumption) | assumption)
                            obtain ⟨ad216, e216, hx216_0⟩ := Kd.at_int HR215_0.out x39_2 p216 q216
                            cases e216
                            replace hx216_0 := (HB.out.cell (World.block_lt_of_cell? w _ hx216_0)).trans hx216_0
                            replace p216 := eq_true p216
                            replace q216 := eq_true q216
                            go_wp2
                            go_roundg k2
                            case measure => have := HK1.out; have := HK2.out; omega
                            case rel => exact ⟨(wrap64 (x12_2 + 1)), (wrap64 (x39_2 + 1)), (by first | rfl | (simp; done) | (simp [*]; done)), (by first | rfl | (simp; done) | (simp [*]; done)), H', ⟨by have := HK1.out; have := HK2.out; omega⟩, ⟨by (with_reducible repeat (first | apply Kd.R_alloc | apply Kd.R_drewN | apply Kd.R_drew)); exact HO_7.out⟩, ⟨by (with_reducible repeat (first | apply Kd.S_alloc | apply Kd.S_drewN | apply Kd.S_drew)); exact HO_8.out⟩, ⟨by (with_reducible repeat (first | apply Kd.R_alloc | apply Kd.R_drewN | apply Kd.R_drew)); exact HO_9.out⟩, ⟨by (with_reducible repeat (first | apply Kd.R_alloc | apply Kd.R_drewN | apply Kd.R_drew)); exact HO_27.out⟩, ⟨by (with_reducible repeat (first | refine blk_drewN ?_ _ | refine blk_drew ?_ | refine blk_alloc ?_ _)); exact BK207.out⟩, ⟨by repeat (first | (with_reducible first | exact HB.out | apply below_alloc | apply pw_below_drewN | apply below_drew1 | refine below_set ?_ GE207.out) | exact HB.out)⟩⟩
                          · rw [if_neg c18] at H
                            have c18b0 : ((rd (rd_L1 l0_0 (rd t208 x29_1)) x39_2) == a1) = false := beq_eq_false_iff_ne.mpr c18
                            have c18b1 : ((rd (rd_L1 l0_0 (rd t208 x29_1)) x39_2) != a1) = true := bne_iff_ne.mpr c18
                            have H' := Aside0.mk H
                            clear H
                            have p216 : 0 ≤ (x39_2 : Int) := of_decide_eq_true (by first | (with_reducible assumption) | assumption)
                            have q216 : x39_2 < ((rd_L1 l0_0 (rd t208 x29_1)).length : Int) := of_decide_eq_true (by first | (with_reducible assumption) | assumption)
                            obtain ⟨ad216, e216, hx216_0⟩ := Kd.at_int HR215_0.out x39_2 p216 q216
                            cases e216
                            replace hx216_0 := (HB.out.cell (World.block_lt_of_cell? w _ hx216_0)).trans hx216_0
                            replace p216 := eq_true p216
                            replace q216 := eq_true q216
                            go_wp2
                            go_roundg k2
                            case measure => have := HK1.out; have := HK2.out; omega
                            case rel => exact ⟨(x12_2), (wrap64 (x39_2 + 1)), (by first | rfl | (simp; done) | (simp [*]; done)), (by first | rfl | (simp; done) | (simp [*]; done)), H', ⟨by have := HK1.out; have := HK2.out; omega⟩, ⟨by (with_reducible repeat (first | apply Kd.R_alloc | apply Kd.R_drewN | apply Kd.R_drew)); exact HO_7.out⟩, ⟨by (with_reducible repeat (first | apply Kd.S_alloc | apply Kd.S_drewN | apply Kd.S_drew)); exact HO_8.out⟩, ⟨by (with_reducible repeat (first | apply Kd.R_alloc | apply Kd.R_drewN | apply Kd.R_drew)); exact HO_9.out⟩, ⟨by (with_reducible repeat (first | apply Kd.R_alloc | apply Kd.R_drewN | apply Kd.R_drew)); exact HO_27.out⟩, ⟨by (with_reducible repeat (first | refine blk_drewN ?_ _ | refine blk_drew ?_ | refine blk_alloc ?_ _)); exact BK207.out⟩, ⟨by repeat (first | (with_reducible first | exact HB.out | apply below_alloc | apply pw_below_drewN | apply below_drew1 | refine below_set ?_ GE207.out) | exact HB.out)⟩⟩
                        · rw [if_neg c17] at H
                          exact absurd H (by simp)
                      · rw [if_neg c16] at H
                        exact absurd H (by simp)
                    · rw [if_neg c15] at H
                      have c15b0 : decide (x39_2 < ((rd_L1 l0_0 (rd t208 x29_1)).length : Int)) = false := decide_eq_false c15
                      clear c15
                      by_cases c19 : x9_1.length < 17592186044416
                      · rw [if_pos c19] at H
                        have LMc19 := Aside0.mk c19
                        clear c19
                        obtain ⟨y217, hy217⟩ : ∃ y_ : List Int, y_ = (x9_1 ++ [x12_2]) := ⟨_, rfl⟩
                        replace H : (spec_hiChances.l0 k2 a1 a2 t208 t211 y217 t208 (t208.length : Int) (wrap64 (x29_1 + 1)) l0_0) = some r := by first | (rw [hy217]; with_reducible exact H) | (have H2_ := (Option.bind_some _ _).symm.trans H; rw [hy217]; with_reducible exact H2_) | (have H2_ := (Option.bind_some _ _).symm.trans H; with_reducible exact H2_) | with_reducible exact H | (rw [hy217]; exact H) | exact H
                        have Ny217 := Aside0.mk hy217
                        clear hy217
                        have H' := Aside0.mk H
                        clear H
                        go_wp2_with (first | ((with_reducible refine gate_builtin (b := .append) (xs := #[.tmp 49, .tmp 51]) rfl ?_); at_builtin; refine Kd.R_append (Kd.int .i64) (w0 := w) w.heap.size rfl (.tmp 49) (.tmp 51) 37 3 (.int .i64 0) 8 rfl Try.underlying37 info3 rfl (by decide) (by omega) u9 x9_1 x12_2 [.int .i64 x12_2] (fun k_ => some k_ ≠ (.slice (some ad214) t208.length co8 : Value).ownBlock ∧ some k_ ≠ (.slice (some ad214) t208.length co8 : Value).ownBlock) (fun _ => False) rfl rfl ?aP (fun _ hk => hk.elim) ?aF ?aO ?aB ?aS ?aL ?_; (case aP => exact rfl); (case aB => exact (by repeat (first | (with_reducible first | exact HB.out | apply below_alloc | apply pw_below_drewN | apply below_drew1 | refine below_set ?_ GE207.out) | exact HB.out))); (case aF => exact (fun k_ hk => ⟨Kd.fresh' (Kd.R_lt (by (with_reducible repeat (first | apply Kd.R_alloc | apply Kd.R_drewN | apply Kd.R_drew)); exact HO_7.out)) k_ hk, Kd.fresh' (Kd.R_lt (by (with_reducible repeat (first | apply Kd.R_alloc | apply Kd.R_drewN | apply Kd.R_drew)); exact HO_27.out)) k_ hk⟩)); (case aO => exact (by (with_reducible repeat (first | apply Kd.R_alloc | apply Kd.R_drewN | apply Kd.R_drew)); exact HO_9.out)); (case aS => exact (below_size (by repeat (first | (with_reducible first | exact HB.out | apply below_alloc | apply pw_below_drewN | apply below_drew1 | refine below_set ?_ GE207.out) | exact HB.out)))); (case aL => have := LMc19.out; omega); intro v218 w20 ho hb hg hat; rw [← Ny217.out] at ho; have n0_ := Aside0.mk (Kd.R_after (ok := (fun _ => True)) (by (with_reducible repeat (first | apply Kd.R_alloc | apply Kd.R_drewN | apply Kd.R_drew)); exact Kd.R_mono HO_7.out (fun _ hk => ⟨trivial, hk⟩)) hg hat); have n1_ := Aside0.mk (Kd.S_after (ok := (fun k_ => some k_ ≠ (.slice (some ad214) t208.length co8 : Value).ownBlock ∧ some k_ ≠ (.slice (some ad214) t208.length co8 : Value).ownBlock)) (by (with_reducible repeat (first | apply Kd.S_alloc | apply Kd.S_drewN | apply Kd.S_drew)); exact Kd.S_mono HO_8.out (fun _ hk => ⟨⟨hk.1, hk.2.2⟩, hk.2.1⟩)) hg hat); have n2_ := Aside0.mk (Kd.R_after (ok := (fun _ => True)) (by (with_reducible repeat (first | apply Kd.R_alloc | apply Kd.R_drewN | apply Kd.R_drew)); exact Kd.R_mono HO_27.out (fun _ hk => ⟨trivial, hk⟩)) hg hat); have n3_ := Aside0.mk (blk_grown (g := gb207) (o := .cells #[.slice (some ad215) l0_0.length c0_0] 30 (0, 0)) (by (with_reducible repeat (first | refine blk_drewN ?_ _ | refine blk_drew ?_ | refine blk_alloc ?_ _)); exact BK207.out) hg (Kd.R_ne HO_9.out BK207.out (by decide))); have n4_ := Aside0.mk (hb); have n5_ := Aside0.mk (ho); clear HO_7; clear HO_8; clear HO_27; clear BK207; clear HB; clear HO_9; have HO_7 := n0_; have HO_8 := n1_; have HO_27 := n2_; have BK207 := n3_; have HB := n4_; have HO219 := n5_; clear n0_ n1_ n2_ n3_ n4_ n5_; clear ho hb hg hat))
                        go_roundg k2
                        case measure => have := HK1.out; have := HK2.out; omega
                        case rel => exact ⟨(y217), (wrap64 (x29_1 + 1)), (by first | rfl | (simp; done) | (simp [*]; done)), H', ⟨by have := HK1.out; have := HK2.out; omega⟩, ⟨by (with_reducible repeat (first | apply Kd.R_alloc | apply Kd.R_drewN | apply Kd.R_drew)); exact Kd.R_mono HO_7.out (fun _ hk => hk.2)⟩, ⟨by (with_reducible repeat (first | apply Kd.S_alloc | apply Kd.S_drewN | apply Kd.S_drew)); exact Kd.S_mono HO_8.out (fun _ hk => ⟨hk.1.1, ⟨hk.2, hk.1.2⟩⟩)⟩, ⟨by (with_reducible repeat (first | apply Kd.R_alloc | apply Kd.R_drewN | apply Kd.R_drew)); exact HO219.out⟩, ⟨by (with_reducible repeat (first | apply Kd.R_alloc | apply Kd.R_drewN | apply Kd.R_drew)); exact Kd.R_mono HO_27.out (fun _ hk => hk.2)⟩, ⟨by (with_reducible repeat (first | refine blk_drewN ?_ _ | refine blk_drew ?_ | refine blk_alloc ?_ _)); exact BK207.out⟩, ⟨by repeat (first | (with_reducible first | exact HB.out | apply below_alloc | apply pw_below_drewN | apply below_drew1 | refine below_set ?_ GE207.out) | exact HB.out)⟩⟩
                      · rw [if_neg c19] at H
                        exact absurd H (by simp)
              · rw [if_neg c13] at H
                exact absurd H (by simp)
            · rw [if_neg c12] at H
              exact absurd H (by simp)
          · rw [if_neg c11] at H
            exact absurd H (by simp)
        · rw [if_neg c10] at H
          exact absurd H (by simp)
      · rw [if_neg c9] at H
        have c9b0 : decide (x29_1 < (t208.length : Int)) = false := decide_eq_false c9
        clear c9
        replace H := Option.bind_eq_some_iff.mp H
        obtain ⟨⟨t220, t221⟩, A210, H⟩ := H
        replace H : (if 0 ≤ (l0_0.length : Int) then (if ((l0_0.length : Int) : Int).toNat ≤ 17592186044416 then ((some (List.replicate ((l0_0.length : Int) : Int).toNat z27 : List (S27))).bind fun y224 => (if 0 ≤ a1 then (if a1 < (y224.length : Int) then (if 0 ≤ a2 then (if a2 < (y224.length : Int) then (spec_hiChances.l2 k1 t220 t221 ((y224.set (a1 : Int).toNat (⟨1, 1⟩ : S27)).set (a2 : Int).toNat (⟨0, 1⟩ : S27)) t208 (t208.length : Int) 0) else (none)) else (none)) else (none)) else (none))) else (none)) else (none)) = some r := H
        have A21 := Aside0.mk A210
        clear A210
        by_cases c22 : 0 ≤ (l0_0.length : Int)
        · rw [if_pos c22] at H
          have c22b0 := eq_true c22
          have c22b1 : decide (0 ≤ (l0_0.length : Int)) = true := decide_eq_true c22
          clear c22
          by_cases c23 : ((l0_0.length : Int) : Int).toNat ≤ 17592186044416
          · rw [if_pos c23] at H
            have c23b0 := eq_true c23
            have c23b1 : decide (((l0_0.length : Int) : Int).toNat ≤ 17592186044416) = true := decide_eq_true c23
            clear c23
            obtain ⟨y224, hy224⟩ : ∃ y_ : List (S27), y_ = (List.replicate ((l0_0.length : Int) : Int).toNat z27) := ⟨_, rfl⟩
            replace H : (if 0 ≤ a1 then (if a1 < (y224.length : Int) then (if 0 ≤ a2 then (if a2 < (y224.length : Int) then (spec_hiChances.l2 k1 t220 t221 ((y224.set (a1 : Int).toNat (⟨1, 1⟩ : S27)).set (a2 : Int).toNat (⟨0, 1⟩ : S27)) t208 (t208.length : Int) 0) else (none)) else (none)) else (none)) else (none)) = some r := by first | (rw [hy224]; with_reducible exact H) | (have H2_ := (Option.bind_some _ _).symm.trans H; rw [hy224]; with_reducible exact H2_) | (have H2_ := (Option.bind_some _ _).symm.trans H; with_reducible exact H2_) | with_reducible exact H | (rw [hy224]; exact H) | exact H
            have Ny224 := Aside0.mk hy224
            clear hy224
            by_cases c24 : 0 ≤ a1
            · rw [if_pos c24] at H
              have c24b0 : decide (0 ≤ a1) = true := decide_eq_true c24
              clear c24
              by_cases c25 : a1 < (y224.length : Int)
              · rw [if_pos c25] at H
                have c25b0 : decide (a1 < (y224.length : Int)) = true := decide_eq_true c25
                clear c25
                obtain ⟨y227, hy227⟩ : ∃ y_ : List (S27), y_ = (y224.set (a1 : Int).toNat (⟨1, 1⟩ : S27)) := ⟨_, rfl⟩
                replace H : (if 0 ≤ a2 then (if a2 < (y224.length : Int) then (spec_hiChances.l2 k1 t220 t221 (y227.set (a2 : Int).toNat (⟨0, 1⟩ : S27)) t208 (t208.length : Int) 0) else (none)) else (none)) = some r := by first | (rw [hy227]; with_reducible exact H) | (have H2_ := (Option.bind_some _ _).symm.trans H; rw [hy227]; with_reducible exact H2_) | (have H2_ := (Option.bind_some _ _).symm.trans H; with_reducible exact H2_) | with_reducible exact H | (rw [hy227]; exact H) | exact H
                have Ny227 := Aside0.mk hy227
                clear hy227
                by_cases c27 : 0 ≤ a2
                · rw [if_pos c27] at H
                  have c27b0 : decide (0 ≤ a2) = true := decide_eq_true c27
                  clear c27
                  by_cases c28 : a2 < (y224.length : Int)
                  · rw [if_pos c28] at H
                    have c28b0 : decide (a2 < (y224.length : Int)) = true := decide_eq_true c28
                    clear c28
                    obtain ⟨y228, hy228⟩ : ∃ y_ : List (S27), y_ = (y227.set (a2 : Int).toNat (⟨0, 1⟩ : S27)) := ⟨_, rfl⟩
                    replace H : (spec_hiChances.l2 k1 t220 t221 y228 t208 (t208.length : Int) 0) = some r := by first | (rw [hy228]; with_reducible exact H) | (have H2_ := (Option.bind_some _ _).symm.trans H; rw [hy228]; with_reducible exact H2_) | (have H2_ := (Option.bind_some _ _).symm.trans H; with_reducible exact H2_) | with_reducible exact H | (rw [hy228]; exact H) | exact H
                    have Ny228 := Aside0.mk hy228
                    clear hy228
                    have H' := Aside0.mk H
                    clear H
                    obtain ⟨Ao30, co30, eo30⟩ := Kd.S_slice HO_8.out
                    subst eo30
                    obtain ⟨Ao31, co31, eo31⟩ := Kd.R_slice HO_9.out
                    subst eo31
                    go_wp2_with (first | ((with_reducible refine gate_callee (f := 89) rfl ?_); refine goesL_ (some 57) rfl rfl Try.func89 (by kernel_rfl) rfl #[.slice Ao30 t211.length co30, .slice Ao31 x9_1.length co31] rfl (by (try simp only [List.map_toArray, List.map_cons, List.map_nil]); first | done | rfl | (simp only [List.length_drop, List.length_take]; rfl)) ?_; (with_reducible refine (spec_hiSolve.calls k1 _ _ t211 _ _ x9_1 t220 t221 _ ?side1 ?side2 ?side3 ?side4 A21.out).mono ?_); (case side1 => repeat (first | exact (Kd.S_reads' HO_8.out).2.2 | (with_reducible refine Kd.C_alloc ?_ _) | (with_reducible refine Kd.C_drewN ?_ _) | (with_reducible refine Kd.C_drew ?_))); (case side2 => exact (Kd.S_reads' HO_8.out).2.1); (case side3 => repeat (first | exact (Kd.R_reads' HO_9.out).2.2 | (with_reducible refine Kd.C_alloc ?_ _) | (with_reducible refine Kd.C_drewN ?_ _) | (with_reducible refine Kd.C_drew ?_))); (case side4 => exact (Kd.R_reads' HO_9.out).2.1); rintro e w32 ⟨v222, rfl, ho0, hb⟩; refine ⟨_, rfl, ?_⟩; have n0_ := Aside0.mk (Kd.R_elder' (by (with_reducible repeat (first | apply Kd.R_alloc | apply Kd.R_drewN | apply Kd.R_drew)); exact HO_7.out) (Kd.R_base ho0) hb); have n1_ := Aside0.mk (Kd.S_elder' (by (with_reducible repeat (first | apply Kd.S_alloc | apply Kd.S_drewN | apply Kd.S_drew)); exact HO_8.out) (Kd.R_base ho0) hb); have n2_ := Aside0.mk (Kd.R_elder' (by (with_reducible repeat (first | apply Kd.R_alloc | apply Kd.R_drewN | apply Kd.R_drew)); exact HO_9.out) (Kd.R_base ho0) hb); have n3_ := Aside0.mk (Kd.R_elder' (by (with_reducible repeat (first | apply Kd.R_alloc | apply Kd.R_drewN | apply Kd.R_drew)); exact HO_27.out) (Kd.R_base ho0) hb); have n4_ := Aside0.mk (Kd.R_lower (Kd.R_new' (Kd.R_new' (Kd.R_new' ho0 (Kd.R_lt (by (with_reducible repeat (first | apply Kd.R_alloc | apply Kd.R_drewN | apply Kd.R_drew)); exact HO_7.out))) (Kd.R_lt (by (with_reducible repeat (first | apply Kd.R_alloc | apply Kd.R_drewN | apply Kd.R_drew)); exact HO_9.out))) (Kd.R_lt (by (with_reducible repeat (first | apply Kd.R_alloc | apply Kd.R_drewN | apply Kd.R_drew)); exact HO_27.out))) (below_size (by repeat (first | (with_reducible first | exact HB.out | apply below_alloc | apply pw_below_drewN | apply below_drew1 | refine below_set ?_ GE207.out) | exact HB.out)))); have n5_ := Aside0.mk (blk_below (g := gb207) (o := .cells #[.slice A0_0 l0_0.length c0_0] 30 (0, 0)) (by (with_reducible repeat (first | refine blk_drewN ?_ _ | refine blk_drew ?_ | refine blk_alloc ?_ _)); exact BK207.out) hb); have n6_ := Aside0.mk (below_step (by repeat (first | (with_reducible first | exact HB.out | apply below_alloc | apply pw_below_drewN | apply below_drew1 | refine below_set ?_ GE207.out) | exact HB.out)) hb); clear HO_7; clear HO_8; clear HO_9; clear HO_27; clear BK207; clear HB; have HO_7 := n0_; have HO_8 := n1_; have HO_9 := n2_; have HO_27 := n3_; have HO223 := n4_; have BK207 := n5_; have HB := n6_; clear n0_ n1_ n2_ n3_ n4_ n5_ n6_; (try clear hb); (try clear hb2); (try clear hk); (try clear hi); (try clear ho0); have hcz33_0 : w32.cell? ⟨gb207, 0, none⟩ = some (.slice A0_0 l0_0.length c0_0) := (blk_cell BK207.out 0).trans rfl; have hfz33_0 := blk_frozen BK207.out 0) | ((with_reducible refine gate_dst (N := 63) rfl ?_); refine Kd.R_make k27 _ 27 rfl (N := 63) rfl 49 _ _ rfl (l0_0.length : Int) rfl rfl Try.underlying49 (.agg #[(.int .i64 0), (.int .i64 0)]) 16 info27 rfl (by decide) (by omega) z27 (ok := fun _ => True) (okp := fun _ => True) (k27_mkM _ _ _ z27 ) (fun _ hk => hk) trivial (of_decide_eq_true (by first | (with_reducible assumption) | assumption)) (Nat.le_trans (Nat.mul_le_mul_right _ (of_decide_eq_true (by first | (with_reducible assumption) | assumption) : (l0_0.length : Int).toNat ≤ 17592186044416)) (by omega)) (Below.refl _ _) (Nat.le_refl _) ?_; intro v225 w34 ho35 hb hg_ hnew_; clear hg_ hnew_; (first | rw [← Ny224.out] at ho35 | (simp only [Int.reduceToNat] at ho35; rw [← Ny224.out] at ho35)); have n0_ := Aside0.mk (Kd.R_below (by (with_reducible repeat (first | apply Kd.R_alloc | apply Kd.R_drewN | apply Kd.R_drew)); exact HO_7.out) hb); have n1_ := Aside0.mk (Kd.S_below (by (with_reducible repeat (first | apply Kd.S_alloc | apply Kd.S_drewN | apply Kd.S_drew)); exact HO_8.out) hb); have n2_ := Aside0.mk (Kd.R_below (by (with_reducible repeat (first | apply Kd.R_alloc | apply Kd.R_drewN | apply Kd.R_drew)); exact HO_9.out) hb); have n3_ := Aside0.mk (Kd.R_below (by (with_reducible repeat (first | apply Kd.R_alloc | apply Kd.R_drewN | apply Kd.R_drew)); exact HO_27.out) hb); have n4_ := Aside0.mk (Kd.R_below (by (with_reducible repeat (first | apply Kd.R_alloc | apply Kd.R_drewN | apply Kd.R_drew)); exact HO223.out) hb); have n5_ := Aside0.mk (Kd.R_lower ho35 (below_size (by repeat (first | (with_reducible first | exact HB.out | apply below_alloc | apply pw_below_drewN | apply below_drew1 | refine below_set ?_ GE207.out) | exact HB.out)))); have n6_ := Aside0.mk (blk_below (g := gb207) (o := .cells #[.slice A0_0 l0_0.length c0_0] 30 (0, 0)) (by (with_reducible repeat (first | refine blk_drewN ?_ _ | refine blk_drew ?_ | refine blk_alloc ?_ _)); exact BK207.out) hb); have n7_ := Aside0.mk (below_step (by repeat (first | (with_reducible first | exact HB.out | apply below_alloc | apply pw_below_drewN | apply below_drew1 | refine below_set ?_ GE207.out) | exact HB.out)) hb); clear HO_7; clear HO_8; clear HO_9; clear HO_27; clear HO223; clear BK207; clear HB; have HO_7 := n0_; have HO_8 := n1_; have HO_9 := n2_; have HO_27 := n3_; have HO223 := n4_; have HO226 := n5_; have BK207 := n6_; have HB := n7_; clear n0_ n1_ n2_ n3_ n4_ n5_ n6_ n7_; clear hb ho35; have p26 : 0 ≤ (a1 : Int) := of_decide_eq_true (by first | (with_reducible assumption) | assumption); have q26 : (a1 : Int) < ((y224.length : Int) : Int) := of_decide_eq_true (by first | (with_reducible assumption) | assumption); obtain ⟨go26, co26, eo26, gb26, gl26, cl26, HG26⟩ := Kd.R_form HO226.out (by omega); (first | cases eo26 | (injection eo26 with ea_ en_ ec_; (first | subst ea_ | (injection ea_ with ea_; subst ea_)); subst ec_; clear en_)); have GB26 := Aside0.mk gb26; have GG26 := Aside0.mk HG26; clear gb26 gl26 HG26; obtain ⟨ce26, hcl26, hM26, hcc26, hfr26⟩ := Kd.R_elem HO226.out z27 (a1 : Int) p26 q26; obtain rfl := k27_openM hM26; have hx26_0 : w34.cell? ⟨go26, (a1 : Int).toNat * 2, none⟩ = some (.int .i64 ((rd_T27 y224 a1).f0)) := hcc26 0 _ rfl; have hx26_1 : w34.cell? ⟨go26, (a1 : Int).toNat * 2 + 1, none⟩ = some (.int .i64 ((rd_T27 y224 a1).f1)) := hcc26 1 _ rfl; have hf26_0 : w34.frozen? ⟨go26, (a1 : Int).toNat * 2, none⟩ = false := hfr26 0; have hf26_1 : w34.frozen? ⟨go26, (a1 : Int).toNat * 2 + 1, none⟩ = false := hfr26 1; clear hcl26 hcc26 hfr26; (try clear hM26); replace p26 := eq_true p26; replace q26 := eq_true q26; have HX36 := Aside0.mk (show Kd.R k27 27 w34 w.heap.size (fun _ => True) (.slice (some ⟨go26, 0, none⟩) y224.length co26) y224 from (by (with_reducible repeat (first | apply Kd.R_alloc | apply Kd.R_drewN | apply Kd.R_drew)); exact HO226.out)); obtain ⟨ce36, hcl36, hM36, hcc36, hfr36⟩ := Kd.R_elem HX36.out z27 (a1 : Int) (of_decide_eq_true (by first | (with_reducible assumption) | assumption)) (by have h_ : (a1 : Int) < ((y224.length : Int) : Int) := of_decide_eq_true (by first | (with_reducible assumption) | assumption); first | exact h_ | (have e_ := (Kd.R_reads' HO226.out).1; omega) | simpa using h_); obtain rfl := k27_openM hM36; have HP36 := Kd.R_seg HX36.out (a1 : Int) (of_decide_eq_true (by first | (with_reducible assumption) | assumption)) (by have h_ : (a1 : Int) < ((y224.length : Int) : Int) := of_decide_eq_true (by first | (with_reducible assumption) | assumption); first | exact h_ | (have e_ := (Kd.R_reads' HO226.out).1; omega) | simpa using h_) (seg := [.int .i64 1, .int .i64 1]) (j := 0) hcl36 hcc36 (show 2 ≤ 2 from by decide) (x' := (⟨1, 1⟩ : S27)) (k27_mkM _ _ _ (⟨1, 1⟩ : S27) ) (fun _ hk => hk); have hx36_0 := hcc36 0 _ rfl; (try simp only [show (k27).sz = 2 from rfl, Nat.mul_one, Nat.add_zero] at hx36_0); have hf36_0 := hfr36 0; (try simp only [show (k27).sz = 2 from rfl, Nat.mul_one, Nat.add_zero] at hf36_0); have hx36_1 := hcc36 1 _ rfl; (try simp only [show (k27).sz = 2 from rfl, Nat.mul_one, Nat.add_zero] at hx36_1); have hf36_1 := hfr36 1; (try simp only [show (k27).sz = 2 from rfl, Nat.mul_one, Nat.add_zero] at hf36_1); clear hcl36 hcc36 hfr36; (try clear hM36)) | ((with_reducible refine gate_store (t := 27) (p := 67) rfl ?_); refine store_event (t := 27) (p := 67) (v := ?vo_w37) (w1 := ((w34.setCell ⟨go26, (a1 : Int).toNat * 2, none⟩ (.int .i64 1)).setCell ⟨go26, (a1 : Int).toNat * 2 + 1, none⟩ (.int .i64 1))) ?hg ?ho ?hn ?hr ?_; (case ho => rfl); (case hg => rfl); (case hn => rfl); (case hr => first | (go_simp; done) | (go_simp; rfl)); intro w37 hw; have hg : w34.grownBy w37 (some go26) := (by rw [hw]; exact HP36.2); have hp_ : Kd.R k27 27 w37 w.heap.size (fun _ => True) (.slice (some ⟨go26, 0, none⟩) y224.length co26) y227 := (by rw [hw, Ny227.out]; exact HP36.1); clear HP36; have n0_ := Aside0.mk (Kd.R_over' (v := (.slice (some ⟨go26, 0, none⟩) y224.length co26)) (by (with_reducible repeat (first | apply Kd.R_alloc | apply Kd.R_drewN | apply Kd.R_drew)); exact HO_7.out) (Kd.R_typed HO226.out) (by decide) hg); have n1_ := Aside0.mk (Kd.S_over' (v := (.slice (some ⟨go26, 0, none⟩) y224.length co26)) (by (with_reducible repeat (first | apply Kd.S_alloc | apply Kd.S_drewN | apply Kd.S_drew)); exact HO_8.out) (Kd.R_typed HO226.out) (by decide) hg); have n2_ := Aside0.mk (Kd.R_over' (v := (.slice (some ⟨go26, 0, none⟩) y224.length co26)) (by (with_reducible repeat (first | apply Kd.R_alloc | apply Kd.R_drewN | apply Kd.R_drew)); exact HO_9.out) (Kd.R_typed HO226.out) (by decide) hg); have n3_ := Aside0.mk (Kd.R_over' (v := (.slice (some ⟨go26, 0, none⟩) y224.length co26)) (by (with_reducible repeat (first | apply Kd.R_alloc | apply Kd.R_drewN | apply Kd.R_drew)); exact HO_27.out) (Kd.R_typed HO226.out) (by decide) hg); have n4_ := Aside0.mk (blk_grown (g := gb207) (o := .cells #[.slice A0_0 l0_0.length c0_0] 30 (0, 0)) (by (with_reducible repeat (first | refine blk_drewN ?_ _ | refine blk_drew ?_ | refine blk_alloc ?_ _)); exact BK207.out) hg (Kd.R_ne HO226.out BK207.out (by decide))); have n5_ := Aside0.mk (Kd.R_over' (v := (.slice (some ⟨go26, 0, none⟩) y224.length co26)) (by (with_reducible repeat (first | apply Kd.R_alloc | apply Kd.R_drewN | apply Kd.R_drew)); exact HO223.out) (Kd.R_typed HO226.out) (by decide) hg); have n6_ := Aside0.mk (hp_); have n7_ := Aside0.mk ((by rw [hw]; exact below_set (below_set (HB.out) GB26.out) GB26.out : Below w.heap.size w w37)); clear HO_7; clear HO_8; clear HO_9; clear HO_27; clear BK207; clear HO223; clear HO226; clear HB; have HO_7 := n0_; have HO_8 := n1_; have HO_9 := n2_; have HO_27 := n3_; have BK207 := n4_; have HO223 := n5_; have HO226 := n6_; have HB := n7_; clear n0_ n1_ n2_ n3_ n4_ n5_ n6_ n7_; clear hg hw hp_; have p29 : 0 ≤ (a2 : Int) := of_decide_eq_true (by first | (with_reducible assumption) | assumption); have q29 : (a2 : Int) < ((y224.length : Int) : Int) := of_decide_eq_true (by first | (with_reducible assumption) | assumption); obtain ⟨ce29, hcl29, hM29, hcc29, hfr29⟩ := Kd.R_elem HO226.out z27 (a2 : Int) p29 q29; obtain rfl := k27_openM hM29; have hx29_0 : w37.cell? ⟨go26, (a2 : Int).toNat * 2, none⟩ = some (.int .i64 ((rd_T27 y227 a2).f0)) := hcc29 0 _ rfl; have hx29_1 : w37.cell? ⟨go26, (a2 : Int).toNat * 2 + 1, none⟩ = some (.int .i64 ((rd_T27 y227 a2).f1)) := hcc29 1 _ rfl; have hf29_0 : w37.frozen? ⟨go26, (a2 : Int).toNat * 2, none⟩ = false := hfr29 0; have hf29_1 : w37.frozen? ⟨go26, (a2 : Int).toNat * 2 + 1, none⟩ = false := hfr29 1; clear hcl29 hcc29 hfr29; (try clear hM29); replace p29 := eq_true p29; replace q29 := eq_true q29; have HX38 := Aside0.mk (show Kd.R k27 27 w37 w.heap.size (fun _ => True) (.slice (some ⟨go26, 0, none⟩) y224.length co26) y227 from (by (with_reducible repeat (first | apply Kd.R_alloc | apply Kd.R_drewN | apply Kd.R_drew)); exact HO226.out)); obtain ⟨ce38, hcl38, hM38, hcc38, hfr38⟩ := Kd.R_elem HX38.out z27 (a2 : Int) (of_decide_eq_true (by first | (with_reducible assumption) | assumption)) (by have h_ : (a2 : Int) < ((y224.length : Int) : Int) := of_decide_eq_true (by first | (with_reducible assumption) | assumption); first | exact h_ | (have e_ := (Kd.R_reads' HO226.out).1; omega) | simpa using h_); obtain rfl := k27_openM hM38; have HP38 := Kd.R_seg HX38.out (a2 : Int) (of_decide_eq_true (by first | (with_reducible assumption) | assumption)) (by have h_ : (a2 : Int) < ((y224.length : Int) : Int) := of_decide_eq_true (by first | (with_reducible assumption) | assumption); first | exact h_ | (have e_ := (Kd.R_reads' HO226.out).1; omega) | simpa using h_) (seg := [.int .i64 0, .int .i64 1]) (j := 0) hcl38 hcc38 (show 2 ≤ 2 from by decide) (x' := (⟨0, 1⟩ : S27)) (k27_mkM _ _ _ (⟨0, 1⟩ : S27) ) (fun _ hk => hk); have hx38_0 := hcc38 0 _ rfl; (try simp only [show (k27).sz = 2 from rfl, Nat.mul_one, Nat.add_zero] at hx38_0); have hf38_0 := hfr38 0; (try simp only [show (k27).sz = 2 from rfl, Nat.mul_one, Nat.add_zero] at hf38_0); have hx38_1 := hcc38 1 _ rfl; (try simp only [show (k27).sz = 2 from rfl, Nat.mul_one, Nat.add_zero] at hx38_1); have hf38_1 := hfr38 1; (try simp only [show (k27).sz = 2 from rfl, Nat.mul_one, Nat.add_zero] at hf38_1); clear hcl38 hcc38 hfr38; (try clear hM38)) | ((with_reducible refine gate_store (t := 27) (p := 71) rfl ?_); refine store_event (t := 27) (p := 71) (v := ?vo_w39) (w1 := ((w37.setCell ⟨go26, (a2 : Int).toNat * 2, none⟩ (.int .i64 0)).setCell ⟨go26, (a2 : Int).toNat * 2 + 1, none⟩ (.int .i64 1))) ?hg ?ho ?hn ?hr ?_; (case ho => rfl); (case hg => rfl); (case hn => rfl); (case hr => first | (go_simp; done) | (go_simp; rfl)); intro w39 hw; have hg : w37.grownBy w39 (some go26) := (by rw [hw]; exact HP38.2); have hp_ : Kd.R k27 27 w39 w.heap.size (fun _ => True) (.slice (some ⟨go26, 0, none⟩) y224.length co26) y228 := (by rw [hw, Ny228.out]; exact HP38.1); clear HP38; have n0_ := Aside0.mk (Kd.R_over' (v := (.slice (some ⟨go26, 0, none⟩) y224.length co26)) (by (with_reducible repeat (first | apply Kd.R_alloc | apply Kd.R_drewN | apply Kd.R_drew)); exact HO_7.out) (Kd.R_typed HO226.out) (by decide) hg); have n1_ := Aside0.mk (Kd.S_over' (v := (.slice (some ⟨go26, 0, none⟩) y224.length co26)) (by (with_reducible repeat (first | apply Kd.S_alloc | apply Kd.S_drewN | apply Kd.S_drew)); exact HO_8.out) (Kd.R_typed HO226.out) (by decide) hg); have n2_ := Aside0.mk (Kd.R_over' (v := (.slice (some ⟨go26, 0, none⟩) y224.length co26)) (by (with_reducible repeat (first | apply Kd.R_alloc | apply Kd.R_drewN | apply Kd.R_drew)); exact HO_9.out) (Kd.R_typed HO226.out) (by decide) hg); have n3_ := Aside0.mk (Kd.R_over' (v := (.slice (some ⟨go26, 0, none⟩) y224.length co26)) (by (with_reducible repeat (first | apply Kd.R_alloc | apply Kd.R_drewN | apply Kd.R_drew)); exact HO_27.out) (Kd.R_typed HO226.out) (by decide) hg); have n4_ := Aside0.mk (blk_grown (g := gb207) (o := .cells #[.slice A0_0 l0_0.length c0_0] 30 (0, 0)) (by (with_reducible repeat (first | refine blk_drewN ?_ _ | refine blk_drew ?_ | refine blk_alloc ?_ _)); exact BK207.out) hg (Kd.R_ne HO226.out BK207.out (by decide))); have n5_ := Aside0.mk (Kd.R_over' (v := (.slice (some ⟨go26, 0, none⟩) y224.length co26)) (by (with_reducible repeat (first | apply Kd.R_alloc | apply Kd.R_drewN | apply Kd.R_drew)); exact HO223.out) (Kd.R_typed HO226.out) (by decide) hg); have n6_ := Aside0.mk (hp_); have n7_ := Aside0.mk ((by rw [hw]; exact below_set (below_set (HB.out) GB26.out) GB26.out : Below w.heap.size w w39)); clear HO_7; clear HO_8; clear HO_9; clear HO_27; clear BK207; clear HO223; clear HO226; clear HB; have HO_7 := n0_; have HO_8 := n1_; have HO_9 := n2_; have HO_27 := n3_; have BK207 := n4_; have HO223 := n5_; have HO226 := n6_; have HB := n7_; clear n0_ n1_ n2_ n3_ n4_ n5_ n6_ n7_; clear hg hw hp_))
                    go_loopg [74] k1 (fun kq v74 w' => ∃ (x17_2 : List (S27)) (x74_2 : Int), v74 = .int .i64 x74_2 ∧ Aside0 (spec_hiChances.l2 kq t220 t221 x17_2 t208 (t208.length : Int) x74_2 = some r) ∧ Aside0 (kq ≤ k1) ∧ Aside0 (Kd.R (Kd.int .i64) 3 w' w.heap.size (fun k_ => some k_ ≠ ((.slice Ao8 t208.length co8) : Value).ownBlock) v222 t220) ∧ Aside0 (Kd.R k27 27 w' w.heap.size (fun _ => True) (.slice (some ⟨go26, 0, none⟩) y224.length co26) x17_2) ∧ Aside0 (Kd.R (Kd.int .i64) 3 w' w.heap.size (fun k_ => some k_ ≠ (v222 : Value).ownBlock) (.slice Ao8 t208.length co8) t208) ∧ Aside0 (w'.heap[gb207]? = some (.cells #[(.slice A0_0 l0_0.length c0_0)] 30 (0, 0))) ∧ Aside0 (Below w.heap.size w w'))
                    case atStart => exact ⟨(y228), (0), (by first | rfl | (simp; done) | (simp [*]; done)), H', ⟨Nat.le_refl _⟩, ⟨by (with_reducible repeat (first | apply Kd.R_alloc | apply Kd.R_drewN | apply Kd.R_drew)); exact Kd.R_mono HO223.out (fun _ hk => hk.1.1.2)⟩, ⟨by (with_reducible repeat (first | apply Kd.R_alloc | apply Kd.R_drewN | apply Kd.R_drew)); exact HO226.out⟩, ⟨by (with_reducible repeat (first | apply Kd.R_alloc | apply Kd.R_drewN | apply Kd.R_drew)); exact Kd.R_mono HO_7.out (fun _ hk => hk.2)⟩, ⟨by (with_reducible repeat (first | refine blk_drewN ?_ _ | refine blk_drew ?_ | refine blk_alloc ?_ _)); exact BK207.out⟩, ⟨by repeat (first | (with_reducible first | exact HB.out | apply below_alloc | apply pw_below_drewN | apply below_drew1 | refine below_set ?_ GE207.out) | exact HB.out)⟩⟩
                    case round =>
                      clear H'
                      try clear c1
                      try clear c2
                      try clear p2
                      try clear q2
                      try clear hx2
                      try clear c3
                      try clear hx3
                      try clear hf3
                      try clear p6
                      try clear c8
                      try clear c9
                      try clear c9b0
                      try clear c10
                      try clear c10b0
                      try clear c11
                      try clear c11b0
                      try clear c12
                      try clear c12b0
                      try clear c13
                      try clear c13b0
                      try clear c15
                      try clear c15b0
                      try clear c16
                      try clear c16b0
                      try clear c17
                      try clear c17b0
                      try clear c18
                      try clear c18b0
                      try clear c18b1
                      try clear c19
                      try clear c21
                      try clear p21
                      try clear q21
                      try clear hx21
                      try clear c22
                      try clear c22b0
                      try clear c22b1
                      try clear c23
                      try clear c23b0
                      try clear c23b1
                      try clear c24
                      try clear c24b0
                      try clear c25
                      try clear c25b0
                      try clear c26
                      try clear p26
                      try clear q26
                      try clear hx26
                      try clear hf26
                      try clear c27
                      try clear c27b0
                      try clear c28
                      try clear c28b0
                      try clear c29
                      try clear p29
                      try clear q29
                      try clear hx29
                      try clear hf29
                      try clear c36
                      try clear hx36
                      try clear hf36
                      try clear c38
                      try clear hx38
                      try clear hf38
                      try clear hcz14_0
                      try clear hcz33_0
                      try clear hcz6_0
                      try clear hfz14_0
                      try clear hfz33_0
                      try clear hfz6_0
                      try clear hx214_0
                      try clear hx215_0
                      try clear hx216_0
                      try clear hx26_0
                      try clear hx26_1
                      try clear hx29_0
                      try clear hx29_1
                      try clear hx36_0
                      try clear hx36_1
                      try clear hx38_0
                      try clear hx38_1
                      try clear p2
                      try clear p214
                      try clear p215
                      try clear p216
                      try clear p26
                      try clear p29
                      try clear q2
                      try clear q214
                      try clear q215
                      try clear q216
                      try clear q26
                      try clear q29
                      obtain ⟨x17_2, x74_2, rfl, HA, HK2, HO_15, HO_17, HO_72, BK207, HB⟩ := hrel
                      have hl17_2 := (Kd.R_reads' HO_17.out).1
                      rw [hl17_2] at HO_17
                      (try simp only [hl17_2])
                      (try simp only [hl17_2] at BK207)
                      (try simp only [hl17_2] at HO_15)
                      (try simp only [hl17_2] at HO_72)
                      cases gk with
                      | zero => exact absurd HA.out (by simp [spec_hiChances.l2])
                      | succ k2 =>
                        have H := HA.out
                        clear HA
                        simp only [spec_hiChances.l2] at H
                        by_cases c40 : x74_2 < (t208.length : Int)
                        · rw [if_pos c40] at H
                          have c40b0 : decide (x74_2 < (t208.length : Int)) = true := decide_eq_true c40
                          clear c40
                          by_cases c41 : 0 ≤ x74_2
                          · rw [if_pos c41] at H
                            have c41b0 : decide (0 ≤ x74_2) = true := decide_eq_true c41
                            clear c41
                            by_cases c42 : x74_2 < (t208.length : Int)
                            · rw [if_pos c42] at H
                              have c42b0 : decide (x74_2 < (t208.length : Int)) = true := decide_eq_true c42
                              clear c42
                              by_cases c43 : x74_2 < (t220.length : Int)
                              · rw [if_pos c43] at H
                                have c43b0 : decide (x74_2 < (t220.length : Int)) = true := decide_eq_true c43
                                clear c43
                                replace H := Option.bind_eq_some_iff.mp H
                                obtain ⟨⟨t231, t232⟩, A440, H⟩ := H
                                replace H : (if 0 ≤ (rd t208 x74_2) then (if (rd t208 x74_2) < (x17_2.length : Int) then (spec_hiChances.l2 k2 t220 t221 (x17_2.set ((rd t208 x74_2) : Int).toNat (⟨t231, t232⟩ : S27)) t208 (t208.length : Int) (wrap64 (x74_2 + 1))) else (none)) else (none)) = some r := H
                                have A44 := Aside0.mk A440
                                clear A440
                                by_cases c45 : 0 ≤ (rd t208 x74_2)
                                · rw [if_pos c45] at H
                                  have c45b0 : decide (0 ≤ (rd t208 x74_2)) = true := decide_eq_true c45
                                  clear c45
                                  by_cases c46 : (rd t208 x74_2) < (x17_2.length : Int)
                                  · rw [if_pos c46] at H
                                    have c46b0 : decide ((rd t208 x74_2) < (x17_2.length : Int)) = true := decide_eq_true c46
                                    clear c46
                                    obtain ⟨y233, hy233⟩ : ∃ y_ : List (S27), y_ = (x17_2.set ((rd t208 x74_2) : Int).toNat (⟨t231, t232⟩ : S27)) := ⟨_, rfl⟩
                                    replace H : (spec_hiChances.l2 k2 t220 t221 y233 t208 (t208.length : Int) (wrap64 (x74_2 + 1))) = some r := by first | (rw [hy233]; with_reducible exact H) | (have H2_ := (Option.bind_some _ _).symm.trans H; rw [hy233]; with_reducible exact H2_) | (have H2_ := (Option.bind_some _ _).symm.trans H; with_reducible exact H2_) | with_reducible exact H | (rw [hy233]; exact H) | exact H
                                    have Ny233 := Aside0.mk hy233
                                    clear hy233
                                    have H' := Aside0.mk H
                                    clear H
                                    have p229 : 0 ≤ (x74_2 : Int) := of_decide_eq_true (by first | (with_reducible assumption) | assumption)
                                    have q229 : x74_2 < (t208.length : Int) := of_decide_eq_true (by first | (with_reducible assumption) | assumption)
                                    obtain ⟨ad229, e229, hx229_0⟩ := Kd.at_int (Kd.R_reads' HO_72.out).2.2 x74_2 p229 q229
                                    cases e229
                                    replace p229 := eq_true p229
                                    replace q229 := eq_true q229
                                    obtain ⟨Ao48, co48, eo48⟩ := Kd.R_slice HO_15.out
                                    subst eo48
                                    have p230 : 0 ≤ (x74_2 : Int) := of_decide_eq_true (by first | (with_reducible assumption) | assumption)
                                    have q230 : x74_2 < (t220.length : Int) := of_decide_eq_true (by first | (with_reducible assumption) | assumption)
                                    obtain ⟨ad230, e230, hx230_0⟩ := Kd.at_int (Kd.R_reads' HO_15.out).2.2 x74_2 p230 q230
                                    cases e230
                                    replace p230 := eq_true p230
                                    replace q230 := eq_true q230
                                    go_wp2_with (first | ((with_reducible refine gate_callee (f := 74) rfl ?_); refine goesL_ (some 86) rfl rfl Try.func74 (by kernel_rfl) rfl #[.int .i64 (rd t220 x74_2), .int .i64 t221] rfl (by (try simp only [List.map_toArray, List.map_cons, List.map_nil]); first | done | rfl | (simp only [List.length_drop, List.length_take]; rfl)) ?_; (with_reducible refine (spec_hiRatio.calls k2 (rd t220 x74_2) t221 t231 t232 _ A44.out).mono ?_); rintro e w49 ⟨rfl, hb⟩; refine ⟨_, rfl, ?_⟩; have n0_ := Aside0.mk (Kd.R_below (by (with_reducible repeat (first | apply Kd.R_alloc | apply Kd.R_drewN | apply Kd.R_drew)); exact HO_15.out) hb); have n1_ := Aside0.mk (Kd.R_below (by (with_reducible repeat (first | apply Kd.R_alloc | apply Kd.R_drewN | apply Kd.R_drew)); exact HO_17.out) hb); have n2_ := Aside0.mk (Kd.R_below (by (with_reducible repeat (first | apply Kd.R_alloc | apply Kd.R_drewN | apply Kd.R_drew)); exact HO_72.out) hb); have n3_ := Aside0.mk (blk_below (g := gb207) (o := .cells #[.slice A0_0 l0_0.length c0_0] 30 (0, 0)) (by (with_reducible repeat (first | refine blk_drewN ?_ _ | refine blk_drew ?_ | refine blk_alloc ?_ _)); exact BK207.out) hb); have n4_ := Aside0.mk (below_step (by repeat (first | (with_reducible first | exact HB.out | apply below_alloc | apply pw_below_drewN | apply below_drew1 | refine below_set ?_ GE207.out) | exact HB.out)) hb); clear HO_15; clear HO_17; clear HO_72; clear BK207; clear HB; have HO_15 := n0_; have HO_17 := n1_; have HO_72 := n2_; have BK207 := n3_; have HB := n4_; clear n0_ n1_ n2_ n3_ n4_; (try clear hb); (try clear hb2); (try clear hk); (try clear hi); have p47 : 0 ≤ ((rd t208 x74_2) : Int) := of_decide_eq_true (by first | (with_reducible assumption) | assumption); have q47 : ((rd t208 x74_2) : Int) < ((x17_2.length : Int) : Int) := of_decide_eq_true (by first | (with_reducible assumption) | assumption); obtain ⟨ce47, hcl47, hM47, hcc47, hfr47⟩ := Kd.R_elem HO_17.out z27 ((rd t208 x74_2) : Int) p47 q47; obtain rfl := k27_openM hM47; have hx47_0 : w49.cell? ⟨go26, ((rd t208 x74_2) : Int).toNat * 2, none⟩ = some (.int .i64 ((rd_T27 x17_2 (rd t208 x74_2)).f0)) := hcc47 0 _ rfl; have hx47_1 : w49.cell? ⟨go26, ((rd t208 x74_2) : Int).toNat * 2 + 1, none⟩ = some (.int .i64 ((rd_T27 x17_2 (rd t208 x74_2)).f1)) := hcc47 1 _ rfl; have hf47_0 : w49.frozen? ⟨go26, ((rd t208 x74_2) : Int).toNat * 2, none⟩ = false := hfr47 0; have hf47_1 : w49.frozen? ⟨go26, ((rd t208 x74_2) : Int).toNat * 2 + 1, none⟩ = false := hfr47 1; clear hcl47 hcc47 hfr47; (try clear hM47); replace p47 := eq_true p47; replace q47 := eq_true q47; have HX50 := Aside0.mk (show Kd.R k27 27 w49 w.heap.size (fun _ => True) (.slice (some ⟨go26, 0, none⟩) x17_2.length co26) x17_2 from (by (with_reducible repeat (first | apply Kd.R_alloc | apply Kd.R_drewN | apply Kd.R_drew)); exact HO_17.out)); obtain ⟨ce50, hcl50, hM50, hcc50, hfr50⟩ := Kd.R_elem HX50.out z27 ((rd t208 x74_2) : Int) (of_decide_eq_true (by first | (with_reducible assumption) | assumption)) (by have h_ : ((rd t208 x74_2) : Int) < ((x17_2.length : Int) : Int) := of_decide_eq_true (by first | (with_reducible assumption) | assumption); first | exact h_ | (have e_ := (Kd.R_reads' HO_17.out).1; omega) | simpa using h_); obtain rfl := k27_openM hM50; have HP50 := Kd.R_seg HX50.out ((rd t208 x74_2) : Int) (of_decide_eq_true (by first | (with_reducible assumption) | assumption)) (by have h_ : ((rd t208 x74_2) : Int) < ((x17_2.length : Int) : Int) := of_decide_eq_true (by first | (with_reducible assumption) | assumption); first | exact h_ | (have e_ := (Kd.R_reads' HO_17.out).1; omega) | simpa using h_) (seg := [.int .i64 t231, .int .i64 t232]) (j := 0) hcl50 hcc50 (show 2 ≤ 2 from by decide) (x' := (⟨t231, t232⟩ : S27)) (k27_mkM _ _ _ (⟨t231, t232⟩ : S27) ) (fun _ hk => hk); have hx50_0 := hcc50 0 _ rfl; (try simp only [show (k27).sz = 2 from rfl, Nat.mul_one, Nat.add_zero] at hx50_0); have hf50_0 := hfr50 0; (try simp only [show (k27).sz = 2 from rfl, Nat.mul_one, Nat.add_zero] at hf50_0); have hx50_1 := hcc50 1 _ rfl; (try simp only [show (k27).sz = 2 from rfl, Nat.mul_one, Nat.add_zero] at hx50_1); have hf50_1 := hfr50 1; (try simp only [show (k27).sz = 2 from rfl, Nat.mul_one, Nat.add_zero] at hf50_1); clear hcl50 hcc50 hfr50; (try clear hM50)) | ((with_reducible refine gate_store (t := 27) (p := 87) rfl ?_); refine store_event (t := 27) (p := 87) (v := ?vo_w51) (w1 := ((w49.setCell ⟨go26, ((rd t208 x74_2) : Int).toNat * 2, none⟩ (.int .i64 t231)).setCell ⟨go26, ((rd t208 x74_2) : Int).toNat * 2 + 1, none⟩ (.int .i64 t232))) ?hg ?ho ?hn ?hr ?_; (case ho => rfl); (case hg => rfl); (case hn => rfl); (case hr => first | (go_simp; done) | (go_simp; rfl)); intro w51 hw; have hg : w49.grownBy w51 (some go26) := (by rw [hw]; exact HP50.2); have hp_ : Kd.R k27 27 w51 w.heap.size (fun _ => True) (.slice (some ⟨go26, 0, none⟩) x17_2.length co26) y233 := (by rw [hw, Ny233.out]; exact HP50.1); clear HP50; have n0_ := Aside0.mk (Kd.R_over' (v := (.slice (some ⟨go26, 0, none⟩) x17_2.length co26)) (by (with_reducible repeat (first | apply Kd.R_alloc | apply Kd.R_drewN | apply Kd.R_drew)); exact HO_15.out) (Kd.R_typed HO_17.out) (by decide) hg); have n1_ := Aside0.mk (hp_); have n2_ := Aside0.mk (Kd.R_over' (v := (.slice (some ⟨go26, 0, none⟩) x17_2.length co26)) (by (with_reducible repeat (first | apply Kd.R_alloc | apply Kd.R_drewN | apply Kd.R_drew)); exact HO_72.out) (Kd.R_typed HO_17.out) (by decide) hg); have n3_ := Aside0.mk (blk_grown (g := gb207) (o := .cells #[.slice A0_0 l0_0.length c0_0] 30 (0, 0)) (by (with_reducible repeat (first | refine blk_drewN ?_ _ | refine blk_drew ?_ | refine blk_alloc ?_ _)); exact BK207.out) hg (Kd.R_ne HO_17.out BK207.out (by decide))); have n4_ := Aside0.mk ((by rw [hw]; exact below_set (below_set (HB.out) GB26.out) GB26.out : Below w.heap.size w w51)); clear HO_15; clear HO_17; clear HO_72; clear BK207; clear HB; have HO_15 := n0_; have HO_17 := n1_; have HO_72 := n2_; have BK207 := n3_; have HB := n4_; clear n0_ n1_ n2_ n3_ n4_; clear hg hw hp_))
                                    (try simp only [← hl17_2])
                                    go_roundg k2
                                    case measure => have := HK1.out; have := HK2.out; omega
                                    case rel => exact ⟨(y233), (wrap64 (x74_2 + 1)), (by first | rfl | (simp; done) | (simp [*]; done)), H', ⟨by have := HK1.out; have := HK2.out; omega⟩, ⟨by (try simp only [hl17_2]); (with_reducible repeat (first | apply Kd.R_alloc | apply Kd.R_drewN | apply Kd.R_drew)); exact HO_15.out⟩, ⟨by (try simp only [hl17_2]); (with_reducible repeat (first | apply Kd.R_alloc | apply Kd.R_drewN | apply Kd.R_drew)); exact HO_17.out⟩, ⟨by (try simp only [hl17_2]); (with_reducible repeat (first | apply Kd.R_alloc | apply Kd.R_drewN | apply Kd.R_drew)); exact HO_72.out⟩, ⟨by (try simp only [hl17_2]); (with_reducible repeat (first | refine blk_drewN ?_ _ | refine blk_drew ?_ | refine blk_alloc ?_ _)); exact BK207.out⟩, ⟨by repeat (first | (with_reducible first | exact HB.out | apply below_alloc | apply pw_below_drewN | apply below_drew1 | refine below_set ?_ GE207.out) | exact HB.out)⟩⟩
                                  · rw [if_neg c46] at H
                                    exact absurd H (by simp)
                                · rw [if_neg c45] at H
                                  exact absurd H (by simp)
                              · rw [if_neg c43] at H
                                exact absurd H (by simp)
                            · rw [if_neg c42] at H
                              exact absurd H (by simp)
                          · rw [if_neg c41] at H
                            exact absurd H (by simp)
                        · rw [if_neg c40] at H
                          have c40b0 : decide (x74_2 < (t208.length : Int)) = false := decide_eq_false c40
                          clear c40
                          obtain rfl := Option.some.inj H
                          go_wp2
                          go_ret
                          exact ⟨_, by first | rfl | (simp [errW_none, errW_some] <;> rfl) | (simp [*, errW_none, errW_some] <;> rfl), by (with_reducible repeat (first | apply Kd.R_alloc | apply Kd.R_drewN | apply Kd.R_drew)); exact HO_17.out, by repeat (first | (with_reducible first | exact HB.out | apply below_alloc | apply pw_below_drewN | apply below_drew1 | refine below_set ?_ GE207.out) | exact HB.out)⟩
                  · rw [if_neg c28] at H
                    exact absurd H (by simp)
                · rw [if_neg c27] at H
                  exact absurd H (by simp)
              · rw [if_neg c25] at H
                exact absurd H (by simp)
            · rw [if_neg c24] at H
              exact absurd H (by simp)
          · rw [if_neg c23] at H
            exact absurd H (by simp)
        · rw [if_neg c22] at H
          exact absurd H (by simp)
def spec_HitChance.f (k : Nat) (l0_0 : List (List Int)) (a1 : Int) (a2 : Int) (a3 : Int) : Option (Int × Int × Bool) := (spec_hiGood.f k l0_0 a2 a3).bind fun t236 => (if t236 = true then ((spec_grPlace.f k l0_0 a1).bind fun t237 => (if t237 = true then ((spec_hiChances.f k l0_0 a2 a3).bind fun t238 => (if 0 ≤ a1 then (if a1 < (t238.length : Int) then (some ((rd_T27 t238 a1).f0, (rd_T27 t238 a1).f1, true)) else (none)) else (none))) else (some (0, 0, false)))) else (some (0, 0, false)))
set_option maxHeartbeats 8000000 in
set_option maxRecDepth 100000 in
theorem spec_HitChance.calls (k : Nat) (A0_0 : Option Addr) (c0_0 : Nat) (l0_0 : List (List Int)) (a1 : Int) (a2 : Int) (a3 : Int) (r1 : Int) (r2 : Int) (r3 : Bool) (w : World) (hr0_0 : Kd.C (Kd.slice 3 (Kd.int .i64)) w A0_0 l0_0.length l0_0) (hc0_0 : l0_0.length ≤ c0_0) (h : spec_HitChance.f k l0_0 a1 a2 a3 = some (r1, r2, r3)) :
    Calls Try.prog 42 #[.agg #[.slice A0_0 l0_0.length c0_0], .int .i64 a1, .int .i64 a2, .int .i64 a3] w fun e w' => e = .returned (.tuple #[.agg #[.int .i64 r1, .int .i64 r2], .bool r3]) ∧ Below w.heap.size w w' := by
  have hu30 := Try.underlying30
  have hu27 := Try.underlying27
  have HR0_0 := Aside0.mk hr0_0
  have HC0_0 := Aside0.mk hc0_0
  clear hr0_0 hc0_0
  have HB := Aside0.mk (Below.refl w.heap.size w)
  have H : ((spec_hiGood.f k l0_0 a2 a3).bind fun t236 => (if t236 = true then ((spec_grPlace.f k l0_0 a1).bind fun t237 => (if t237 = true then ((spec_hiChances.f k l0_0 a2 a3).bind fun t238 => (if 0 ≤ a1 then (if a1 < (t238.length : Int) then (some ((rd_T27 t238 a1).f0, (rd_T27 t238 a1).f1, true)) else (none)) else (none))) else (some (0, 0, false)))) else (some (0, 0, false)))) = some (r1, r2, r3) := h
  clear h
  replace H := Option.bind_eq_some_iff.mp H
  obtain ⟨t236, A50, H⟩ := H
  replace H : (if t236 = true then ((spec_grPlace.f k l0_0 a1).bind fun t237 => (if t237 = true then ((spec_hiChances.f k l0_0 a2 a3).bind fun t238 => (if 0 ≤ a1 then (if a1 < (t238.length : Int) then (some ((rd_T27 t238 a1).f0, (rd_T27 t238 a1).f1, true)) else (none)) else (none))) else (some (0, 0, false)))) else (some (0, 0, false))) = some (r1, r2, r3) := H
  have A5 := Aside0.mk A50
  clear A50
  by_cases c6 : t236 = true
  · subst c6
    have H1 : ((spec_grPlace.f k l0_0 a1).bind fun t237 => (if t237 = true then ((spec_hiChances.f k l0_0 a2 a3).bind fun t238 => (if 0 ≤ a1 then (if a1 < (t238.length : Int) then (some ((rd_T27 t238 a1).f0, (rd_T27 t238 a1).f1, true)) else (none)) else (none))) else (some (0, 0, false)))) = some (r1, r2, r3) := by rw [if_pos rfl] at H; exact H
    clear H
    have H := H1
    clear H1
    replace H := Option.bind_eq_some_iff.mp H
    obtain ⟨t237, A70, H⟩ := H
    replace H : (if t237 = true then ((spec_hiChances.f k l0_0 a2 a3).bind fun t238 => (if 0 ≤ a1 then (if a1 < (t238.length : Int) then (some ((rd_T27 t238 a1).f0, (rd_T27 t238 a1).f1, true)) else (none)) else (none))) else (some (0, 0, false))) = some (r1, r2, r3) := H
    have A7 := Aside0.mk A70
    clear A70
    by_cases c8 : t237 = true
    · subst c8
      have H1 : ((spec_hiChances.f k l0_0 a2 a3).bind fun t238 => (if 0 ≤ a1 then (if a1 < (t238.length : Int) then (some ((rd_T27 t238 a1).f0, (rd_T27 t238 a1).f1, true)) else (none)) else (none))) = some (r1, r2, r3) := by rw [if_pos rfl] at H; exact H
      clear H
      have H := H1
      clear H1
      replace H := Option.bind_eq_some_iff.mp H
      obtain ⟨t238, A90, H⟩ := H
      replace H : (if 0 ≤ a1 then (if a1 < (t238.length : Int) then (some ((rd_T27 t238 a1).f0, (rd_T27 t238 a1).f1, true)) else (none)) else (none)) = some (r1, r2, r3) := H
      have A9 := Aside0.mk A90
      clear A90
      by_cases c10 : 0 ≤ a1
      · rw [if_pos c10] at H
        have c10b0 : decide (0 ≤ a1) = true := decide_eq_true c10
        clear c10
        by_cases c11 : a1 < (t238.length : Int)
        · rw [if_pos c11] at H
          have c11b0 : decide (a1 < (t238.length : Int)) = true := decide_eq_true c11
          clear c11
          simp only [Option.some.injEq, Prod.mk.injEq] at H
          obtain ⟨rfl, rfl, rfl⟩ := H
          go_enter Try.func42, Try.ntmps42
          go_wp2_with (first | ((with_reducible refine gate_dst (N := 4) rfl ?_); refine box_event ?hg (N := 4) ?hd (cs := #[.slice A0_0 l0_0.length c0_0]) (t := 30) ?hr ?_; (case hd => rfl); (case hg => rfl); (case hr => first | (go_simp; done) | (go_simp; rfl)); intro gb234 hg w12 hbox hb; have n0_ := Aside0.mk (below_step (by repeat (first | (with_reducible first | exact HB.out | apply below_alloc | apply pw_below_drewN | apply below_drew1) | exact HB.out)) hb); have n1_ := Aside0.mk (hbox); have n2_ := Aside0.mk ((by rw [hg]; exact (below_size (by repeat (first | (with_reducible first | exact HB.out | apply below_alloc | apply pw_below_drewN | apply below_drew1) | exact HB.out))) : w.heap.size ≤ gb234)); have n3_ := Aside0.mk ((by rw [hg]; exact (below_size (by repeat (first | (with_reducible first | exact HB.out | apply below_alloc | apply pw_below_drewN | apply below_drew1) | exact HB.out))) : w.heap.size ≤ gb234)); clear HB; have HB := n0_; have BK234 := n1_; have GW234 := n2_; have GE234 := n3_; clear n0_ n1_ n2_ n3_; clear hb hbox hg) | ((with_reducible refine gate_dst (N := 8) rfl ?_); refine box_event ?hg (N := 8) ?hd (cs := #[.int .i64 0, .int .i64 0]) (t := 27) ?hr ?_; (case hd => rfl); (case hg => rfl); (case hr => first | (go_simp; done) | (go_simp; rfl)); intro gb235 hg w13 hbox hb; have n0_ := Aside0.mk (blk_below (g := gb234) (o := .cells #[.slice A0_0 l0_0.length c0_0] 30 (0, 0)) (by (with_reducible repeat (first | refine blk_drewN ?_ _ | refine blk_drew ?_ | refine blk_alloc ?_ _)); exact BK234.out) hb); have n1_ := Aside0.mk (below_step (by repeat (first | (with_reducible first | exact HB.out | apply below_alloc | apply pw_below_drewN | apply below_drew1 | refine below_set ?_ GE234.out) | exact HB.out)) hb); have n2_ := Aside0.mk (hbox); have n3_ := Aside0.mk ((by rw [hg]; exact (below_size (by repeat (first | (with_reducible first | exact HB.out | apply below_alloc | apply pw_below_drewN | apply below_drew1 | refine below_set ?_ GE234.out) | exact HB.out))) : w.heap.size ≤ gb235)); have n4_ := Aside0.mk ((by rw [hg]; exact (below_size (by repeat (first | (with_reducible first | exact HB.out | apply below_alloc | apply pw_below_drewN | apply below_drew1 | refine below_set ?_ GE234.out) | exact HB.out))) : w.heap.size ≤ gb235)); have n5_ := Aside0.mk ((by rw [hg]; exact Nat.ne_of_lt (blk_lt (g := gb234) (o := .cells #[.slice A0_0 l0_0.length c0_0] 30 (0, 0)) (by (with_reducible repeat (first | refine blk_drewN ?_ _ | refine blk_drew ?_ | refine blk_alloc ?_ _)); exact BK234.out)) : gb234 ≠ gb235)); have n6_ := Aside0.mk ((by rw [hg]; exact Nat.ne_of_gt (blk_lt (g := gb234) (o := .cells #[.slice A0_0 l0_0.length c0_0] 30 (0, 0)) (by (with_reducible repeat (first | refine blk_drewN ?_ _ | refine blk_drew ?_ | refine blk_alloc ?_ _)); exact BK234.out)) : gb235 ≠ gb234)); clear BK234; clear HB; have BK234 := n0_; have HB := n1_; have BK235 := n2_; have GW235 := n3_; have GE235 := n4_; have NB234_235 := n5_; have NB235_234 := n6_; clear n0_ n1_ n2_ n3_ n4_ n5_ n6_; clear hb hbox hg; have hnb14 := NB234_235.out; have hnc14 := NB235_234.out; have hcz15_0 : w13.cell? ⟨gb234, 0, none⟩ = some (.slice A0_0 l0_0.length c0_0) := (blk_cell BK234.out 0).trans rfl; have hfz15_0 := blk_frozen BK234.out 0) | ((with_reducible refine gate_callee (f := 87) rfl ?_); refine goesL_ (some 13) rfl rfl Try.func87 (by kernel_rfl) rfl #[.agg #[.slice A0_0 l0_0.length c0_0], .int .i64 a2, .int .i64 a3] rfl (by (try simp only [List.map_toArray, List.map_cons, List.map_nil]); first | done | rfl | (simp only [List.length_drop, List.length_take]; rfl)) ?_; (with_reducible refine (spec_hiGood.calls k _ _ l0_0 a2 a3 true _ ?side1 ?side2 A5.out).mono ?_); (case side1 => repeat (first | exact (Kd.C_below HR0_0.out HB.out) | (with_reducible refine Kd.C_alloc ?_ _) | (with_reducible refine Kd.C_drewN ?_ _) | (with_reducible refine Kd.C_drew ?_))); (case side2 => exact HC0_0.out); rintro e w16 ⟨rfl, hb⟩; refine ⟨_, rfl, ?_⟩; have n0_ := Aside0.mk (blk_below (g := gb234) (o := .cells #[.slice A0_0 l0_0.length c0_0] 30 (0, 0)) (by (with_reducible repeat (first | refine blk_drewN ?_ _ | refine blk_drew ?_ | refine blk_alloc ?_ _)); exact BK234.out) hb); have n1_ := Aside0.mk (blk_below (g := gb235) (o := .cells #[.int .i64 0, .int .i64 0] 27 (0, 0)) (by (with_reducible repeat (first | refine blk_drewN ?_ _ | refine blk_drew ?_ | refine blk_alloc ?_ _)); exact BK235.out) hb); have n2_ := Aside0.mk (below_step (by repeat (first | (with_reducible first | exact HB.out | apply below_alloc | apply pw_below_drewN | apply below_drew1 | refine below_set ?_ GE234.out | refine below_set ?_ GE235.out) | exact HB.out)) hb); clear BK234; clear BK235; clear HB; have BK234 := n0_; have BK235 := n1_; have HB := n2_; clear n0_ n1_ n2_; (try clear hb); (try clear hb2); (try clear hk); (try clear hi); have hcz17_0 : w16.cell? ⟨gb234, 0, none⟩ = some (.slice A0_0 l0_0.length c0_0) := (blk_cell BK234.out 0).trans rfl; have hfz17_0 := blk_frozen BK234.out 0) | (go_at_call 72; (with_reducible refine (spec_grPlace.calls k _ _ l0_0 a1 true _ ?side1 ?side2 A7.out).mono ?_); (case side1 => repeat (first | exact (Kd.C_below HR0_0.out HB.out) | (with_reducible refine Kd.C_alloc ?_ _) | (with_reducible refine Kd.C_drewN ?_ _) | (with_reducible refine Kd.C_drew ?_))); (case side2 => exact HC0_0.out); rintro e w18 ⟨rfl, hb⟩; have n0_ := Aside0.mk (blk_below (g := gb234) (o := .cells #[.slice A0_0 l0_0.length c0_0] 30 (0, 0)) (by (with_reducible repeat (first | refine blk_drewN ?_ _ | refine blk_drew ?_ | refine blk_alloc ?_ _)); exact BK234.out) hb); have n1_ := Aside0.mk (blk_below (g := gb235) (o := .cells #[.int .i64 0, .int .i64 0] 27 (0, 0)) (by (with_reducible repeat (first | refine blk_drewN ?_ _ | refine blk_drew ?_ | refine blk_alloc ?_ _)); exact BK235.out) hb); have n2_ := Aside0.mk (below_step (by repeat (first | (with_reducible first | exact HB.out | apply below_alloc | apply pw_below_drewN | apply below_drew1 | refine below_set ?_ GE234.out | refine below_set ?_ GE235.out) | exact HB.out)) hb); clear BK234; clear BK235; clear HB; have BK234 := n0_; have BK235 := n1_; have HB := n2_; clear n0_ n1_ n2_; (try clear hb); (try clear hb2); (try clear hk); (try clear hi); have hcz19_0 : w18.cell? ⟨gb234, 0, none⟩ = some (.slice A0_0 l0_0.length c0_0) := (blk_cell BK234.out 0).trans rfl; have hfz19_0 := blk_frozen BK234.out 0) | ((with_reducible refine gate_callee (f := 92) rfl ?_); refine goesL_ (some 25) rfl rfl Try.func92 (by kernel_rfl) rfl #[.agg #[.slice A0_0 l0_0.length c0_0], .int .i64 a2, .int .i64 a3] rfl (by (try simp only [List.map_toArray, List.map_cons, List.map_nil]); first | done | rfl | (simp only [List.length_drop, List.length_take]; rfl)) ?_; (with_reducible refine (spec_hiChances.calls k _ _ l0_0 a2 a3 t238 _ ?side1 ?side2 A9.out).mono ?_); (case side1 => repeat (first | exact (Kd.C_below HR0_0.out HB.out) | (with_reducible refine Kd.C_alloc ?_ _) | (with_reducible refine Kd.C_drewN ?_ _) | (with_reducible refine Kd.C_drew ?_))); (case side2 => exact HC0_0.out); rintro e w20 ⟨v239, rfl, ho0, hb⟩; refine ⟨_, rfl, ?_⟩; have n0_ := Aside0.mk (Kd.R_lower (Kd.R_newB ho0 (g := gb235) (o := .cells #[.int .i64 0, .int .i64 0] 27 (0, 0)) (by (with_reducible repeat (first | refine blk_drewN ?_ _ | refine blk_drew ?_ | refine blk_alloc ?_ _)); exact BK235.out)) (below_size (by repeat (first | (with_reducible first | exact HB.out | apply below_alloc | apply pw_below_drewN | apply below_drew1 | refine below_set ?_ GE234.out | refine below_set ?_ GE235.out) | exact HB.out)))); have n1_ := Aside0.mk (blk_below (g := gb234) (o := .cells #[.slice A0_0 l0_0.length c0_0] 30 (0, 0)) (by (with_reducible repeat (first | refine blk_drewN ?_ _ | refine blk_drew ?_ | refine blk_alloc ?_ _)); exact BK234.out) hb); have n2_ := Aside0.mk (blk_below (g := gb235) (o := .cells #[.int .i64 0, .int .i64 0] 27 (0, 0)) (by (with_reducible repeat (first | refine blk_drewN ?_ _ | refine blk_drew ?_ | refine blk_alloc ?_ _)); exact BK235.out) hb); have n3_ := Aside0.mk (below_step (by repeat (first | (with_reducible first | exact HB.out | apply below_alloc | apply pw_below_drewN | apply below_drew1 | refine below_set ?_ GE234.out | refine below_set ?_ GE235.out) | exact HB.out)) hb); clear BK234; clear BK235; clear HB; have HO240 := n0_; have BK234 := n1_; have BK235 := n2_; have HB := n3_; clear n0_ n1_ n2_ n3_; (try clear hb); (try clear hb2); (try clear hk); (try clear hi); (try clear ho0); obtain ⟨Ao21, co21, eo21⟩ := Kd.R_slice HO240.out; subst eo21; have p241 : 0 ≤ (a1 : Int) := of_decide_eq_true (by first | (with_reducible assumption) | assumption); have q241 : a1 < (t238.length : Int) := of_decide_eq_true (by first | (with_reducible assumption) | assumption); obtain ⟨ad241, e241, hx241_0, hx241_1⟩ := at_T27 (Kd.R_reads' HO240.out).2.2 a1 p241 q241; cases e241; replace p241 := eq_true p241; replace q241 := eq_true q241; have hcz22_0 : w20.cell? ⟨gb235, 0, none⟩ = some (.int .i64 0) := (blk_cell BK235.out 0).trans rfl; have hcz22_1 : w20.cell? ⟨gb235, 1, none⟩ = some (.int .i64 0) := (blk_cell BK235.out 1).trans rfl; have hfz22_0 := blk_frozen BK235.out 0; have hfz22_1 := blk_frozen BK235.out 1))
          refine bodyPost_ret (results_ct rfl _ _ gb235 27 #[.int .i64 ((rd_T27 t238 a1).f0), .int .i64 ((rd_T27 t238 a1).f1)] (0, 0) _ rfl (by (with_reducible repeat (first | refine blk_drewN ?_ _ | refine blk_drew ?_ | refine blk_alloc ?_ _)); refine blk_put (cs := #[.int .i64 ((rd_T27 t238 a1).f0), .int .i64 0]) ?_ 1 _ rfl; (with_reducible repeat (first | refine blk_drewN ?_ _ | refine blk_drew ?_ | refine blk_alloc ?_ _)); refine blk_put (cs := #[.int .i64 0, .int .i64 0]) ?_ 0 _ rfl; (with_reducible repeat (first | refine blk_drewN ?_ _ | refine blk_drew ?_ | refine blk_alloc ?_ _)); exact BK235.out) Try.underlying27 rfl (by kernel_rfl)) rfl ?_
          exact ⟨by first | rfl | (simp [errW_none, errW_some] <;> rfl) | (simp [*, errW_none, errW_some] <;> rfl), by repeat (first | (with_reducible first | exact HB.out | apply below_alloc | apply pw_below_drewN | apply below_drew1 | refine below_set ?_ GE234.out | refine below_set ?_ GE235.out) | exact HB.out)⟩
        · rw [if_neg c11] at H
          exact absurd H (by simp)
      · rw [if_neg c10] at H
        exact absurd H (by simp)
    · replace c8 := Bool.eq_false_iff.mpr c8
      subst c8
      have H1 : (some (0, 0, false)) = some (r1, r2, r3) := by rw [if_neg (show ¬ (false = true) by decide)] at H; exact H
      clear H
      have H := H1
      clear H1
      simp only [Option.some.injEq, Prod.mk.injEq] at H
      obtain ⟨rfl, rfl, rfl⟩ := H
      go_enter Try.func42, Try.ntmps42
      go_wp2_with (first | ((with_reducible refine gate_dst (N := 4) rfl ?_); refine box_event ?hg (N := 4) ?hd (cs := #[.slice A0_0 l0_0.length c0_0]) (t := 30) ?hr ?_; (case hd => rfl); (case hg => rfl); (case hr => first | (go_simp; done) | (go_simp; rfl)); intro gb234 hg w23 hbox hb; have n0_ := Aside0.mk (below_step (by repeat (first | (with_reducible first | exact HB.out | apply below_alloc | apply pw_below_drewN | apply below_drew1) | exact HB.out)) hb); have n1_ := Aside0.mk (hbox); have n2_ := Aside0.mk ((by rw [hg]; exact (below_size (by repeat (first | (with_reducible first | exact HB.out | apply below_alloc | apply pw_below_drewN | apply below_drew1) | exact HB.out))) : w.heap.size ≤ gb234)); have n3_ := Aside0.mk ((by rw [hg]; exact (below_size (by repeat (first | (with_reducible first | exact HB.out | apply below_alloc | apply pw_below_drewN | apply below_drew1) | exact HB.out))) : w.heap.size ≤ gb234)); clear HB; have HB := n0_; have BK234 := n1_; have GW234 := n2_; have GE234 := n3_; clear n0_ n1_ n2_ n3_; clear hb hbox hg) | ((with_reducible refine gate_dst (N := 8) rfl ?_); refine box_event ?hg (N := 8) ?hd (cs := #[.int .i64 0, .int .i64 0]) (t := 27) ?hr ?_; (case hd => rfl); (case hg => rfl); (case hr => first | (go_simp; done) | (go_simp; rfl)); intro gb235 hg w24 hbox hb; have n0_ := Aside0.mk (blk_below (g := gb234) (o := .cells #[.slice A0_0 l0_0.length c0_0] 30 (0, 0)) (by (with_reducible repeat (first | refine blk_drewN ?_ _ | refine blk_drew ?_ | refine blk_alloc ?_ _)); exact BK234.out) hb); have n1_ := Aside0.mk (below_step (by repeat (first | (with_reducible first | exact HB.out | apply below_alloc | apply pw_below_drewN | apply below_drew1 | refine below_set ?_ GE234.out) | exact HB.out)) hb); have n2_ := Aside0.mk (hbox); have n3_ := Aside0.mk ((by rw [hg]; exact (below_size (by repeat (first | (with_reducible first | exact HB.out | apply below_alloc | apply pw_below_drewN | apply below_drew1 | refine below_set ?_ GE234.out) | exact HB.out))) : w.heap.size ≤ gb235)); have n4_ := Aside0.mk ((by rw [hg]; exact (below_size (by repeat (first | (with_reducible first | exact HB.out | apply below_alloc | apply pw_below_drewN | apply below_drew1 | refine below_set ?_ GE234.out) | exact HB.out))) : w.heap.size ≤ gb235)); have n5_ := Aside0.mk ((by rw [hg]; exact Nat.ne_of_lt (blk_lt (g := gb234) (o := .cells #[.slice A0_0 l0_0.length c0_0] 30 (0, 0)) (by (with_reducible repeat (first | refine blk_drewN ?_ _ | refine blk_drew ?_ | refine blk_alloc ?_ _)); exact BK234.out)) : gb234 ≠ gb235)); have n6_ := Aside0.mk ((by rw [hg]; exact Nat.ne_of_gt (blk_lt (g := gb234) (o := .cells #[.slice A0_0 l0_0.length c0_0] 30 (0, 0)) (by (with_reducible repeat (first | refine blk_drewN ?_ _ | refine blk_drew ?_ | refine blk_alloc ?_ _)); exact BK234.out)) : gb235 ≠ gb234)); clear BK234; clear HB; have BK234 := n0_; have HB := n1_; have BK235 := n2_; have GW235 := n3_; have GE235 := n4_; have NB234_235 := n5_; have NB235_234 := n6_; clear n0_ n1_ n2_ n3_ n4_ n5_ n6_; clear hb hbox hg; have hnb25 := NB234_235.out; have hnc25 := NB235_234.out; have hcz26_0 : w24.cell? ⟨gb234, 0, none⟩ = some (.slice A0_0 l0_0.length c0_0) := (blk_cell BK234.out 0).trans rfl; have hfz26_0 := blk_frozen BK234.out 0) | ((with_reducible refine gate_callee (f := 87) rfl ?_); refine goesL_ (some 13) rfl rfl Try.func87 (by kernel_rfl) rfl #[.agg #[.slice A0_0 l0_0.length c0_0], .int .i64 a2, .int .i64 a3] rfl (by (try simp only [List.map_toArray, List.map_cons, List.map_nil]); first | done | rfl | (simp only [List.length_drop, List.length_take]; rfl)) ?_; (with_reducible refine (spec_hiGood.calls k _ _ l0_0 a2 a3 true _ ?side1 ?side2 A5.out).mono ?_); (case side1 => repeat (first | exact (Kd.C_below HR0_0.out HB.out) | (with_reducible refine Kd.C_alloc ?_ _) | (with_reducible refine Kd.C_drewN ?_ _) | (with_reducible refine Kd.C_drew ?_))); (case side2 => exact HC0_0.out); rintro e w27 ⟨rfl, hb⟩; refine ⟨_, rfl, ?_⟩; have n0_ := Aside0.mk (blk_below (g := gb234) (o := .cells #[.slice A0_0 l0_0.length c0_0] 30 (0, 0)) (by (with_reducible repeat (first | refine blk_drewN ?_ _ | refine blk_drew ?_ | refine blk_alloc ?_ _)); exact BK234.out) hb); have n1_ := Aside0.mk (blk_below (g := gb235) (o := .cells #[.int .i64 0, .int .i64 0] 27 (0, 0)) (by (with_reducible repeat (first | refine blk_drewN ?_ _ | refine blk_drew ?_ | refine blk_alloc ?_ _)); exact BK235.out) hb); have n2_ := Aside0.mk (below_step (by repeat (first | (with_reducible first | exact HB.out | apply below_alloc | apply pw_below_drewN | apply below_drew1 | refine below_set ?_ GE234.out | refine below_set ?_ GE235.out) | exact HB.out)) hb); clear BK234; clear BK235; clear HB; have BK234 := n0_; have BK235 := n1_; have HB := n2_; clear n0_ n1_ n2_; (try clear hb); (try clear hb2); (try clear hk); (try clear hi); have hcz28_0 : w27.cell? ⟨gb234, 0, none⟩ = some (.slice A0_0 l0_0.length c0_0) := (blk_cell BK234.out 0).trans rfl; have hfz28_0 := blk_frozen BK234.out 0) | (go_at_call 72; (with_reducible refine (spec_grPlace.calls k _ _ l0_0 a1 false _ ?side1 ?side2 A7.out).mono ?_); (case side1 => repeat (first | exact (Kd.C_below HR0_0.out HB.out) | (with_reducible refine Kd.C_alloc ?_ _) | (with_reducible refine Kd.C_drewN ?_ _) | (with_reducible refine Kd.C_drew ?_))); (case side2 => exact HC0_0.out); rintro e w29 ⟨rfl, hb⟩; have n0_ := Aside0.mk (blk_below (g := gb234) (o := .cells #[.slice A0_0 l0_0.length c0_0] 30 (0, 0)) (by (with_reducible repeat (first | refine blk_drewN ?_ _ | refine blk_drew ?_ | refine blk_alloc ?_ _)); exact BK234.out) hb); have n1_ := Aside0.mk (blk_below (g := gb235) (o := .cells #[.int .i64 0, .int .i64 0] 27 (0, 0)) (by (with_reducible repeat (first | refine blk_drewN ?_ _ | refine blk_drew ?_ | refine blk_alloc ?_ _)); exact BK235.out) hb); have n2_ := Aside0.mk (below_step (by repeat (first | (with_reducible first | exact HB.out | apply below_alloc | apply pw_below_drewN | apply below_drew1 | refine below_set ?_ GE234.out | refine below_set ?_ GE235.out) | exact HB.out)) hb); clear BK234; clear BK235; clear HB; have BK234 := n0_; have BK235 := n1_; have HB := n2_; clear n0_ n1_ n2_; (try clear hb); (try clear hb2); (try clear hk); (try clear hi); have hcz30_0 : w29.cell? ⟨gb235, 0, none⟩ = some (.int .i64 0) := (blk_cell BK235.out 0).trans rfl; have hcz30_1 : w29.cell? ⟨gb235, 1, none⟩ = some (.int .i64 0) := (blk_cell BK235.out 1).trans rfl; have hfz30_0 := blk_frozen BK235.out 0; have hfz30_1 := blk_frozen BK235.out 1))
      refine bodyPost_ret (results_ct rfl _ _ gb235 27 #[.int .i64 0, .int .i64 0] (0, 0) _ rfl (by (with_reducible repeat (first | refine blk_drewN ?_ _ | refine blk_drew ?_ | refine blk_alloc ?_ _)); refine blk_put (cs := #[.int .i64 0, .int .i64 0]) ?_ 1 _ rfl; (with_reducible repeat (first | refine blk_drewN ?_ _ | refine blk_drew ?_ | refine blk_alloc ?_ _)); refine blk_put (cs := #[.int .i64 0, .int .i64 0]) ?_ 0 _ rfl; (with_reducible repeat (first | refine blk_drewN ?_ _ | refine blk_drew ?_ | refine blk_alloc ?_ _)); exact BK235.out) Try.underlying27 rfl (by kernel_rfl)) rfl ?_
      exact ⟨by first | rfl | (simp [errW_none, errW_some] <;> rfl) | (simp [*, errW_none, errW_some] <;> rfl), by repeat (first | (with_reducible first | exact HB.out | apply below_alloc | apply pw_below_drewN | apply below_drew1 | refine below_set ?_ GE234.out | refine below_set ?_ GE235.out) | exact HB.out)⟩
  · replace c6 := Bool.eq_false_iff.mpr c6
    subst c6
    have H1 : (some (0, 0, false)) = some (r1, r2, r3) := by rw [if_neg (show ¬ (false = true) by decide)] at H; exact H
    clear H
    have H := H1
    clear H1
    simp only [Option.some.injEq, Prod.mk.injEq] at H
    obtain ⟨rfl, rfl, rfl⟩ := H
    go_enter Try.func42, Try.ntmps42
    go_wp2_with (first | ((with_reducible refine gate_dst (N := 4) rfl ?_); refine box_event ?hg (N := 4) ?hd (cs := #[.slice A0_0 l0_0.length c0_0]) (t := 30) ?hr ?_; (case hd => rfl); (case hg => rfl); (case hr => first | (go_simp; done) | (go_simp; rfl)); intro gb234 hg w31 hbox hb; have n0_ := Aside0.mk (below_step (by repeat (first | (with_reducible first | exact HB.out | apply below_alloc | apply pw_below_drewN | apply below_drew1) | exact HB.out)) hb); have n1_ := Aside0.mk (hbox); have n2_ := Aside0.mk ((by rw [hg]; exact (below_size (by repeat (first | (with_reducible first | exact HB.out | apply below_alloc | apply pw_below_drewN | apply below_drew1) | exact HB.out))) : w.heap.size ≤ gb234)); have n3_ := Aside0.mk ((by rw [hg]; exact (below_size (by repeat (first | (with_reducible first | exact HB.out | apply below_alloc | apply pw_below_drewN | apply below_drew1) | exact HB.out))) : w.heap.size ≤ gb234)); clear HB; have HB := n0_; have BK234 := n1_; have GW234 := n2_; have GE234 := n3_; clear n0_ n1_ n2_ n3_; clear hb hbox hg) | ((with_reducible refine gate_dst (N := 8) rfl ?_); refine box_event ?hg (N := 8) ?hd (cs := #[.int .i64 0, .int .i64 0]) (t := 27) ?hr ?_; (case hd => rfl); (case hg => rfl); (case hr => first | (go_simp; done) | (go_simp; rfl)); intro gb235 hg w32 hbox hb; have n0_ := Aside0.mk (blk_below (g := gb234) (o := .cells #[.slice A0_0 l0_0.length c0_0] 30 (0, 0)) (by (with_reducible repeat (first | refine blk_drewN ?_ _ | refine blk_drew ?_ | refine blk_alloc ?_ _)); exact BK234.out) hb); have n1_ := Aside0.mk (below_step (by repeat (first | (with_reducible first | exact HB.out | apply below_alloc | apply pw_below_drewN | apply below_drew1 | refine below_set ?_ GE234.out) | exact HB.out)) hb); have n2_ := Aside0.mk (hbox); have n3_ := Aside0.mk ((by rw [hg]; exact (below_size (by repeat (first | (with_reducible first | exact HB.out | apply below_alloc | apply pw_below_drewN | apply below_drew1 | refine below_set ?_ GE234.out) | exact HB.out))) : w.heap.size ≤ gb235)); have n4_ := Aside0.mk ((by rw [hg]; exact (below_size (by repeat (first | (with_reducible first | exact HB.out | apply below_alloc | apply pw_below_drewN | apply below_drew1 | refine below_set ?_ GE234.out) | exact HB.out))) : w.heap.size ≤ gb235)); have n5_ := Aside0.mk ((by rw [hg]; exact Nat.ne_of_lt (blk_lt (g := gb234) (o := .cells #[.slice A0_0 l0_0.length c0_0] 30 (0, 0)) (by (with_reducible repeat (first | refine blk_drewN ?_ _ | refine blk_drew ?_ | refine blk_alloc ?_ _)); exact BK234.out)) : gb234 ≠ gb235)); have n6_ := Aside0.mk ((by rw [hg]; exact Nat.ne_of_gt (blk_lt (g := gb234) (o := .cells #[.slice A0_0 l0_0.length c0_0] 30 (0, 0)) (by (with_reducible repeat (first | refine blk_drewN ?_ _ | refine blk_drew ?_ | refine blk_alloc ?_ _)); exact BK234.out)) : gb235 ≠ gb234)); clear BK234; clear HB; have BK234 := n0_; have HB := n1_; have BK235 := n2_; have GW235 := n3_; have GE235 := n4_; have NB234_235 := n5_; have NB235_234 := n6_; clear n0_ n1_ n2_ n3_ n4_ n5_ n6_; clear hb hbox hg; have hnb33 := NB234_235.out; have hnc33 := NB235_234.out; have hcz34_0 : w32.cell? ⟨gb234, 0, none⟩ = some (.slice A0_0 l0_0.length c0_0) := (blk_cell BK234.out 0).trans rfl; have hfz34_0 := blk_frozen BK234.out 0) | ((with_reducible refine gate_callee (f := 87) rfl ?_); refine goesL_ (some 13) rfl rfl Try.func87 (by kernel_rfl) rfl #[.agg #[.slice A0_0 l0_0.length c0_0], .int .i64 a2, .int .i64 a3] rfl (by (try simp only [List.map_toArray, List.map_cons, List.map_nil]); first | done | rfl | (simp only [List.length_drop, List.length_take]; rfl)) ?_; (with_reducible refine (spec_hiGood.calls k _ _ l0_0 a2 a3 false _ ?side1 ?side2 A5.out).mono ?_); (case side1 => repeat (first | exact (Kd.C_below HR0_0.out HB.out) | (with_reducible refine Kd.C_alloc ?_ _) | (with_reducible refine Kd.C_drewN ?_ _) | (with_reducible refine Kd.C_drew ?_))); (case side2 => exact HC0_0.out); rintro e w35 ⟨rfl, hb⟩; refine ⟨_, rfl, ?_⟩; have n0_ := Aside0.mk (blk_below (g := gb234) (o := .cells #[.slice A0_0 l0_0.length c0_0] 30 (0, 0)) (by (with_reducible repeat (first | refine blk_drewN ?_ _ | refine blk_drew ?_ | refine blk_alloc ?_ _)); exact BK234.out) hb); have n1_ := Aside0.mk (blk_below (g := gb235) (o := .cells #[.int .i64 0, .int .i64 0] 27 (0, 0)) (by (with_reducible repeat (first | refine blk_drewN ?_ _ | refine blk_drew ?_ | refine blk_alloc ?_ _)); exact BK235.out) hb); have n2_ := Aside0.mk (below_step (by repeat (first | (with_reducible first | exact HB.out | apply below_alloc | apply pw_below_drewN | apply below_drew1 | refine below_set ?_ GE234.out | refine below_set ?_ GE235.out) | exact HB.out)) hb); clear BK234; clear BK235; clear HB; have BK234 := n0_; have BK235 := n1_; have HB := n2_; clear n0_ n1_ n2_; (try clear hb); (try clear hb2); (try clear hk); (try clear hi); have hcz36_0 : w35.cell? ⟨gb235, 0, none⟩ = some (.int .i64 0) := (blk_cell BK235.out 0).trans rfl; have hcz36_1 : w35.cell? ⟨gb235, 1, none⟩ = some (.int .i64 0) := (blk_cell BK235.out 1).trans rfl; have hfz36_0 := blk_frozen BK235.out 0; have hfz36_1 := blk_frozen BK235.out 1))
    refine bodyPost_ret (results_ct rfl _ _ gb235 27 #[.int .i64 0, .int .i64 0] (0, 0) _ rfl (by (with_reducible repeat (first | refine blk_drewN ?_ _ | refine blk_drew ?_ | refine blk_alloc ?_ _)); refine blk_put (cs := #[.int .i64 0, .int .i64 0]) ?_ 1 _ rfl; (with_reducible repeat (first | refine blk_drewN ?_ _ | refine blk_drew ?_ | refine blk_alloc ?_ _)); refine blk_put (cs := #[.int .i64 0, .int .i64 0]) ?_ 0 _ rfl; (with_reducible repeat (first | refine blk_drewN ?_ _ | refine blk_drew ?_ | refine blk_alloc ?_ _)); exact BK235.out) Try.underlying27 rfl (by kernel_rfl)) rfl ?_
    exact ⟨by first | rfl | (simp [errW_none, errW_some] <;> rfl) | (simp [*, errW_none, errW_some] <;> rfl), by repeat (first | (with_reducible first | exact HB.out | apply below_alloc | apply pw_below_drewN | apply below_drew1 | refine below_set ?_ GE234.out | refine below_set ?_ GE235.out) | exact HB.out)⟩
end Go.Proofs.Ytnbnalbomflafaa.GT
/-! ## Dp -/
namespace Go.Proofs.Ytnbnalbomflafaa.DT
open Go.RowKit Go.Proofs.YtnbnalbomflafaaW.PrintWords Go.Proofs.YtnbnalbomflafaaW.PrintLast Go.Proofs.YtnbnalbomflafaaW.PrintMore
open Go.Proofs.Ytnbnalbomflafaa.GA hiding info37
open Go.Proofs.Ytnbnalbomflafaa.GR hiding rd_L1 at_L1
open Go.Proofs.Ytnbnalbomflafaa.RA
set_option linter.unusedVariables false
set_option linter.unusedSimpArgs false
/-- What is known of a good graph's equations. -/
structure Eqs (l : List (List Int)) (own : Int → Int) (atA a b : Int) : Prop where
  m6 : (innerL l a b).length ≤ 6
  sq : Sq (innerL l a b).length (matM l a b)
  bM : ∀ r c, r < (innerL l a b).length → c < (innerL l a b).length → (matF (matM l a b) r c).natAbs ≤ 5
  lR : (rightL l own atA 0 a b (innerL l a b)).length = (innerL l a b).length
  bR : ∀ r : Nat, r < (innerL l a b).length → (rd (rightL l own atA 0 a b (innerL l a b)) (r : Int)).natAbs ≤ 5
theorem eqs_of {l : List (List Int)} {own : Int → Int} {atA a b : Int} (h : goodB l a b = true) (hS : ∀ p : Int, 0 ≤ p → p < l.length → ∀ x, x ≤ (rd_L1 l p).length → -5 ≤ sumF own atA 0 a b p (rd_L1 l p) x ∧ sumF own atA 0 a b p (rd_L1 l p) x ≤ 5) : Eqs l own atA a b := by
  obtain ⟨hab, a0, a1, b0, b1, h8, h5, _, _⟩ := good_facts h
  refine ⟨inner_six h8 a0 a1 b0 b1 hab, sq_matM l a b, fun r c hr hc => matM_bound h5 hr hc, by simp [rightL], fun r hr => ?_⟩
  rw [rightL_at l own atA 0 a b _ hr]
  have hm := inner_mem (l := l) (a := a) (b := b) (p := rd (innerL l a b) (r : Int)) (by rw [rd_at _ r hr]; exact List.getElem_mem _)
  have := hS _ hm.1 hm.2.1 _ (Nat.le_refl _)
  omega
theorem eqs_solve {l : List (List Int)} {own : Int → Int} {atA a b : Int} (h : Eqs l own atA a b) (k : Nat) (hk : 300 ≤ k) : spec_hiSolve.f k (matM l a b) (rightL l own atA 0 a b (innerL l a b)) = some (numsL (innerL l a b).length (matM l a b) (rightL l own atA 0 a b (innerL l a b)), denOf l a b) := solve_f h.m6 h.sq h.lR h.bM h.bR k hk
theorem nums_at (l : List (List Int)) (own : Int → Int) (atA a b : Int) {j : Nat} (hj : j < (innerL l a b).length) : rd (numsL (innerL l a b).length (matM l a b) (rightL l own atA 0 a b (innerL l a b))) (j : Int) = numOf l own atA 0 a b j := by
  rw [rd_at _ j (by simpa [numsL] using hj)]
  simp [numsL, numOf]
theorem num_bound {l : List (List Int)} {own : Int → Int} {atA a b : Int} (h : Eqs l own atA a b) {j : Nat} (hj : j < (innerL l a b).length) : (numOf l own atA 0 a b j).natAbs ≤ 11250000 := by
  unfold numOf
  refine det_le h.m6 fun r c hr hc => ?_
  rw [colL_at h.sq _ hr hc]
  split
  · exact h.bR r hr
  · exact h.bM r c hr hc
theorem den_bound {l : List (List Int)} {own : Int → Int} {atA a b : Int} (h : Eqs l own atA a b) : (denOf l a b).natAbs ≤ 11250000 := det_le h.m6 h.bM
theorem good_graph {l : List (List Int)} {a b : Int} (h : goodB l a b = true) : KA.isGraphB l = true := (KA.place_is ((goodB_is l a b).2 h).1).1
/-- What the program's list holds at a place. -/
theorem outL_at {l : List (List Int)} {own : Int → Int} {atA a b : Int} {p : Int} (h0 : 0 ≤ p) (h1 : p < l.length) : rd (outL l own atA 0 a b) p = if p = a then atA * denOf l a b else if p = b then 0 * denOf l a b else numOf l own atA 0 a b ((innerL l a b).idxOf p) := by
  obtain ⟨i, rfl⟩ := Int.eq_ofNat_of_zero_le h0
  rw [rd_at _ i (by simp [outL]; omega)]
  simp [outL]
theorem out_bound {l : List (List Int)} {own : Int → Int} {atA a b : Int} (h : Eqs l own atA a b) (hA : -1 ≤ atA ∧ atA ≤ 1) {p : Int} (h0 : 0 ≤ p) (h1 : p < l.length) : (rd (outL l own atA 0 a b) p).natAbs ≤ 11250000 := by
  rw [outL_at h0 h1]
  have hd := den_bound h
  split
  · rw [Int.natAbs_mul]
    have h2 : atA.natAbs ≤ 1 := by omega
    have := Nat.mul_le_mul h2 hd
    omega
  · split
    · simp
    · rename_i q1 q2
      exact num_bound h (List.idxOf_lt_length_iff.2 (mem_inner h0 h1 q1 q2))
noncomputable def stepsOk (l : List (List Int)) (p a b : Int) : Bool := goodB l a b && KA.placeB l p
end Go.Proofs.Ytnbnalbomflafaa.DT
/-! ## Dq -/
namespace Go.Proofs.Ytnbnalbomflafaa.DT
open Go.RowKit Go.Proofs.YtnbnalbomflafaaW.PrintWords Go.Proofs.YtnbnalbomflafaaW.PrintLast Go.Proofs.YtnbnalbomflafaaW.PrintMore
open Go.Proofs.Ytnbnalbomflafaa.GA hiding info37
open Go.Proofs.Ytnbnalbomflafaa.RA
set_option linter.unusedVariables false
set_option linter.unusedSimpArgs false
/-- The answers: a ratio. -/
def RatC (w : World) (R : Int × Int) (ok : Bool) (e : Ending) (w' : World) : Prop := e = .returned (.tuple #[.agg #[.int .i64 R.1, .int .i64 R.2], .bool ok]) ∧ Below w.heap.size w w'
end Go.Proofs.Ytnbnalbomflafaa.DT
/-! ## Dr -/
namespace Go.Proofs.Ytnbnalbomflafaa.RA
open Go.RowKit Go.Proofs.YtnbnalbomflafaaW.PrintWords Go.Proofs.YtnbnalbomflafaaW.PrintLast Go.Proofs.YtnbnalbomflafaaW.PrintMore
open Go.Proofs.Ytnbnalbomflafaa.DT
set_option linter.unusedVariables false
set_option linter.unusedSimpArgs false
theorem eqRat_c (w : World) (x y : Int) : Calls Try.prog 23 #[.agg #[.int .i64 x, .int .i64 y], .agg #[.int .i64 x, .int .i64 y]] w fun e w' => e = .returned (.bool true) ∧ Below w.heap.size w w' :=
  GA.laws_eqRatio.calls x y x y true w (by simp [GA.laws_eqRatio.f])
end Go.Proofs.Ytnbnalbomflafaa.RA
/-! ## HA0 -/
namespace Go.Proofs.Ytnbnalbomflafaa.HA
open Go.RowKit Go.Proofs.YtnbnalbomflafaaW.PrintWords Go.Proofs.YtnbnalbomflafaaW.PrintLast Go.Proofs.YtnbnalbomflafaaW.PrintMore
open Go.Proofs.Ytnbnalbomflafaa.GA Go.Proofs.Ytnbnalbomflafaa.KA
attribute [local go_sem] max2_int min2_int max_two min_two max_three min_three max_four min_four   -- for this text's walks alone
set_option linter.unusedVariables false
set_option linter.unusedSimpArgs false
def errW : Option Int → Value
  | none => .nilIface
  | some c => .iface 0 (.int .i64 c)
theorem errW_none : errW none = .nilIface := rfl
theorem errW_some (c : Int) : errW (some c) = .iface 0 (.int .i64 c) := rfl
end Go.Proofs.Ytnbnalbomflafaa.HA
/-! ## GU0 -/
namespace Go.Proofs.Ytnbnalbomflafaa.GU
open Go.RowKit Go.Proofs.YtnbnalbomflafaaW.PrintWords Go.Proofs.YtnbnalbomflafaaW.PrintLast Go.Proofs.YtnbnalbomflafaaW.PrintMore
open Go.Proofs.Ytnbnalbomflafaa.GA
attribute [local go_sem] max2_int min2_int max_two min_two max_three min_three max_four min_four   -- for this text's walks alone
set_option linter.unusedVariables false
set_option linter.unusedSimpArgs false
def errW : Option Int → Value
  | none => .nilIface
  | some c => .iface 0 (.int .i64 c)
theorem errW_none : errW none = .nilIface := rfl
theorem errW_some (c : Int) : errW (some c) = .iface 0 (.int .i64 c) := rfl
end Go.Proofs.Ytnbnalbomflafaa.GU
/-! ## GV0 -/
namespace Go.Proofs.Ytnbnalbomflafaa.GV
open Go.RowKit Go.Proofs.YtnbnalbomflafaaW.PrintWords Go.Proofs.YtnbnalbomflafaaW.PrintLast Go.Proofs.YtnbnalbomflafaaW.PrintMore
open Go.Proofs.Ytnbnalbomflafaa.GA Go.Proofs.Ytnbnalbomflafaa.KA Go.Proofs.Ytnbnalbomflafaa.GU Go.Proofs.Ytnbnalbomflafaa.HA Go.Proofs.Ytnbnalbomflafaa.DT
attribute [local go_sem] max2_int min2_int max_two min_two max_three min_three max_four min_four   -- for this text's walks alone
set_option linter.unusedVariables false
set_option linter.unusedSimpArgs false
def errW : Option Int → Value
  | none => .nilIface
  | some c => .iface 0 (.int .i64 c)
theorem errW_none : errW none = .nilIface := rfl
theorem errW_some (c : Int) : errW (some c) = .iface 0 (.int .i64 c) := rfl
end Go.Proofs.Ytnbnalbomflafaa.GV
/-! ## GV1 -/
namespace Go.Proofs.Ytnbnalbomflafaa.GV
open Go.RowKit Go.Proofs.YtnbnalbomflafaaW.PrintWords Go.Proofs.YtnbnalbomflafaaW.PrintLast Go.Proofs.YtnbnalbomflafaaW.PrintMore
open Go.Proofs.Ytnbnalbomflafaa.GA Go.Proofs.Ytnbnalbomflafaa.KA Go.Proofs.Ytnbnalbomflafaa.GU Go.Proofs.Ytnbnalbomflafaa.HA Go.Proofs.Ytnbnalbomflafaa.DT
attribute [local go_sem] max2_int min2_int max_two min_two max_three min_three max_four min_four   -- for this text's walks alone
set_option linter.unusedVariables false
set_option linter.unusedSimpArgs false
noncomputable def impl_HitChance.j0 : Nat → Int → Int → Int → Bool → List (List Int) → Option (Int × Int × Bool)
  | 0, _, _, _, _, _ => none
  | k + 1, x1, x2, x3, x23, x115000 => if x23 = true then (some (0, 0, false)) else ((impl_chances.f x115000 x2 x3).bind fun bt121 => (if 0 ≤ x1 then (if x1 < (bt121.1.length : Int) then ((impl_ratio.f k (rd bt121.1 x1) bt121.2).bind fun bt126 => (some (bt126.1, bt126.2, true))) else (none)) else (none)))
noncomputable def impl_HitChance.f (k : Nat) (l0_0 : List (List Int)) (a1 : Int) (a2 : Int) (a3 : Int) : Option (Int × Int × Bool) := (impl_goodEnd.f l0_0 a2 a3).bind fun t116 => (if t116 = true then ((impl_has.f l0_0 (([a1] : List Int))).bind fun t120 => (impl_HitChance.j0 k a1 a2 a3 (!t120) l0_0)) else (impl_HitChance.j0 k a1 a2 a3 true l0_0))
set_option maxHeartbeats 8000000 in
set_option maxRecDepth 100000 in
theorem impl_HitChance.calls (k : Nat) (A0_0 : Option Addr) (c0_0 : Nat) (l0_0 : List (List Int)) (a1 : Int) (a2 : Int) (a3 : Int) (r1 : Int) (r2 : Int) (r3 : Bool) (w : World) (hr0_0 : Kd.C (Kd.slice 3 (Kd.int .i64)) w A0_0 l0_0.length l0_0) (hc0_0 : l0_0.length ≤ c0_0) (h : impl_HitChance.f k l0_0 a1 a2 a3 = some (r1, r2, r3)) :
    Calls Try.prog 43 #[.agg #[.slice A0_0 l0_0.length c0_0], .int .i64 a1, .int .i64 a2, .int .i64 a3] w fun e w' => e = .returned (.tuple #[.agg #[.int .i64 r1, .int .i64 r2], .bool r3]) ∧ Below w.heap.size w w' := by
  have hu30 := Try.underlying30
  have hu27 := Try.underlying27
  have HR0_0 := Aside0.mk hr0_0
  have HC0_0 := Aside0.mk hc0_0
  clear hr0_0 hc0_0
  have HB := Aside0.mk (Below.refl w.heap.size w)
  have H : ((impl_goodEnd.f l0_0 a2 a3).bind fun t116 => (if t116 = true then ((impl_has.f l0_0 (([a1] : List Int))).bind fun t120 => (impl_HitChance.j0 k a1 a2 a3 (!t120) l0_0)) else (impl_HitChance.j0 k a1 a2 a3 true l0_0))) = some (r1, r2, r3) := h
  clear h
  have HC5 := Aside0.mk H
  clear H
  go_enter Try.func43, Try.ntmps43
  go_upto_region 1 with (first | ((with_reducible refine gate_dst (N := 4) rfl ?_); (try (refine gate_guard (by rfl) ?_; dsimp only)); refine box_event ?hg (N := 4) ?hd (cs := #[.slice A0_0 l0_0.length c0_0]) (t := 30) ?hr ?_; (case hd => rfl); (case hg => rfl); (case hr => first | (go_simp; done) | (go_simp; rfl)); intro gb114 hg w6 hbox hb; have n0_ := Aside0.mk (below_step (by repeat (first | (with_reducible first | exact HB.out | apply below_alloc | apply pw_below_drewN | apply below_drew1) | exact HB.out)) hb); have n1_ := Aside0.mk (hbox); have n2_ := Aside0.mk ((by rw [hg]; exact (below_size (by repeat (first | (with_reducible first | exact HB.out | apply below_alloc | apply pw_below_drewN | apply below_drew1) | exact HB.out))) : w.heap.size ≤ gb114)); have n3_ := Aside0.mk ((by rw [hg]; exact (below_size (by repeat (first | (with_reducible first | exact HB.out | apply below_alloc | apply pw_below_drewN | apply below_drew1) | exact HB.out))) : w.heap.size ≤ gb114)); clear HB; have HB := n0_; have BK114 := n1_; have GW114 := n2_; have GE114 := n3_; clear n0_ n1_ n2_ n3_; clear hb hbox hg) | ((with_reducible refine gate_dst (N := 8) rfl ?_); (try (refine gate_guard (by rfl) ?_; dsimp only)); refine box_event ?hg (N := 8) ?hd (cs := #[.int .i64 0, .int .i64 0]) (t := 27) ?hr ?_; (case hd => rfl); (case hg => rfl); (case hr => first | (go_simp; done) | (go_simp; rfl)); intro gb115 hg w7 hbox hb; have n0_ := Aside0.mk (blk_below (g := gb114) (o := .cells #[.slice A0_0 l0_0.length c0_0] 30 (0, 0)) (by (with_reducible repeat (first | refine blk_drewN ?_ _ | refine blk_drew ?_ | refine blk_alloc ?_ _)); exact BK114.out) hb); have n1_ := Aside0.mk (below_step (by repeat (first | (with_reducible first | exact HB.out | apply below_alloc | apply pw_below_drewN | apply below_drew1 | refine below_set ?_ GE114.out) | exact HB.out)) hb); have n2_ := Aside0.mk (hbox); have n3_ := Aside0.mk ((by rw [hg]; exact (below_size (by repeat (first | (with_reducible first | exact HB.out | apply below_alloc | apply pw_below_drewN | apply below_drew1 | refine below_set ?_ GE114.out) | exact HB.out))) : w.heap.size ≤ gb115)); have n4_ := Aside0.mk ((by rw [hg]; exact (below_size (by repeat (first | (with_reducible first | exact HB.out | apply below_alloc | apply pw_below_drewN | apply below_drew1 | refine below_set ?_ GE114.out) | exact HB.out))) : w.heap.size ≤ gb115)); have n5_ := Aside0.mk ((by rw [hg]; exact Nat.ne_of_lt (blk_lt (g := gb114) (o := .cells #[.slice A0_0 l0_0.length c0_0] 30 (0, 0)) (by (with_reducible repeat (first | refine blk_drewN ?_ _ | refine blk_drew ?_ | refine blk_alloc ?_ _)); exact BK114.out)) : gb114 ≠ gb115)); have n6_ := Aside0.mk ((by rw [hg]; exact Nat.ne_of_gt (blk_lt (g := gb114) (o := .cells #[.slice A0_0 l0_0.length c0_0] 30 (0, 0)) (by (with_reducible repeat (first | refine blk_drewN ?_ _ | refine blk_drew ?_ | refine blk_alloc ?_ _)); exact BK114.out)) : gb115 ≠ gb114)); clear BK114; clear HB; have BK114 := n0_; have HB := n1_; have BK115 := n2_; have GW115 := n3_; have GE115 := n4_; have NB114_115 := n5_; have NB115_114 := n6_; clear n0_ n1_ n2_ n3_ n4_ n5_ n6_; clear hb hbox hg))
  (try simp only [Act.put, List.setIfInBounds_toArray, List.set_cons_zero, List.set_cons_succ])
  go_cut [23] (fun v23 wc => ∃ (kq : Nat) (x23_4 : Bool), v23 = .bool x23_4 ∧ Aside0 (impl_HitChance.j0 kq a1 a2 a3 x23_4 l0_0 = some (r1, r2, r3)) ∧ Aside0 (kq ≤ k) ∧ Aside0 (wc.heap[gb114]? = some (.cells #[(.slice A0_0 l0_0.length c0_0)] 30 (0, 0))) ∧ Aside0 (wc.heap[gb115]? = some (.cells #[.int .i64 0, .int .i64 0] 27 (0, 0))) ∧ Aside0 (Below w.heap.size w wc))
  case first =>
    have H := HC5.out
    clear HC5
    replace H := Option.bind_eq_some_iff.mp H
    obtain ⟨t116, A80, H⟩ := H
    replace H : (if t116 = true then ((impl_has.f l0_0 (([a1] : List Int))).bind fun t120 => (impl_HitChance.j0 k a1 a2 a3 (!t120) l0_0)) else (impl_HitChance.j0 k a1 a2 a3 true l0_0)) = some (r1, r2, r3) := H
    have A8 := Aside0.mk A80
    clear A80
    by_cases c9 : t116 = true
    · subst c9
      have H1 : ((impl_has.f l0_0 (([a1] : List Int))).bind fun t120 => (impl_HitChance.j0 k a1 a2 a3 (!t120) l0_0)) = some (r1, r2, r3) := by rw [if_pos rfl] at H; exact H
      clear H
      have H := H1
      clear H1
      obtain ⟨y117, hy117⟩ : ∃ y_ : List Int, y_ = (([a1] : List Int)) := ⟨_, rfl⟩
      replace H : ((impl_has.f l0_0 y117).bind fun t120 => (impl_HitChance.j0 k a1 a2 a3 (!t120) l0_0)) = some (r1, r2, r3) := by first | (rw [hy117]; with_reducible exact H) | (have H2_ := (Option.bind_some _ _).symm.trans H; rw [hy117]; with_reducible exact H2_) | (have H2_ := (Option.bind_some _ _).symm.trans H; with_reducible exact H2_) | with_reducible exact H | (rw [hy117]; exact H) | exact H
      have Ny117 := Aside0.mk hy117
      clear hy117
      replace H := Option.bind_eq_some_iff.mp H
      obtain ⟨t120, A100, H⟩ := H
      replace H : (impl_HitChance.j0 k a1 a2 a3 (!t120) l0_0) = some (r1, r2, r3) := H
      have A10 := Aside0.mk A100
      clear A100
      have H' := Aside0.mk H
      clear H
      have hnb11 := NB114_115.out
      have hnc11 := NB115_114.out
      have hcz12_0 : w7.cell? ⟨gb114, 0, none⟩ = some (.slice A0_0 l0_0.length c0_0) := (blk_cell BK114.out 0).trans rfl
      have hfz12_0 := blk_frozen BK114.out 0
      go_wp2_with (first | ((with_reducible refine gate_callee (f := 81) rfl ?_); refine goesL_ (some 15) rfl rfl Try.func81 (by kernel_rfl) rfl #[.agg #[.slice A0_0 l0_0.length c0_0], .int .i64 a2, .int .i64 a3] rfl (by (try simp only [List.map_toArray, List.map_cons, List.map_nil]); first | done | rfl | (simp only [List.length_drop, List.length_take]; rfl)) ?_; (with_reducible refine (impl_goodEnd.calls _ _ l0_0 a2 a3 true _ ?side1 ?side2 A8.out).mono ?_); (case side1 => repeat (first | exact (Kd.C_below HR0_0.out HB.out) | (with_reducible refine Kd.C_alloc ?_ _) | (with_reducible refine Kd.C_drewN ?_ _) | (with_reducible refine Kd.C_drew ?_))); (case side2 => exact HC0_0.out); rintro e w13 ⟨rfl, hb⟩; refine ⟨_, rfl, ?_⟩; have n0_ := Aside0.mk (blk_below (g := gb114) (o := .cells #[.slice A0_0 l0_0.length c0_0] 30 (0, 0)) (by (with_reducible repeat (first | refine blk_drewN ?_ _ | refine blk_drew ?_ | refine blk_alloc ?_ _)); exact BK114.out) hb); have n1_ := Aside0.mk (blk_below (g := gb115) (o := .cells #[.int .i64 0, .int .i64 0] 27 (0, 0)) (by (with_reducible repeat (first | refine blk_drewN ?_ _ | refine blk_drew ?_ | refine blk_alloc ?_ _)); exact BK115.out) hb); have n2_ := Aside0.mk (below_step (by repeat (first | (with_reducible first | exact HB.out | apply below_alloc | apply pw_below_drewN | apply below_drew1 | refine below_set ?_ GE114.out | refine below_set ?_ GE115.out) | exact HB.out)) hb); clear BK114; clear BK115; clear HB; have BK114 := n0_; have BK115 := n1_; have HB := n2_; clear n0_ n1_ n2_; (try clear hb); (try clear hb2); (try clear hk); (try clear hi); have hcz14_0 : w13.cell? ⟨gb114, 0, none⟩ = some (.slice A0_0 l0_0.length c0_0) := (blk_cell BK114.out 0).trans rfl; have hfz14_0 := blk_frozen BK114.out 0) | ((with_reducible refine gate_dst (N := 20) rfl ?_); (try (refine gate_guard (by rfl) ?_; dsimp only)); refine Kd.R_lit (Kd.int .i64) _ 3 ?hg (N := 20) ?hd (xs := ([a1] : List Int)) (inner := [.int .i64 a1]) (ok := fun _ => True) (okp := fun _ => True) ?hr ?hp (fun _ hk => hk) trivial (Below.refl _ _) (Nat.le_refl _) (by simp) ?_; (case hd => rfl); (case hg => rfl); (case hr => first | (go_simp; done) | (go_simp; rfl)); (case hp => exact (Reps.one (show Kd.M (Kd.int .i64) _ _ _ a1 [.int .i64 a1] from rfl) (Reps.none _ _))); intro v118 w15 ho16 hb hg_ hnew_; clear hg_ hnew_; (first | rw [← Ny117.out] at ho16 | (simp only [Int.reduceToNat] at ho16; rw [← Ny117.out] at ho16)); have n0_ := Aside0.mk (Kd.R_lower ho16 (below_size (by repeat (first | (with_reducible first | exact HB.out | apply below_alloc | apply pw_below_drewN | apply below_drew1 | refine below_set ?_ GE114.out | refine below_set ?_ GE115.out) | exact HB.out)))); have n1_ := Aside0.mk (blk_below (g := gb114) (o := .cells #[.slice A0_0 l0_0.length c0_0] 30 (0, 0)) (by (with_reducible repeat (first | refine blk_drewN ?_ _ | refine blk_drew ?_ | refine blk_alloc ?_ _)); exact BK114.out) hb); have n2_ := Aside0.mk (blk_below (g := gb115) (o := .cells #[.int .i64 0, .int .i64 0] 27 (0, 0)) (by (with_reducible repeat (first | refine blk_drewN ?_ _ | refine blk_drew ?_ | refine blk_alloc ?_ _)); exact BK115.out) hb); have n3_ := Aside0.mk (below_step (by repeat (first | (with_reducible first | exact HB.out | apply below_alloc | apply pw_below_drewN | apply below_drew1 | refine below_set ?_ GE114.out | refine below_set ?_ GE115.out) | exact HB.out)) hb); clear BK114; clear BK115; clear HB; have HO119 := n0_; have BK114 := n1_; have BK115 := n2_; have HB := n3_; clear n0_ n1_ n2_ n3_; clear hb ho16; obtain ⟨Ao17, co17, eo17⟩ := Kd.R_slice HO119.out; subst eo17) | (go_at_call 76; (with_reducible refine (impl_has.calls _ _ l0_0 _ _ y117 t120 _ ?side1 ?side2 ?side3 ?side4 A10.out).mono ?_); (case side1 => repeat (first | exact (Kd.C_below HR0_0.out HB.out) | (with_reducible refine Kd.C_alloc ?_ _) | (with_reducible refine Kd.C_drewN ?_ _) | (with_reducible refine Kd.C_drew ?_))); (case side2 => exact HC0_0.out); (case side3 => repeat (first | exact (Kd.R_reads' HO119.out).2.2 | (with_reducible refine Kd.C_alloc ?_ _) | (with_reducible refine Kd.C_drewN ?_ _) | (with_reducible refine Kd.C_drew ?_))); (case side4 => exact (Kd.R_reads' HO119.out).2.1); rintro e w18 ⟨rfl, hb⟩; have n0_ := Aside0.mk (Kd.R_below (by (with_reducible repeat (first | apply Kd.R_alloc | apply Kd.R_drewN | apply Kd.R_drew)); exact HO119.out) hb); have n1_ := Aside0.mk (blk_below (g := gb114) (o := .cells #[.slice A0_0 l0_0.length c0_0] 30 (0, 0)) (by (with_reducible repeat (first | refine blk_drewN ?_ _ | refine blk_drew ?_ | refine blk_alloc ?_ _)); exact BK114.out) hb); have n2_ := Aside0.mk (blk_below (g := gb115) (o := .cells #[.int .i64 0, .int .i64 0] 27 (0, 0)) (by (with_reducible repeat (first | refine blk_drewN ?_ _ | refine blk_drew ?_ | refine blk_alloc ?_ _)); exact BK115.out) hb); have n3_ := Aside0.mk (below_step (by repeat (first | (with_reducible first | exact HB.out | apply below_alloc | apply pw_below_drewN | apply below_drew1 | refine below_set ?_ GE114.out | refine below_set ?_ GE115.out) | exact HB.out)) hb); clear HO119; clear BK114; clear BK115; clear HB; have HO119 := n0_; have BK114 := n1_; have BK115 := n2_; have HB := n3_; clear n0_ n1_ n2_ n3_; (try clear hb); (try clear hb2); (try clear hk); (try clear hi)))
      go_meet
      case rel => exact ⟨_, (!t120), (by first | rfl | (simp; done) | (simp [*]; done)), H', ⟨by first | omega | exact Nat.le_refl _⟩, ⟨by (with_reducible repeat (first | refine blk_drewN ?_ _ | refine blk_drew ?_ | refine blk_alloc ?_ _)); exact BK114.out⟩, ⟨by (with_reducible repeat (first | refine blk_drewN ?_ _ | refine blk_drew ?_ | refine blk_alloc ?_ _)); exact BK115.out⟩, ⟨by repeat (first | (with_reducible first | exact HB.out | apply below_alloc | apply pw_below_drewN | apply below_drew1 | refine below_set ?_ GE114.out | refine below_set ?_ GE115.out) | exact HB.out)⟩⟩
    · replace c9 := Bool.eq_false_iff.mpr c9
      subst c9
      have H1 : (impl_HitChance.j0 k a1 a2 a3 true l0_0) = some (r1, r2, r3) := by rw [if_neg (show ¬ (false = true) by decide)] at H; exact H
      clear H
      have H := H1
      clear H1
      have H' := Aside0.mk H
      clear H
      have hnb19 := NB114_115.out
      have hnc19 := NB115_114.out
      have hcz20_0 : w7.cell? ⟨gb114, 0, none⟩ = some (.slice A0_0 l0_0.length c0_0) := (blk_cell BK114.out 0).trans rfl
      have hfz20_0 := blk_frozen BK114.out 0
      go_wp2_with (first | ((with_reducible refine gate_callee (f := 81) rfl ?_); refine goesL_ (some 15) rfl rfl Try.func81 (by kernel_rfl) rfl #[.agg #[.slice A0_0 l0_0.length c0_0], .int .i64 a2, .int .i64 a3] rfl (by (try simp only [List.map_toArray, List.map_cons, List.map_nil]); first | done | rfl | (simp only [List.length_drop, List.length_take]; rfl)) ?_; (with_reducible refine (impl_goodEnd.calls _ _ l0_0 a2 a3 false _ ?side1 ?side2 A8.out).mono ?_); (case side1 => repeat (first | exact (Kd.C_below HR0_0.out HB.out) | (with_reducible refine Kd.C_alloc ?_ _) | (with_reducible refine Kd.C_drewN ?_ _) | (with_reducible refine Kd.C_drew ?_))); (case side2 => exact HC0_0.out); rintro e w21 ⟨rfl, hb⟩; refine ⟨_, rfl, ?_⟩; have n0_ := Aside0.mk (blk_below (g := gb114) (o := .cells #[.slice A0_0 l0_0.length c0_0] 30 (0, 0)) (by (with_reducible repeat (first | refine blk_drewN ?_ _ | refine blk_drew ?_ | refine blk_alloc ?_ _)); exact BK114.out) hb); have n1_ := Aside0.mk (blk_below (g := gb115) (o := .cells #[.int .i64 0, .int .i64 0] 27 (0, 0)) (by (with_reducible repeat (first | refine blk_drewN ?_ _ | refine blk_drew ?_ | refine blk_alloc ?_ _)); exact BK115.out) hb); have n2_ := Aside0.mk (below_step (by repeat (first | (with_reducible first | exact HB.out | apply below_alloc | apply pw_below_drewN | apply below_drew1 | refine below_set ?_ GE114.out | refine below_set ?_ GE115.out) | exact HB.out)) hb); clear BK114; clear BK115; clear HB; have BK114 := n0_; have BK115 := n1_; have HB := n2_; clear n0_ n1_ n2_; (try clear hb); (try clear hb2); (try clear hk); (try clear hi)))
      go_meet
      case rel => exact ⟨_, (true), (by first | rfl | (simp; done) | (simp [*]; done)), H', ⟨by first | omega | exact Nat.le_refl _⟩, ⟨by (with_reducible repeat (first | refine blk_drewN ?_ _ | refine blk_drew ?_ | refine blk_alloc ?_ _)); exact BK114.out⟩, ⟨by (with_reducible repeat (first | refine blk_drewN ?_ _ | refine blk_drew ?_ | refine blk_alloc ?_ _)); exact BK115.out⟩, ⟨by repeat (first | (with_reducible first | exact HB.out | apply below_alloc | apply pw_below_drewN | apply below_drew1 | refine below_set ?_ GE114.out | refine below_set ?_ GE115.out) | exact HB.out)⟩⟩
  case rest =>
    clear HC5
    try clear c1
    try clear p2
    try clear c4
    try clear c8
    try clear c9
    try clear c11
    try clear c19
    try clear hcz12_0
    try clear hcz14_0
    try clear hcz20_0
    try clear hfz12_0
    try clear hfz14_0
    try clear hfz20_0
    obtain ⟨kq, x23_4, rfl, HA, HJ4, BK114, BK115, HB⟩ := hcut
    cases kq with
    | zero => exact absurd HA.out (by simp [impl_HitChance.j0])
    | succ kj4 =>
      have H := HA.out
      clear HA
      simp only [impl_HitChance.j0] at H
      by_cases c22 : x23_4 = true
      · subst c22
        have H1 : (some (0, 0, false)) = some (r1, r2, r3) := by rw [if_pos rfl] at H; exact H
        clear H
        have H := H1
        clear H1
        simp only [Option.some.injEq, Prod.mk.injEq] at H
        obtain ⟨rfl, rfl, rfl⟩ := H
        have hnb23 := NB115_114.out
        have hnc23 := NB114_115.out
        have hcz24_0 : wc.cell? ⟨gb115, 0, none⟩ = some (.int .i64 0) := (blk_cell BK115.out 0).trans rfl
        have hcz24_1 : wc.cell? ⟨gb115, 1, none⟩ = some (.int .i64 0) := (blk_cell BK115.out 1).trans rfl
        have hfz24_0 := blk_frozen BK115.out 0
        have hfz24_1 := blk_frozen BK115.out 1
        go_wp2
        refine bodyPost_ret (results_ct rfl _ _ gb115 27 #[.int .i64 0, .int .i64 0] (0, 0) _ rfl (by (with_reducible repeat (first | refine blk_drewN ?_ _ | refine blk_drew ?_ | refine blk_alloc ?_ _)); refine blk_put (cs := #[.int .i64 0, .int .i64 0]) ?_ 1 _ rfl; (with_reducible repeat (first | refine blk_drewN ?_ _ | refine blk_drew ?_ | refine blk_alloc ?_ _)); refine blk_put (cs := #[.int .i64 0, .int .i64 0]) ?_ 0 _ rfl; (with_reducible repeat (first | refine blk_drewN ?_ _ | refine blk_drew ?_ | refine blk_alloc ?_ _)); exact BK115.out) Try.underlying27 rfl (by kernel_rfl)) rfl ?_
        exact ⟨by first | rfl | (simp [errW_none, errW_some] <;> rfl) | (simp [*, errW_none, errW_some] <;> rfl), by repeat (first | (with_reducible first | exact HB.out | apply below_alloc | apply pw_below_drewN | apply below_drew1 | refine below_set ?_ GE114.out | refine below_set ?_ GE115.out) | exact HB.out)⟩
      · replace c22 := Bool.eq_false_iff.mpr c22
        subst c22
        have H1 : ((impl_chances.f l0_0 a2 a3).bind fun bt121 => (if 0 ≤ a1 then (if a1 < (bt121.1.length : Int) then ((impl_ratio.f kj4 (rd bt121.1 a1) bt121.2).bind fun bt126 => (some (bt126.1, bt126.2, true))) else (none)) else (none))) = some (r1, r2, r3) := by rw [if_neg (show ¬ (false = true) by decide)] at H; exact H
        clear H
        have H := H1
        clear H1
        replace H := Option.bind_eq_some_iff.mp H
        obtain ⟨⟨t121, t124⟩, A250, H⟩ := H
        replace H : (if 0 ≤ a1 then (if a1 < (t121.length : Int) then ((impl_ratio.f kj4 (rd t121 a1) t124).bind fun bt126 => (some (bt126.1, bt126.2, true))) else (none)) else (none)) = some (r1, r2, r3) := H
        have A25 := Aside0.mk A250
        clear A250
        by_cases c26 : 0 ≤ a1
        · rw [if_pos c26] at H
          have c26b0 : decide (0 ≤ a1) = true := decide_eq_true c26
          clear c26
          by_cases c27 : a1 < (t121.length : Int)
          · rw [if_pos c27] at H
            have c27b0 : decide (a1 < (t121.length : Int)) = true := decide_eq_true c27
            clear c27
            replace H := Option.bind_eq_some_iff.mp H
            obtain ⟨⟨t126, t127⟩, A280, H⟩ := H
            replace H : (some (t126, t127, true)) = some (r1, r2, r3) := H
            have A28 := Aside0.mk A280
            clear A280
            simp only [Option.some.injEq, Prod.mk.injEq] at H
            obtain ⟨rfl, rfl, rfl⟩ := H
            have hnb29 := NB114_115.out
            have hnc29 := NB115_114.out
            have hcz30_0 : wc.cell? ⟨gb114, 0, none⟩ = some (.slice A0_0 l0_0.length c0_0) := (blk_cell BK114.out 0).trans rfl
            have hfz30_0 := blk_frozen BK114.out 0
            go_wp2_with (first | ((with_reducible refine gate_callee (f := 93) rfl ?_); refine goesL_ (some 29) rfl rfl Try.func93 (by kernel_rfl) rfl #[.agg #[.slice A0_0 l0_0.length c0_0], .int .i64 a2, .int .i64 a3] rfl (by (try simp only [List.map_toArray, List.map_cons, List.map_nil]); first | done | rfl | (simp only [List.length_drop, List.length_take]; rfl)) ?_; (with_reducible refine (impl_chances.calls _ _ l0_0 a2 a3 t121 t124 _ ?side1 ?side2 A25.out).mono ?_); (case side1 => repeat (first | exact (Kd.C_below HR0_0.out HB.out) | (with_reducible refine Kd.C_alloc ?_ _) | (with_reducible refine Kd.C_drewN ?_ _) | (with_reducible refine Kd.C_drew ?_))); (case side2 => exact HC0_0.out); rintro e w31 ⟨v122, rfl, ho0, hb⟩; refine ⟨_, rfl, ?_⟩; have n0_ := Aside0.mk (Kd.R_lower ho0 (below_size (by repeat (first | (with_reducible first | exact HB.out | apply below_alloc | apply pw_below_drewN | apply below_drew1 | refine below_set ?_ GE114.out | refine below_set ?_ GE115.out) | exact HB.out)))); have n1_ := Aside0.mk (blk_below (g := gb114) (o := .cells #[.slice A0_0 l0_0.length c0_0] 30 (0, 0)) (by (with_reducible repeat (first | refine blk_drewN ?_ _ | refine blk_drew ?_ | refine blk_alloc ?_ _)); exact BK114.out) hb); have n2_ := Aside0.mk (blk_below (g := gb115) (o := .cells #[.int .i64 0, .int .i64 0] 27 (0, 0)) (by (with_reducible repeat (first | refine blk_drewN ?_ _ | refine blk_drew ?_ | refine blk_alloc ?_ _)); exact BK115.out) hb); have n3_ := Aside0.mk (below_step (by repeat (first | (with_reducible first | exact HB.out | apply below_alloc | apply pw_below_drewN | apply below_drew1 | refine below_set ?_ GE114.out | refine below_set ?_ GE115.out) | exact HB.out)) hb); clear BK114; clear BK115; clear HB; have HO123 := n0_; have BK114 := n1_; have BK115 := n2_; have HB := n3_; clear n0_ n1_ n2_ n3_; (try clear hb); (try clear hb2); (try clear hk); (try clear hi); (try clear ho0); obtain ⟨Ao32, co32, eo32⟩ := Kd.R_slice HO123.out; subst eo32; have p125 : 0 ≤ (a1 : Int) := of_decide_eq_true (by first | (with_reducible assumption) | assumption); have q125 : a1 < (t121.length : Int) := of_decide_eq_true (by first | (with_reducible assumption) | assumption); obtain ⟨ad125, e125, hx125_0⟩ := Kd.at_int (Kd.R_reads' HO123.out).2.2 a1 p125 q125; cases e125; replace p125 := eq_true p125; replace q125 := eq_true q125) | ((with_reducible refine gate_callee (f := 78) rfl ?_); refine goesL_ (some 37) rfl rfl Try.func78 (by kernel_rfl) rfl #[.int .i64 (rd t121 a1), .int .i64 t124] rfl (by (try simp only [List.map_toArray, List.map_cons, List.map_nil]); first | done | rfl | (simp only [List.length_drop, List.length_take]; rfl)) ?_; (with_reducible refine (impl_ratio.calls kj4 (rd t121 a1) t124 t126 t127 _ A28.out).mono ?_); rintro e w33 ⟨rfl, hb⟩; refine ⟨_, rfl, ?_⟩; have n0_ := Aside0.mk (Kd.R_below (by (with_reducible repeat (first | apply Kd.R_alloc | apply Kd.R_drewN | apply Kd.R_drew)); exact HO123.out) hb); have n1_ := Aside0.mk (blk_below (g := gb114) (o := .cells #[.slice A0_0 l0_0.length c0_0] 30 (0, 0)) (by (with_reducible repeat (first | refine blk_drewN ?_ _ | refine blk_drew ?_ | refine blk_alloc ?_ _)); exact BK114.out) hb); have n2_ := Aside0.mk (blk_below (g := gb115) (o := .cells #[.int .i64 0, .int .i64 0] 27 (0, 0)) (by (with_reducible repeat (first | refine blk_drewN ?_ _ | refine blk_drew ?_ | refine blk_alloc ?_ _)); exact BK115.out) hb); have n3_ := Aside0.mk (below_step (by repeat (first | (with_reducible first | exact HB.out | apply below_alloc | apply pw_below_drewN | apply below_drew1 | refine below_set ?_ GE114.out | refine below_set ?_ GE115.out) | exact HB.out)) hb); clear HO123; clear BK114; clear BK115; clear HB; have HO123 := n0_; have BK114 := n1_; have BK115 := n2_; have HB := n3_; clear n0_ n1_ n2_ n3_; (try clear hb); (try clear hb2); (try clear hk); (try clear hi); have hcz34_0 : w33.cell? ⟨gb115, 0, none⟩ = some (.int .i64 0) := (blk_cell BK115.out 0).trans rfl; have hcz34_1 : w33.cell? ⟨gb115, 1, none⟩ = some (.int .i64 0) := (blk_cell BK115.out 1).trans rfl; have hfz34_0 := blk_frozen BK115.out 0; have hfz34_1 := blk_frozen BK115.out 1))
            refine bodyPost_ret (results_ct rfl _ _ gb115 27 #[.int .i64 t126, .int .i64 t127] (0, 0) _ rfl (by (with_reducible repeat (first | refine blk_drewN ?_ _ | refine blk_drew ?_ | refine blk_alloc ?_ _)); refine blk_put (cs := #[.int .i64 t126, .int .i64 0]) ?_ 1 _ rfl; (with_reducible repeat (first | refine blk_drewN ?_ _ | refine blk_drew ?_ | refine blk_alloc ?_ _)); refine blk_put (cs := #[.int .i64 0, .int .i64 0]) ?_ 0 _ rfl; (with_reducible repeat (first | refine blk_drewN ?_ _ | refine blk_drew ?_ | refine blk_alloc ?_ _)); exact BK115.out) Try.underlying27 rfl (by kernel_rfl)) rfl ?_
            exact ⟨by first | rfl | (simp [errW_none, errW_some] <;> rfl) | (simp [*, errW_none, errW_some] <;> rfl), by repeat (first | (with_reducible first | exact HB.out | apply below_alloc | apply pw_below_drewN | apply below_drew1 | refine below_set ?_ GE114.out | refine below_set ?_ GE115.out) | exact HB.out)⟩
          · rw [if_neg c27] at H
            exact absurd H (by simp)
        · rw [if_neg c26] at H
          exact absurd H (by simp)
end Go.Proofs.Ytnbnalbomflafaa.GV
/-! ## Ds -/
namespace Go.Proofs.Ytnbnalbomflafaa.DT
open Go.RowKit Go.Proofs.YtnbnalbomflafaaW.PrintWords Go.Proofs.YtnbnalbomflafaaW.PrintLast Go.Proofs.YtnbnalbomflafaaW.PrintMore
open Go.Proofs.Ytnbnalbomflafaa.GA hiding info37
open Go.Proofs.Ytnbnalbomflafaa.GR hiding rd_L1 at_L1
open Go.Proofs.Ytnbnalbomflafaa.RA
set_option linter.unusedVariables false
set_option linter.unusedSimpArgs false
def zeroOwn : Int → Int := fun _ => 0
theorem chance_right (l : List (List Int)) (a b : Int) : rightL l zeroOwn 1 0 a b (innerL l a b) = (innerL l a b).map fun p => (cntL a (rd_L1 l p) : Int) := by
  unfold rightL
  refine List.map_congr_left fun p _ => ?_
  simp only [sumF, zeroOwn]
  rw [List.take_of_length_le (Nat.le_refl _)]
  omega
/-- A list of ratios, told at its places. -/
structure RatK (l : List (List Int)) (a b : Int) (K : Nat) (x : List GT.S27) : Prop where
  len : x.length = l.length
  atA : GT.rd_T27 x a = ⟨1, 1⟩
  atB : GT.rd_T27 x b = ⟨0, 1⟩
  at_ : ∀ k : Nat, k < K → GT.rd_T27 x (rd (innerL l a b) (k : Int)) = ⟨(ratV (numOf l zeroOwn 1 0 a b k) (denOf l a b)).1, (ratV (numOf l zeroOwn 1 0 a b k) (denOf l a b)).2⟩
theorem rdT_same {x : List GT.S27} {q : Int} (y : GT.S27) (h0 : 0 ≤ q) (h1 : q < x.length) : GT.rd_T27 (x.set q.toNat y) q = y := by
  unfold GT.rd_T27
  rw [List.getD_eq_getElem?_getD, List.getElem?_set_self (by omega)]
  rfl
theorem rdT_other {x : List GT.S27} {q v : Int} (y : GT.S27) (h0 : 0 ≤ q) (h1 : 0 ≤ v) (hne : v ≠ q) : GT.rd_T27 (x.set q.toNat y) v = GT.rd_T27 x v := by
  unfold GT.rd_T27
  rw [List.getD_eq_getElem?_getD, List.getElem?_set_ne (by omega), ← List.getD_eq_getElem?_getD]
theorem ratK_start {l : List (List Int)} {a b : Int} (a0 : 0 ≤ a) (a1 : a < l.length) (b0 : 0 ≤ b) (b1 : b < l.length) (hab : a ≠ b) : RatK l a b 0 (((List.replicate l.length GT.z27).set a.toNat ⟨1, 1⟩).set b.toNat ⟨0, 1⟩) :=
  ⟨by simp, by rw [rdT_other _ b0 a0 hab, rdT_same _ a0 (by simpa using a1)], by rw [rdT_same _ b0 (by simpa using b1)], fun k hk => by omega⟩
theorem ratK_more {l : List (List Int)} {a b : Int} {K : Nat} {x : List GT.S27} (h : RatK l a b K x) (hK : K < (innerL l a b).length) (a0 : 0 ≤ a) (b0 : 0 ≤ b) : RatK l a b (K + 1) (x.set (rd (innerL l a b) (K : Int)).toNat ⟨(ratV (numOf l zeroOwn 1 0 a b K) (denOf l a b)).1, (ratV (numOf l zeroOwn 1 0 a b K) (denOf l a b)).2⟩) := by
  have hm := inner_mem (l := l) (a := a) (b := b) (p := rd (innerL l a b) (K : Int)) (by rw [rd_at _ K hK]; exact List.getElem_mem _)
  have hl := h.len
  refine ⟨by rw [List.length_set]; exact hl, ?_, ?_, fun k hk => ?_⟩
  · rw [rdT_other _ hm.1 a0 (fun e => hm.2.2.1 e.symm)]
    exact h.atA
  · rw [rdT_other _ hm.1 b0 (fun e => hm.2.2.2 e.symm)]
    exact h.atB
  · by_cases hkK : k = K
    · subst hkK
      rw [rdT_same _ hm.1 (by omega)]
    · have hm2 := inner_mem (l := l) (a := a) (b := b) (p := rd (innerL l a b) (k : Int)) (by rw [rd_at _ k (by omega)]; exact List.getElem_mem _)
      rw [rdT_other _ hm.1 hm2.1 (fun e => hkK (rd_inj (inner_nodup l a b) (by omega) hK e))]
      exact h.at_ k (by omega)
theorem chance_l2 {l : List (List Int)} {a b : Int} (h : Eqs l zeroOwn 1 a b) (hd : 0 < denOf l a b) (a0 : 0 ≤ a) (b0 : 0 ≤ b) (d : Nat) : ∀ (k i : Nat) (x : List GT.S27), i + d = (innerL l a b).length → 100000000 + d < k → RatK l a b i x →
    ∃ y, GT.spec_hiChances.l2 k (numsL (innerL l a b).length (matM l a b) (rightL l zeroOwn 1 0 a b (innerL l a b))) (denOf l a b) x (innerL l a b) ((innerL l a b).length : Int) (i : Int) = some y ∧ RatK l a b (innerL l a b).length y := by
  have hn : (numsL (innerL l a b).length (matM l a b) (rightL l zeroOwn 1 0 a b (innerL l a b))).length = (innerL l a b).length := by simp [numsL]
  have hdb := den_bound h
  have hm6 := h.m6
  induction d with
  | zero =>
    intro k i x hi hk hx
    obtain ⟨k, rfl⟩ := KA.succ_of (show 0 < k by omega)
    obtain rfl : i = (innerL l a b).length := by omega
    refine ⟨x, ?_, hx⟩
    unfold GT.spec_hiChances.l2
    rw [if_neg (by omega)]
  | succ d ih =>
    intro k i x hi hk hx
    obtain ⟨k, rfl⟩ := KA.succ_of (show 0 < k by omega)
    have him : i < (innerL l a b).length := by omega
    have hm := inner_mem (l := l) (a := a) (b := b) (p := rd (innerL l a b) (i : Int)) (by rw [rd_at _ i him]; exact List.getElem_mem _)
    have hl := hx.len
    have hnb := num_bound h him
    have hnx := ratK_more hx him a0 b0
    unfold GT.spec_hiChances.l2
    rw [if_pos (by omega), if_pos (by omega), if_pos (by omega), if_pos (by omega), nums_at l zeroOwn 1 a b him, spec_ratio (by omega) hd (by omega) k (by omega), Option.bind_some, if_pos hm.1, if_pos (by omega), KA.wrap_up him (by omega)]
    exact ih k (i + 1) _ (by omega) (by omega) hnx
theorem chance_l1 {l : List (List Int)} {a b : Int} (pl : List Int) (M : List (List Int)) (rs xs : List Int) (n i : Int) {p : Int} (h5 : (rd_L1 l p).length ≤ 5) (hrs : rs.length < 1000) (d : Nat) : ∀ (k x : Nat), x + d = (rd_L1 l p).length →
    GT.spec_hiChances.l1 (k + d + 1) a b pl M rs (cntL a ((rd_L1 l p).take x) : Int) xs n i (rd_L1 l p) ((rd_L1 l p).length : Int) (x : Int) l = GT.spec_hiChances.l0 k a b pl M (rs ++ [(cntL a (rd_L1 l p) : Int)]) xs n (wrap64 (i + 1)) l := by
  induction d with
  | zero =>
    intro k x hx
    unfold GT.spec_hiChances.l1
    rw [if_neg (by omega), if_pos (by omega), List.take_of_length_le (by omega)]
  | succ d ih =>
    intro k x hx
    have hxl : x < (rd_L1 l p).length := by omega
    have hc : cntL a ((rd_L1 l p).take x) ≤ 5 := Nat.le_trans (cntL_le _ _) (by rw [List.length_take]; omega)
    have hst := cntL_step (q := a) hxl
    rw [show k + (d + 1) + 1 = (k + d + 1) + 1 by omega]
    unfold GT.spec_hiChances.l1
    rw [if_pos (by omega), if_pos (by omega), if_pos (by omega), rd_at _ x hxl, KA.wrap_up hxl (by omega)]
    by_cases hq : (rd_L1 l p)[x] = a
    · rw [if_pos hq]
      rw [if_pos hq] at hst
      have e : wrap64 ((cntL a ((rd_L1 l p).take x) : Int) + 1) = (cntL a ((rd_L1 l p).take (x + 1)) : Int) := by
        rw [hst, wrap_id (by omega) (by omega)]
        omega
      rw [e]
      exact ih k (x + 1) (by omega)
    · rw [if_neg hq]
      rw [if_neg hq, Nat.add_zero] at hst
      have := ih k (x + 1) (by omega)
      rw [hst] at this
      exact this
theorem chance_l0 {l : List (List Int)} {a b : Int} (hg : goodB l a b = true) (h : Eqs l zeroOwn 1 a b) (d : Nat) : ∀ (k i : Nat), i + d = (innerL l a b).length → 100000100 + d * 10 < k →
    ∃ y, GT.spec_hiChances.l0 k a b (innerL l a b) (matM l a b) ((rightL l zeroOwn 1 0 a b (innerL l a b)).take i) (innerL l a b) ((innerL l a b).length : Int) (i : Int) l = some y ∧ RatK l a b (innerL l a b).length y := by
  obtain ⟨hab, a0, a1, b0, b1, h8, h5, _, _⟩ := good_facts hg
  have hlR := h.lR
  have hm6 := h.m6
  induction d with
  | zero =>
    intro k i hi hk
    obtain ⟨k, rfl⟩ := KA.succ_of (show 0 < k by omega)
    obtain ⟨y, hy, hR⟩ := chance_l2 h (den_pos hg) a0 b0 (innerL l a b).length k 0 _ (by omega) (by omega) (ratK_start a0 a1 b0 b1 hab)
    refine ⟨y, ?_, hR⟩
    unfold GT.spec_hiChances.l0
    rw [if_neg (by omega), List.take_of_length_le (by omega), eqs_solve h k (by omega), Option.bind_some, if_pos (by omega), if_pos (by omega), Option.bind_some, Int.toNat_natCast, if_pos a0, if_pos (by simpa using a1), if_pos b0, if_pos (by simpa using b1)]
    exact hy
  | succ d ih =>
    intro k i hi hk
    have him : i < (innerL l a b).length := by omega
    have hm := inner_mem (l := l) (a := a) (b := b) (p := rd (innerL l a b) (i : Int)) (by rw [rd_at _ i him]; exact List.getElem_mem _)
    have hdg := h5 _ hm.1 hm.2.1
    obtain ⟨k2, rfl⟩ : ∃ k2, k = k2 + (rd_L1 l (rd (innerL l a b) (i : Int))).length + 1 + 1 := ⟨k - (rd_L1 l (rd (innerL l a b) (i : Int))).length - 2, by omega⟩
    have e : (rightL l zeroOwn 1 0 a b (innerL l a b)).take i ++ [(cntL a (rd_L1 l (rd (innerL l a b) (i : Int))) : Int)] = (rightL l zeroOwn 1 0 a b (innerL l a b)).take (i + 1) := by
      rw [List.take_succ_eq_append_getElem (by omega)]
      congr 2
      have := chance_right l a b
      simp only [this, List.getElem_map]
      rw [rd_at _ i him]
    obtain ⟨y, hy, hR⟩ := ih k2 (i + 1) (by omega) (by omega)
    refine ⟨y, ?_, hR⟩
    unfold GT.spec_hiChances.l0
    rw [if_pos (by omega), if_pos (by omega), if_pos (by omega), if_pos hm.1, if_pos hm.2.1]
    have e1 := chance_l1 (l := l) (a := a) (b := b) (innerL l a b) (matM l a b) ((rightL l zeroOwn 1 0 a b (innerL l a b)).take i) (innerL l a b) ((innerL l a b).length : Int) (i : Int) hdg (by simp; omega) (rd_L1 l (rd (innerL l a b) (i : Int))).length k2 0 (by omega)
    rw [List.take_zero] at e1
    refine Eq.trans e1 ?_
    rw [e, KA.wrap_up him (by omega)]
    exact hy
theorem hiChances_f {l : List (List Int)} {a b : Int} (hg : goodB l a b = true) (k : Nat) (hk : 150000000 ≤ k) : ∃ y, GT.spec_hiChances.f k l a b = some y ∧ RatK l a b (innerL l a b).length y := by
  obtain ⟨_, _, _, _, _, _, h5, _, _⟩ := good_facts hg
  have h : Eqs l zeroOwn 1 a b := eqs_of hg (sum_chances h5)
  have hm6 := h.m6
  obtain ⟨y, hy, hR⟩ := chance_l0 hg h (innerL l a b).length k 0 (by omega) (by omega)
  refine ⟨y, ?_, hR⟩
  unfold GT.spec_hiChances.f
  have hM : spec_hiMatrix.f l a b = some (innerL l a b, matM l a b) := by unfold spec_hiMatrix.f; rw [if_pos (good_graph hg)]
  rw [hM, Option.bind_some]
  rw [List.take_zero] at hy
  exact hy
/-- A chance, as both sides tell it. -/
theorem ratK_at {l : List (List Int)} {a b : Int} (hg : goodB l a b = true) {y : List GT.S27} (h : RatK l a b (innerL l a b).length y) {p : Int} (p0 : 0 ≤ p) (p1 : p < l.length) : GT.rd_T27 y p = ⟨(ratV (rd (chL l a b) p) (denOf l a b)).1, (ratV (rd (chL l a b) p) (denOf l a b)).2⟩ := by
  have hd := den_pos hg
  unfold chL
  rw [show (fun _ : Int => (0 : Int)) = zeroOwn from rfl, outL_at p0 p1]
  by_cases hpa : p = a
  · rw [if_pos hpa, Int.one_mul, ratV_same hd, hpa, h.atA]
  · rw [if_neg hpa]
    by_cases hpb : p = b
    · rw [if_pos hpb, Int.zero_mul, ratV_zero hd, hpb, h.atB]
    · rw [if_neg hpb]
      have hm := mem_inner p0 p1 hpa hpb
      have hlt := List.idxOf_lt_length_iff.2 hm
      have := h.at_ _ hlt
      rw [rd_at _ _ hlt, List.getElem_idxOf hlt] at this
      exact this
noncomputable def chanceA (l : List (List Int)) (p a b : Int) : Int × Int := if stepsOk l p a b = true then ratV (rd (chL l a b) p) (denOf l a b) else (0, 0)
theorem spec_chance_f (l : List (List Int)) (p a b : Int) : GT.spec_HitChance.f 200000000 l p a b = some ((chanceA l p a b).1, (chanceA l p a b).2, stepsOk l p a b) := by
  unfold GT.spec_HitChance.f
  rw [((goodB_is l a b).1 200000000 (by omega)).1, Option.bind_some]
  cases hg : goodB l a b with
  | false =>
    unfold chanceA stepsOk
    rw [hg]
    rfl
  | true =>
    rw [if_pos rfl, KA.grPlace_eq l p 200000000 (by omega), Option.bind_some]
    cases hp : KA.placeB l p with
    | false =>
      unfold chanceA stepsOk
      rw [hg, hp]
      rfl
    | true =>
      obtain ⟨_, _, _, p0, p1⟩ := KA.place_is hp
      have hok : stepsOk l p a b = true := by unfold stepsOk; rw [hg, hp]; rfl
      obtain ⟨y, hy, hR⟩ := hiChances_f hg 200000000 (by omega)
      have hl := hR.len
      have ho : chanceA l p a b = ratV (rd (chL l a b) p) (denOf l a b) := by unfold chanceA; rw [if_pos hok]
      rw [if_pos rfl, hy, Option.bind_some, if_pos p0, if_pos (by omega), ratK_at hg hR p0 p1, ho, hok]
theorem impl_chance_f (l : List (List Int)) (p a b : Int) : GV.impl_HitChance.f 200000000 l p a b = some ((chanceA l p a b).1, (chanceA l p a b).2, stepsOk l p a b) := by
  unfold GV.impl_HitChance.f impl_goodEnd.f
  rw [Option.bind_some]
  cases hg : goodB l a b with
  | false =>
    rw [if_neg (by decide)]
    unfold chanceA stepsOk
    rw [hg]
    rfl
  | true =>
    have hh : KA.impl_has.f l [p] = some (KA.placeB l p) := by unfold KA.impl_has.f KA.hasB KA.placeB; simp
    rw [if_pos rfl, hh, Option.bind_some]
    cases hp : KA.placeB l p with
    | false =>
      unfold chanceA stepsOk
      rw [hg, hp]
      rfl
    | true =>
      obtain ⟨_, _, _, p0, p1⟩ := KA.place_is hp
      have hok : stepsOk l p a b = true := by unfold stepsOk; rw [hg, hp]; rfl
      have ho : chanceA l p a b = ratV (rd (chL l a b) p) (denOf l a b) := by unfold chanceA; rw [if_pos hok]
      obtain ⟨_, _, _, _, _, _, h5, _, _⟩ := good_facts hg
      have h : Eqs l zeroOwn 1 a b := eqs_of hg (sum_chances h5)
      have hob : (rd (chL l a b) p).natAbs ≤ 11250000 := out_bound h (by omega) p0 p1
      have hdb := den_bound h
      have hln : (chL l a b).length = l.length := by simp [chL, outL]
      show (if (!true) = true then some (0, 0, false) else ((impl_chances.f l a b).bind fun bt121 => (if 0 ≤ p then (if p < (bt121.1.length : Int) then ((GA.impl_ratio.f 199999999 (rd bt121.1 p) bt121.2).bind fun bt126 => (some (bt126.1, bt126.2, true))) else (none)) else (none)))) = _
      have hch : impl_chances.f l a b = some (chL l a b, denOf l a b) := by unfold impl_chances.f; rw [if_pos hg]
      rw [if_neg (by decide), hch, Option.bind_some, if_pos p0]
      show (if p < ((chL l a b).length : Int) then ((GA.impl_ratio.f 199999999 (rd (chL l a b) p) (denOf l a b)).bind fun bt126 => (some (bt126.1, bt126.2, true))) else (none)) = _
      rw [if_pos (by omega), impl_ratio_f (by omega) (den_pos hg) (by omega) 199999999 (by omega), ho, hok]
      rfl
end Go.Proofs.Ytnbnalbomflafaa.DT
namespace Go.Proofs.Ytnbnalbomflafaa.RA
open Go.RowKit Go.Proofs.YtnbnalbomflafaaW.PrintWords Go.Proofs.YtnbnalbomflafaaW.PrintLast Go.Proofs.YtnbnalbomflafaaW.PrintMore
open Go.Proofs.Ytnbnalbomflafaa.DT
theorem spec_HitChance_c (l : List (List Int)) (p a b : Int) (W : World) (v : Value) (hv : RowsC W v l) : Calls Try.prog 42 #[.agg #[v], .int .i64 p, .int .i64 a, .int .i64 b] W (RatC W (chanceA l p a b) (stepsOk l p a b)) := by
  obtain ⟨A, c, rfl, hc, hC⟩ := hv
  exact GT.spec_HitChance.calls 200000000 A c l p a b _ _ _ W hC hc (spec_chance_f l p a b)
theorem impl_HitChance_c (l : List (List Int)) (p a b : Int) (W : World) (v : Value) (hv : RowsC W v l) : Calls Try.prog 43 #[.agg #[v], .int .i64 p, .int .i64 a, .int .i64 b] W (RatC W (chanceA l p a b) (stepsOk l p a b)) := by
  obtain ⟨A, c, rfl, hc, hC⟩ := hv
  exact GV.impl_HitChance.calls 200000000 A c l p a b _ _ _ W hC hc (impl_chance_f l p a b)
end Go.Proofs.Ytnbnalbomflafaa.RA
/-! ## Ro -/
namespace Go.Proofs.Ytnbnalbomflafaa.RA
open Go.RowKit Go.Proofs.YtnbnalbomflafaaW.PrintWords Go.Proofs.YtnbnalbomflafaaW.PrintLast Go.Proofs.YtnbnalbomflafaaW.PrintMore
open Go.Proofs.Ytnbnalbomflafaa.DT
set_option linter.unusedVariables false
set_option linter.unusedSimpArgs false
def T10_10 : Bool × List (List Nat × List Nat) := (true, [([], []), ([], []), ([1], [1]), ([0, 2, 2], [0, 2]), ([3], [3])])
def B10_10 : List Nat := [0, 0, 2, 7, 15]
theorem tabT10_10 : rtab .any (opsOf Try.f10 10) = T10_10 := by kernel_rfl
theorem bitsB10_10 : waitsOk T10_10.2 B10_10 = true := by kernel_rfl
set_option maxHeartbeats 4000000 in
set_option maxRecDepth 100000 in
theorem law_HitChance.walk (v0 : Value) (l0 : List (List Int)) (a1 : Int) (a2 : Int) (a3 : Int) (w : World) (hv0 : RowsC w v0 l0)  : Calls Try.prog 10 #[.agg #[v0], .int .i64 a1, .int .i64 a2, .int .i64 a3] w fun e w' => e = .returned (.bool true) ∧ Below w.heap.size w w' := by
  have HS0 := Aside0.mk hv0
  clear hv0
  obtain ⟨z0, hz0⟩ : ∃ z, z = szZ l0 1048576 := ⟨_, rfl⟩
  rcases szZ_is l0 1048576 (by omega) with hq0 | ⟨hp0, hr0, hs0⟩
  · rw [← hz0] at hq0
    have hn0 : z0 < 0 := by omega
    replace hz0 := Aside0.mk hz0
    go_enter Try.func10, Try.ntmps10
    have HZ0 := Aside0.mk hz0.out
    go_upto_region 1 with (fail)
    have HBw : Aside0 (Below w.heap.size w (w.alloc (.cells #[v0] 24))) := ⟨(Below.refl w.heap.size w).alloc (by simp) _⟩
    have hzb : w.heap.size + 1 ≤ (w.alloc (.cells #[v0] 24)).heap.size := by simp
    have cx_0 : (w.alloc (.cells #[v0] 24)).cell? ⟨w.heap.size, 0, none⟩ = some v0 := box_10 w v0 24
    generalize (w.alloc (.cells #[v0] 24)) = Wb at *
    go_wp2_with (first | (go_at_call 19; refine (szG_c _ v0 l0 (HS0.out.below HBw.out) 1048576 (by omega)).mono ?_; rintro e W1 ⟨rfl, hB1⟩; rw [← HZ0.out]; have hz2 := hB1.size; have HB3 : Aside0 (Below w.heap.size w W1) := ⟨HBw.out.trans (hB1.mono (by omega))⟩; have cx4 : W1.cell? ⟨w.heap.size, 0, none⟩ = some v0 := (hB1.cell (p := ⟨w.heap.size, 0, none⟩) (show w.heap.size < Wb.heap.size by omega)).trans cx_0; clear cx_0; clear HBw; clear hB1))
    go_ret
    exact ⟨by first | rfl | trivial, HB3.out⟩
  · rw [← hz0] at hp0 hr0
    have hg0 : ¬ (z0 < 0) := by omega
    have HM : Aside0 (Small l0) := ⟨hs0⟩
    have ht0 : 0 ≤ tot l0 ∧ tot l0 ≤ 1048576 := ⟨tot_pos _, HM.out.2.1⟩
    have hk : ¬ (1 + tot l0 < 0) := by omega
    have HK0 : Aside0 (0 ≤ 1 + tot l0 ∧ 1 + tot l0 ≤ 100000000) := ⟨by omega⟩
    clear ht0
    obtain ⟨R, hR⟩ : ∃ R, R = chanceA l0 a1 a2 a3 := ⟨_, rfl⟩
    obtain ⟨ok, hok⟩ : ∃ ok, ok = stepsOk l0 a1 a2 a3 := ⟨_, rfl⟩
    have spec0 := fun W v hv => spec_HitChance_c l0 a1 a2 a3 W v hv
    have impl0 := fun W v hv => impl_HitChance_c l0 a1 a2 a3 W v hv
    rw [← hR, ← hok] at spec0 impl0
    have SP := Aside0.mk spec0
    have IM := Aside0.mk impl0
    clear hR hok spec0 impl0
    have HZ0 := Aside0.mk hz0
    clear hz0
    clear hs0
    go_enter Try.func10, Try.ntmps10
    go_upto_region 1 with (fail)
    have HBw : Aside0 (Below w.heap.size w (w.alloc (.cells #[v0] 24))) := ⟨(Below.refl w.heap.size w).alloc (by simp) _⟩
    have hzb : w.heap.size + 1 ≤ (w.alloc (.cells #[v0] 24)).heap.size := by simp
    have cx_0 : (w.alloc (.cells #[v0] 24)).cell? ⟨w.heap.size, 0, none⟩ = some v0 := box_10 w v0 24
    generalize (w.alloc (.cells #[v0] 24)) = Wb at *
    go_upto_region 5 with (first | (go_at_call 19; refine (szG_c _ v0 l0 (HS0.out.below HBw.out) 1048576 (by omega)).mono ?_; rintro e W1 ⟨rfl, hB5⟩; rw [← HZ0.out]; have hz6 := hB5.size; have HB7 : Aside0 (Below w.heap.size w W1) := ⟨HBw.out.trans (hB5.mono (by omega))⟩; have cx8 : W1.cell? ⟨w.heap.size, 0, none⟩ = some v0 := (hB5.cell (p := ⟨w.heap.size, 0, none⟩) (show w.heap.size < Wb.heap.size by omega)).trans cx_0; clear cx_0; clear HBw; clear hB5))
    clear HZ0
    go_upto_region 6 with (first | (go_at_call 21; refine (toG_c _ v0 l0 (HS0.out.below HB7.out) HM.out).mono ?_; rintro e W2 ⟨v9, rfl, hB10, hD11⟩; have hz12 := hB10.size; have HB13 : Aside0 (Below w.heap.size w W2) := ⟨HB7.out.trans (hB10.mono (by omega))⟩; have cx14 : W2.cell? ⟨w.heap.size, 0, none⟩ = some v0 := (hB10.cell (p := ⟨w.heap.size, 0, none⟩) (show w.heap.size < W1.heap.size by omega)).trans cx8; clear cx8; clear HB7; have HD15 := Aside0.mk hD11.out.toU; clear hD11) | (go_at_call 42; refine (SP.out _ v9 HD15.out.reads).mono ?_; rintro e W3 ⟨rfl, hB16⟩; have hz17 := hB16.size; have HB18 : Aside0 (Below w.heap.size w W3) := ⟨HB13.out.trans (hB16.mono (by omega))⟩; have HD19 := Aside0.mk (HD15.out.below (by omega) hB16); have cx20 : W3.cell? ⟨w.heap.size, 0, none⟩ = some v0 := (hB16.cell (p := ⟨w.heap.size, 0, none⟩) (show w.heap.size < W2.heap.size by omega)).trans cx14; clear cx14; clear HB13 HD15; clear hB16))
    have hB21 : Below W3.heap.size W3 (W3.alloc (.cells #[.int .i64 R.1, .int .i64 R.2] 27)) := (Below.refl _ _).alloc (Nat.le_refl _) _
    have cx22 : (W3.alloc (.cells #[.int .i64 R.1, .int .i64 R.2] 27)).cell? ⟨W3.heap.size, 0, none⟩ = some (.int .i64 R.1) := (blk_cell (blk_new _ _) 0).trans rfl
    have cx23 : (W3.alloc (.cells #[.int .i64 R.1, .int .i64 R.2] 27)).cell? ⟨W3.heap.size, 1, none⟩ = some (.int .i64 R.2) := (blk_cell (blk_new _ _) 1).trans rfl
    have hz24 : W3.heap.size < (W3.alloc (.cells #[.int .i64 R.1, .int .i64 R.2] 27)).heap.size := by simp
    generalize (W3.alloc (.cells #[.int .i64 R.1, .int .i64 R.2] 27)) = W4 at *
    have hz25 := hB21.size
    have HB26 : Aside0 (Below w.heap.size w W4) := ⟨HB18.out.trans (hB21.mono (by omega))⟩
    have HD27 := Aside0.mk (HD19.out.below (by omega) hB21)
    have cx28 : W4.cell? ⟨w.heap.size, 0, none⟩ = some v0 := (hB21.cell (p := ⟨w.heap.size, 0, none⟩) (show w.heap.size < W3.heap.size by omega)).trans cx20
    clear cx20
    clear HB18 HD19
    clear HD27
    go_upto_region 7 with (first | (go_at_call 21; refine (toG_c _ v0 l0 (HS0.out.below HB26.out) HM.out).mono ?_; rintro e W5 ⟨v29, rfl, hB30, hD31⟩; obtain ⟨A32, c33, hv_, _⟩ := hD31.out.slice; subst hv_; have hz34 := hB30.size; have HB35 : Aside0 (Below w.heap.size w W5) := ⟨HB26.out.trans (hB30.mono (by omega))⟩; have cx36 : W5.cell? ⟨w.heap.size, 0, none⟩ = some v0 := (hB30.cell (p := ⟨w.heap.size, 0, none⟩) (show w.heap.size < W4.heap.size by omega)).trans cx28; have cx37 : W5.cell? ⟨W3.heap.size, 0, none⟩ = some (.int .i64 R.1) := (hB30.cell (p := ⟨W3.heap.size, 0, none⟩) (show W3.heap.size < W4.heap.size by omega)).trans cx22; have cx38 : W5.cell? ⟨W3.heap.size, 1, none⟩ = some (.int .i64 R.2) := (hB30.cell (p := ⟨W3.heap.size, 1, none⟩) (show W3.heap.size < W4.heap.size by omega)).trans cx23; clear cx28 cx22 cx23; clear HB26; have HD39 := Aside0.mk hD31.out.toU; clear hD31))
    have hB40 : Below W5.heap.size W5 (W5.alloc (.cells #[(.slice A32 l0.length c33)] 30)) := (Below.refl _ _).alloc (Nat.le_refl _) _
    have cx41 : (W5.alloc (.cells #[(.slice A32 l0.length c33)] 30)).cell? ⟨W5.heap.size, 0, none⟩ = some (.slice A32 l0.length c33) := (blk_cell (blk_new _ _) 0).trans rfl
    have hz42 : W5.heap.size < (W5.alloc (.cells #[(.slice A32 l0.length c33)] 30)).heap.size := by simp
    generalize (W5.alloc (.cells #[(.slice A32 l0.length c33)] 30)) = W6 at *
    have hz43 := hB40.size
    have HB44 : Aside0 (Below w.heap.size w W6) := ⟨HB35.out.trans (hB40.mono (by omega))⟩
    have HD45 := Aside0.mk (HD39.out.below (by omega) hB40)
    have cx46 : W6.cell? ⟨w.heap.size, 0, none⟩ = some v0 := (hB40.cell (p := ⟨w.heap.size, 0, none⟩) (show w.heap.size < W5.heap.size by omega)).trans cx36
    have cx47 : W6.cell? ⟨W3.heap.size, 0, none⟩ = some (.int .i64 R.1) := (hB40.cell (p := ⟨W3.heap.size, 0, none⟩) (show W3.heap.size < W5.heap.size by omega)).trans cx37
    have cx48 : W6.cell? ⟨W3.heap.size, 1, none⟩ = some (.int .i64 R.2) := (hB40.cell (p := ⟨W3.heap.size, 1, none⟩) (show W3.heap.size < W5.heap.size by omega)).trans cx38
    clear cx36 cx37 cx38
    clear HB35 HD39
    go_upto_region 8 with (first | (go_at_call 43; refine (IM.out _ (.slice A32 l0.length c33) HD45.out.reads).mono ?_; rintro e W7 ⟨rfl, hB49⟩; have hz50 := hB49.size; have HB51 : Aside0 (Below w.heap.size w W7) := ⟨HB44.out.trans (hB49.mono (by omega))⟩; have HD52 := Aside0.mk (HD45.out.below (by omega) hB49); have cx53 : W7.cell? ⟨w.heap.size, 0, none⟩ = some v0 := (hB49.cell (p := ⟨w.heap.size, 0, none⟩) (show w.heap.size < W6.heap.size by omega)).trans cx46; have cx54 : W7.cell? ⟨W3.heap.size, 0, none⟩ = some (.int .i64 R.1) := (hB49.cell (p := ⟨W3.heap.size, 0, none⟩) (show W3.heap.size < W6.heap.size by omega)).trans cx47; have cx55 : W7.cell? ⟨W3.heap.size, 1, none⟩ = some (.int .i64 R.2) := (hB49.cell (p := ⟨W3.heap.size, 1, none⟩) (show W3.heap.size < W6.heap.size by omega)).trans cx48; have cx56 : W7.cell? ⟨W5.heap.size, 0, none⟩ = some (.slice A32 l0.length c33) := (hB49.cell (p := ⟨W5.heap.size, 0, none⟩) (show W5.heap.size < W6.heap.size by omega)).trans cx41; clear cx46 cx47 cx48 cx41; clear HB44 HD45; clear hB49))
    have hB57 : Below W7.heap.size W7 (W7.alloc (.cells #[.int .i64 R.1, .int .i64 R.2] 27)) := (Below.refl _ _).alloc (Nat.le_refl _) _
    have cx58 : (W7.alloc (.cells #[.int .i64 R.1, .int .i64 R.2] 27)).cell? ⟨W7.heap.size, 0, none⟩ = some (.int .i64 R.1) := (blk_cell (blk_new _ _) 0).trans rfl
    have cx59 : (W7.alloc (.cells #[.int .i64 R.1, .int .i64 R.2] 27)).cell? ⟨W7.heap.size, 1, none⟩ = some (.int .i64 R.2) := (blk_cell (blk_new _ _) 1).trans rfl
    have hz60 : W7.heap.size < (W7.alloc (.cells #[.int .i64 R.1, .int .i64 R.2] 27)).heap.size := by simp
    generalize (W7.alloc (.cells #[.int .i64 R.1, .int .i64 R.2] 27)) = W8 at *
    have hz61 := hB57.size
    have HB62 : Aside0 (Below w.heap.size w W8) := ⟨HB51.out.trans (hB57.mono (by omega))⟩
    have HD63 := Aside0.mk (HD52.out.below (by omega) hB57)
    have cx64 : W8.cell? ⟨w.heap.size, 0, none⟩ = some v0 := (hB57.cell (p := ⟨w.heap.size, 0, none⟩) (show w.heap.size < W7.heap.size by omega)).trans cx53
    have cx65 : W8.cell? ⟨W3.heap.size, 0, none⟩ = some (.int .i64 R.1) := (hB57.cell (p := ⟨W3.heap.size, 0, none⟩) (show W3.heap.size < W7.heap.size by omega)).trans cx54
    have cx66 : W8.cell? ⟨W3.heap.size, 1, none⟩ = some (.int .i64 R.2) := (hB57.cell (p := ⟨W3.heap.size, 1, none⟩) (show W3.heap.size < W7.heap.size by omega)).trans cx55
    have cx67 : W8.cell? ⟨W5.heap.size, 0, none⟩ = some (.slice A32 l0.length c33) := (hB57.cell (p := ⟨W5.heap.size, 0, none⟩) (show W5.heap.size < W7.heap.size by omega)).trans cx56
    clear cx53 cx54 cx55 cx56
    clear HB51 HD52
    go_upto_region 10 with (first | (go_at_call 23; refine (eqRat_c _ R.1 R.2).mono ?_; rintro e W9 ⟨rfl, hB68⟩; have hz69 := hB68.size; have HB70 : Aside0 (Below w.heap.size w W9) := ⟨HB62.out.trans (hB68.mono (by omega))⟩; have HD71 := Aside0.mk (HD63.out.below (by omega) hB68); have cx72 : W9.cell? ⟨w.heap.size, 0, none⟩ = some v0 := (hB68.cell (p := ⟨w.heap.size, 0, none⟩) (show w.heap.size < W8.heap.size by omega)).trans cx64; have cx73 : W9.cell? ⟨W3.heap.size, 0, none⟩ = some (.int .i64 R.1) := (hB68.cell (p := ⟨W3.heap.size, 0, none⟩) (show W3.heap.size < W8.heap.size by omega)).trans cx65; have cx74 : W9.cell? ⟨W3.heap.size, 1, none⟩ = some (.int .i64 R.2) := (hB68.cell (p := ⟨W3.heap.size, 1, none⟩) (show W3.heap.size < W8.heap.size by omega)).trans cx66; have cx75 : W9.cell? ⟨W5.heap.size, 0, none⟩ = some (.slice A32 l0.length c33) := (hB68.cell (p := ⟨W5.heap.size, 0, none⟩) (show W5.heap.size < W8.heap.size by omega)).trans cx67; have cx76 : W9.cell? ⟨W7.heap.size, 0, none⟩ = some (.int .i64 R.1) := (hB68.cell (p := ⟨W7.heap.size, 0, none⟩) (show W7.heap.size < W8.heap.size by omega)).trans cx58; have cx77 : W9.cell? ⟨W7.heap.size, 1, none⟩ = some (.int .i64 R.2) := (hB68.cell (p := ⟨W7.heap.size, 1, none⟩) (show W7.heap.size < W8.heap.size by omega)).trans cx59; clear cx64 cx65 cx66 cx67 cx58 cx59; clear HB62 HD63; clear hB68))
    go_upto_region 10 with (fail)
    have HB78 : Aside0 (Below w.heap.size w W9.drew) := ⟨pw_below_drewN HB70.out 1⟩
    have HD79 : Aside0 (RowsU W9.drew W4.heap.size W5.heap.size (.slice A32 l0.length c33) l0) := ⟨HD71.out.drewN 1⟩
    clear HD71
    have cx80 : W9.drew.cell? ⟨w.heap.size, 0, none⟩ = some v0 := cx72
    have cx81 : W9.drew.cell? ⟨W3.heap.size, 0, none⟩ = some (.int .i64 R.1) := cx73
    have cx82 : W9.drew.cell? ⟨W3.heap.size, 1, none⟩ = some (.int .i64 R.2) := cx74
    have cx83 : W9.drew.cell? ⟨W5.heap.size, 0, none⟩ = some (.slice A32 l0.length c33) := cx75
    have cx84 : W9.drew.cell? ⟨W7.heap.size, 0, none⟩ = some (.int .i64 R.1) := cx76
    have cx85 : W9.drew.cell? ⟨W7.heap.size, 1, none⟩ = some (.int .i64 R.2) := cx77
    clear cx72 cx73 cx74 cx75 cx76 cx77
    have hz86 : W9.heap.size ≤ W9.drew.heap.size := by simp
    refine start_ (n := 5) (S := fun w' => w'.cell? ⟨w.heap.size, 0, none⟩ = some v0 ∧ w'.cell? ⟨W3.heap.size, 0, none⟩ = some (.int .i64 R.1) ∧ w'.cell? ⟨W3.heap.size, 1, none⟩ = some (.int .i64 R.2) ∧ w'.cell? ⟨W5.heap.size, 0, none⟩ = some (.slice A32 l0.length c33) ∧ w'.cell? ⟨W7.heap.size, 0, none⟩ = some (.int .i64 R.1) ∧ w'.cell? ⟨W7.heap.size, 1, none⟩ = some (.int .i64 R.2)) (ds := []) #[false, false, false, false, false] (by kernel_rfl) rfl rfl ⟨cx80, cx81, cx82, cx83, cx84, cx85⟩ (fun hHeld => ?_)
    refine with_tabW tabT10_10 bitsB10_10 (fun HT_ HW_ => ?_)
    generalize W9.drew = W10 at *
    refine take_ (i := 0) (N := some 48) (v := ?_) (a' := ?_) #[true, false, false, false, false] rfl rfl (take_ofW HT_.out HW_.out (by kernel_rfl)) (fun _ _ _ h => h) (Or.inl ⟨by rfl, ?_⟩) hHeld ?_ ?_
    rotate_left
    · rintro w' ⟨s0, s1, s2, s3, s4, s5⟩
      go_simp
      with_reducible rfl
    rotate_left
    · simp only [Act.put, List.setIfInBounds_toArray, List.set_cons_zero, List.set_cons_succ, i64_w, i32_w]
      rfl
    refine take_ (i := 1) (N := some 49) (v := ?_) (a' := ?_) #[true, true, false, false, false] rfl rfl (take_ofW HT_.out HW_.out (by kernel_rfl)) (fun _ _ _ h => h) (Or.inl ⟨by rfl, ?_⟩) hHeld ?_ ?_
    rotate_left
    · rintro w' ⟨s0, s1, s2, s3, s4, s5⟩
      go_simp
      with_reducible rfl
    rotate_left
    · simp only [Act.put, List.setIfInBounds_toArray, List.set_cons_zero, List.set_cons_succ, i64_w, i32_w]
      rfl
    refine one_ (i := 2) (N := some 50) #[true, true, true, false, false] rfl rfl (one_of HT_.out (by kernel_rfl)) (by decide) (fun K hK => ?_)
    refine goes_ Try.func21 (by kernel_rfl) rfl #[.agg #[v0]] (by rfl) rfl rfl (by (try simp only [List.map_toArray, List.map_cons, List.map_nil]); first | done | rfl) ?_
    (with_reducible refine (toG_c _ v0 l0 (HS0.out.below HB78.out) HM.out).mono ?_; rintro e W11 ⟨v87, rfl, hB88, hD89⟩; have hz90 := hB88.size; have HB91 : Aside0 (Below w.heap.size w W11) := ⟨HB78.out.trans (hB88.mono (by omega))⟩; have HD92 := Aside0.mk (HD79.out.below (by omega) hB88); have cx93 : W11.cell? ⟨w.heap.size, 0, none⟩ = some v0 := (hB88.cell (p := ⟨w.heap.size, 0, none⟩) (show w.heap.size < W10.heap.size by omega)).trans cx80; have cx94 : W11.cell? ⟨W3.heap.size, 0, none⟩ = some (.int .i64 R.1) := (hB88.cell (p := ⟨W3.heap.size, 0, none⟩) (show W3.heap.size < W10.heap.size by omega)).trans cx81; have cx95 : W11.cell? ⟨W3.heap.size, 1, none⟩ = some (.int .i64 R.2) := (hB88.cell (p := ⟨W3.heap.size, 1, none⟩) (show W3.heap.size < W10.heap.size by omega)).trans cx82; have cx96 : W11.cell? ⟨W5.heap.size, 0, none⟩ = some (.slice A32 l0.length c33) := (hB88.cell (p := ⟨W5.heap.size, 0, none⟩) (show W5.heap.size < W10.heap.size by omega)).trans cx83; have cx97 : W11.cell? ⟨W7.heap.size, 0, none⟩ = some (.int .i64 R.1) := (hB88.cell (p := ⟨W7.heap.size, 0, none⟩) (show W7.heap.size < W10.heap.size by omega)).trans cx84; have cx98 : W11.cell? ⟨W7.heap.size, 1, none⟩ = some (.int .i64 R.2) := (hB88.cell (p := ⟨W7.heap.size, 1, none⟩) (show W7.heap.size < W10.heap.size by omega)).trans cx85; clear cx80 cx81 cx82 cx83 cx84 cx85; clear HB78 HD79; have HD99 := Aside0.mk hD89.out.toU; clear hD89)
    refine ⟨_, rfl, ?_⟩
    refine hK.out _ _ ⟨cx93, cx94, cx95, cx96, cx97, cx98⟩ (fun hHeld => ?_)
    clear hK K
    refine norm_ (a' := ?_) ?_ ?_
    rotate_left
    · show Act.put _ (some 50) _ = _
      simp only [Act.put, List.setIfInBounds_toArray, List.set_cons_zero, List.set_cons_succ, i64_w, i32_w]
      rfl
    refine one_ (i := 3) (N := some 51) #[true, true, true, true, false] rfl rfl (one_of HT_.out (by kernel_rfl)) (by decide) (fun K hK => ?_)
    refine goes_ Try.func24 (by kernel_rfl) rfl #[.agg #[(.slice A32 l0.length c33)], .agg #[v87]] (by rfl) rfl rfl (by (try simp only [List.map_toArray, List.map_cons, List.map_nil]); first | done | rfl) ?_
    (with_reducible refine (eqG_c _ (.slice A32 l0.length c33) v87 l0 HD92.out.reads HD99.out.reads HM.out).mono ?_; rintro e W12 ⟨rfl, hB100⟩; have hz101 := hB100.size; have HB102 : Aside0 (Below w.heap.size w W12) := ⟨HB91.out.trans (hB100.mono (by omega))⟩; have HD103 := Aside0.mk (HD92.out.below (by omega) hB100); have HD104 := Aside0.mk (HD99.out.below (by omega) hB100); have cx105 : W12.cell? ⟨w.heap.size, 0, none⟩ = some v0 := (hB100.cell (p := ⟨w.heap.size, 0, none⟩) (show w.heap.size < W11.heap.size by omega)).trans cx93; have cx106 : W12.cell? ⟨W3.heap.size, 0, none⟩ = some (.int .i64 R.1) := (hB100.cell (p := ⟨W3.heap.size, 0, none⟩) (show W3.heap.size < W11.heap.size by omega)).trans cx94; have cx107 : W12.cell? ⟨W3.heap.size, 1, none⟩ = some (.int .i64 R.2) := (hB100.cell (p := ⟨W3.heap.size, 1, none⟩) (show W3.heap.size < W11.heap.size by omega)).trans cx95; have cx108 : W12.cell? ⟨W5.heap.size, 0, none⟩ = some (.slice A32 l0.length c33) := (hB100.cell (p := ⟨W5.heap.size, 0, none⟩) (show W5.heap.size < W11.heap.size by omega)).trans cx96; have cx109 : W12.cell? ⟨W7.heap.size, 0, none⟩ = some (.int .i64 R.1) := (hB100.cell (p := ⟨W7.heap.size, 0, none⟩) (show W7.heap.size < W11.heap.size by omega)).trans cx97; have cx110 : W12.cell? ⟨W7.heap.size, 1, none⟩ = some (.int .i64 R.2) := (hB100.cell (p := ⟨W7.heap.size, 1, none⟩) (show W7.heap.size < W11.heap.size by omega)).trans cx98; clear cx93 cx94 cx95 cx96 cx97 cx98; clear HB91 HD92 HD99; clear hB100)
    refine ⟨_, rfl, ?_⟩
    refine hK.out _ _ ⟨cx105, cx106, cx107, cx108, cx109, cx110⟩ (fun hHeld => ?_)
    clear hK K
    refine norm_ (a' := ?_) ?_ ?_
    rotate_left
    · show Act.put _ (some 51) _ = _
      simp only [Act.put, List.setIfInBounds_toArray, List.set_cons_zero, List.set_cons_succ, i64_w, i32_w]
      rfl
    refine pure_ (i := 4) (N := some 52) (v := ?_) (a' := ?_) #[true, true, true, true, true] rfl rfl (any_of HT_.out (by kernel_rfl)) (fun _ _ _ h => h) (Or.inl ⟨by rfl, ?_⟩) ?_ ?_
    rotate_left
    · intro w'
      go_simp
      with_reducible rfl
    rotate_left
    · simp only [Act.put, List.setIfInBounds_toArray, List.set_cons_zero, List.set_cons_succ, i64_w, i32_w]
      rfl
    refine done_ (done_of HT_.out (by kernel_rfl)) ?_
    clear HT_ HW_ hHeld
    clear HD104
    go_wp2_with (fail)
    go_ret
    exact ⟨by first | rfl | trivial, HB102.out⟩
end Go.Proofs.Ytnbnalbomflafaa.RA
/-! ## Kr -/
namespace Go.Proofs.Ytnbnalbomflafaa.KR
open Go.RowKit Go.Proofs.YtnbnalbomflafaaW.PrintWords
open Go.ChangeShapes Go.WideShapes Go.Deep
set_option linter.unusedVariables false
structure RowsIn (W : World) (A : Option Addr) (n c : Nat) (l : List (List Int)) : Prop where
  len : n = l.length
  le : l.length ≤ c
  reads : Kd.C (Kd.slice 3 (Kd.int .i64)) W A l.length l
  wf : ∀ r ∈ l, ∀ x ∈ r, (Lit.int .i64 x).wf = true
  small : ∀ r ∈ l, r.length ≤ 9223372036854775807
theorem reads_of {W : World} {a' : Option Addr} {n c : Nat} {zs : List Int} (hl : n ≤ c) (hm : c ≤ maxLen) (hz : zs.length = c) (hn : a' = none → c = 0)
    (hc : ∀ ad, a' = some ad → ∀ j, j < c → W.cell? (ad.add j) = some (.int .i64 (zs.getD j 0))) : Kd.C (Kd.int .i64) W a' (zs.take n).length (zs.take n) := by
  have hln : (zs.take n).length = n := by rw [List.length_take]; omega
  rw [hln]
  refine Kd.C_of_reads (d := 0) ⟨hln, by unfold maxLen at hm; omega, fun h0 => ?_⟩
  cases a' with
  | none => have := hn rfl; omega
  | some ad =>
    refine ⟨ad, rfl, fun j hj => ?_⟩
    rw [hc ad rfl j (by omega)]
    simp [List.getD_eq_getElem?_getD, hj]
theorem array1 {α : Type} {cs : Array α} (h : cs.size = 1) : ∃ c0, cs = #[c0] := by
  obtain ⟨l⟩ := cs
  match l, h with
  | [c0], _ => exact ⟨c0, rfl⟩
section
variable {H : Type} {enc : TypeId × Value → H} {W : World} {base : Nat} {held : Bool}
theorem rows_of {fuel : Nat} {cs : List Value} {x : DataW H × List MemPlace} (h : DataW.trod enc Try.prog W base (fun _ => true) held fuel 22 cs = some x) : ∃ A n c l, cs = [.slice A n c] ∧ RowsIn W A n c l := by
  rcases open_int_rows Try.underlying22 Try.underlying37 Try.underlying3 (by kernel_rfl) (by kernel_rfl) h with ⟨rfl, _⟩ | ⟨a, len, cap, A, L, C, Z, rfl, hb, hl, hm, hx, hr⟩
  · exact ⟨none, 0, 0, [], rfl, rfl, Nat.le_refl _, Kd.C_nil _ _, by simp, by simp⟩
  · refine ⟨some a, len, cap, (List.range len).map fun r => (Z r).take (L r), rfl, by simp, by simpa using hl, ?_, ?_, ?_⟩
    · refine ⟨by simp, by simp; unfold maxLen at hm; omega, fun h0 => ⟨a, rfl, fun j p hj => ?_⟩⟩
      have hjl : j < len := by
        have := (List.getElem?_eq_some_iff.1 hj).1
        simpa using this
      obtain ⟨hc, h1, h2, h3, h4, h5, h6⟩ := hr j (by omega)
      have hp : p = (Z j).take (L j) := by
        rw [List.getElem?_map, List.getElem?_range hjl] at hj
        exact (Option.some.inj hj).symm
      have hpl : p.length = L j := by rw [hp, List.length_take]; omega
      refine ⟨[.slice (A j) p.length (C j)], rfl, ⟨A j, C j, rfl, by omega, ?_⟩, fun i u hu => ?_⟩
      · rw [hp]
        exact reads_of h1 h2 h3 h5 (fun ad e i hi => (h6 ad e).2 i hi)
      · have hi : i = 0 := by
          have := (List.getElem?_eq_some_iff.1 hu).1
          simp at this
          exact this
        subst hi
        simp at hu
        rw [← hu, hpl]
        have e : j * (Kd.slice 3 (Kd.int .i64)).sz + 0 = j := by show j * 1 + 0 = j; omega
        rw [e]
        exact hc
    · intro r hr' x hx'
      obtain ⟨j, hj, rfl⟩ := List.mem_map.1 hr'
      have := List.mem_range.1 hj
      exact (hr j (by omega)).2.2.2.2.1 x (List.mem_of_mem_take hx')
    · intro r hr'
      obtain ⟨j, hj, rfl⟩ := List.mem_map.1 hr'
      have hj := List.mem_range.1 hj
      have h1 := (hr j (by omega)).2.1
      have h2 := (hr j (by omega)).2.2.1
      unfold maxLen at h2
      rw [List.length_take]
      omega
set_option maxRecDepth 100000 in
theorem open_graph {r : Reach} {b0 t : Nat} {f0 : Field} {v : Value} {d : DataW H} {p : List MemPlace} (hs : Try.prog.underlying t = some (.struct #[f0])) (hC : Try.prog.cellsOf t = 1) (hf : f0.type = 22) (ho : f0.offset = 0)
    (hv : Value.okWide Try.prog W r b0 t v) (h : DataW.Trod enc Try.prog W base (fun _ => true) held t v d p) : ∃ A n c l, v = .agg #[.slice A n c] ∧ RowsIn W A n c l := by
  obtain ⟨cs, rfl, hsz⟩ := okWide_struct hs hv
  obtain ⟨c0, rfl⟩ := array1 (hsz.trans hC)
  obtain ⟨fuel, hfu⟩ := h
  obtain ⟨y0, n, hx, _, h0⟩ := trod_struct1 hs hfu
  have hc22 : Try.prog.cellsOf 22 = 1 := by kernel_rfl
  rw [hf, ho, hc22] at h0
  obtain ⟨A, m, c, l, hcs, hR⟩ := rows_of h0
  have e : c0 = .slice A m c := by simpa [Value.cells] using hcs
  subst e
  exact ⟨A, m, c, l, rfl, hR⟩
end
end Go.Proofs.Ytnbnalbomflafaa.KR
