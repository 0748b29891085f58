/-
  Texts of the seat, merged (part 5).
-/
import Derived.Test.YtnbnalbomflafaaProg
import Derived.Below
import Derived.Deep.Draws
import Derived.Deep.AppendLies
import Derived.Maps.AppendAt
import Derived.OwnWalk
import Derived.Laws.BytesArg
import Derived.Laws.MakeOwn
import Derived.Laws.OwnMore
import Derived.Deep.OwnRows
import Derived.Tactics
import Derived.Lib.ConvBytes
import Derived.Laws.Slices
import Derived.WalkKit
import Derived.KernelRfl
import Derived.RowKit3
import Derived.Deep.LoopGhost
import Derived.Deep.QuietTactic
import Derived.BigQuiet
import Derived.WideLaws
import Derived.Deep.DeepCutAuto
import Derived.Deep.CutBlock
import Derived.Deep.RegionHeld3
import Derived.Laws.Rows
import Derived.Lib.AppendStr
import Derived.ArgAppend
import Derived.Laws.IdiomCopy
import Derived.OrdersHeld
import Derived.Laws.BitsLemmas
import Derived.RowKit
import Derived.Test.YtnbnalbomflafaaX11WWords
import Derived.Test.YtnbnalbomflafaaX11WLast
import Derived.Test.YtnbnalbomflafaaX11WTab
import Derived.Test.YtnbnalbomflafaaX11WFour
import Derived.Test.YtnbnalbomflafaaX11WQPut
import Derived.Test.YtnbnalbomflafaaX11WApart
import Derived.Test.YtnbnalbomflafaaX11WArr
import Derived.Test.YtnbnalbomflafaaX11WZeros
import Derived.Test.YtnbnalbomflafaaX11WFoot
import Derived.Test.YtnbnalbomflafaaX11WKept
import Derived.Test.YtnbnalbomflafaaX11WShare
import Derived.Test.YtnbnalbomflafaaX11WN
import Derived.Test.YtnbnalbomflafaaX11WFootNe
import Derived.Test.YtnbnalbomflafaaX11WAt
import Derived.Test.YtnbnalbomflafaaX11WEqStruct
import Derived.Test.YtnbnalbomflafaaX11WRepsOne
import Derived.Test.YtnbnalbomflafaaX11WInv
import Derived.Test.YtnbnalbomflafaaX11WInvWords
import Derived.Test.YtnbnalbomflafaaX11WGuard
import Derived.Test.YtnbnalbomflafaaX11WNEv
import Derived.Test.YtnbnalbomflafaaX11WMore
import Derived.Deep.Matrix
import Derived.Lib.SmallJoins
import Derived.ProofKit
import Derived.OpenShut
import Derived.ChangeSame
import Derived.Test.YtnbnalbomflafaaX114
/-! ## GT2 -/
namespace Go.Proofs.Ytnbnalbomflafaa.GT
open Go.RowKit Go.Proofs.YtnbnalbomflafaaW.PrintWords Go.Proofs.YtnbnalbomflafaaW.PrintLast Go.Proofs.YtnbnalbomflafaaW.PrintMore
open Go.Proofs.Ytnbnalbomflafaa.GA Go.Proofs.Ytnbnalbomflafaa.GB Go.Proofs.Ytnbnalbomflafaa.GD Go.Proofs.Ytnbnalbomflafaa.KA Go.Proofs.Ytnbnalbomflafaa.GR Go.Proofs.Ytnbnalbomflafaa.GQ Go.Proofs.Ytnbnalbomflafaa.DT
attribute [local go_sem] RA.field80_0 RA.field80_1 RA.field80_2 max2_int min2_int max_two min_two max_three min_three max_four min_four   -- for this text's walks alone
set_option linter.unusedVariables false
set_option linter.unusedSimpArgs false
mutual
def spec_hiChances.l0 : Nat → Int → Int → List Int → List (List Int) → List Int → List Int → Int → Int → List (List Int) → Option ((List (S27)))
  | 0, _, _, _, _, _, _, _, _, _ => none
  | k + 1, x1, x2, x7, x8, x9, x27, x28, x29, x208000 => if x29 < x28 then (if 0 ≤ x29 then (if x29 < (x27.length : Int) then (if 0 ≤ (rd x27 x29) then (if (rd x27 x29) < (x208000.length : Int) then (spec_hiChances.l1 k x1 x2 x7 x8 x9 0 x27 x28 x29 (rd_L1 x208000 (rd x27 x29)) ((rd_L1 x208000 (rd x27 x29)).length : Int) 0 x208000) else (none)) else (none)) else (none)) else (none)) else ((spec_hiSolve.f k x8 x9).bind fun bt220 => (if 0 ≤ (x208000.length : Int) then (if ((x208000.length : Int) : Int).toNat ≤ 17592186044416 then ((some (List.replicate ((x208000.length : Int) : Int).toNat z27 : List (S27))).bind fun y224 => (if 0 ≤ x1 then (if x1 < (y224.length : Int) then (if 0 ≤ x2 then (if x2 < (y224.length : Int) then (spec_hiChances.l2 k bt220.1 bt220.2 ((y224.set (x1 : Int).toNat (⟨1, 1⟩ : S27)).set (x2 : Int).toNat (⟨0, 1⟩ : S27)) x7 (x7.length : Int) 0) else (none)) else (none)) else (none)) else (none))) else (none)) else (none)))
def spec_hiChances.l1 : Nat → Int → Int → List Int → List (List Int) → List Int → Int → List Int → Int → Int → List Int → Int → Int → List (List Int) → Option ((List (S27)))
  | 0, _, _, _, _, _, _, _, _, _, _, _, _, _ => none
  | k + 1, x1, x2, x7, x8, x9, x12, x27, x28, x29, x37, x38, x39, x208000 => if x39 < x38 then (if 0 ≤ x39 then (if x39 < (x37.length : Int) then (if (rd x37 x39) = x1 then (spec_hiChances.l1 k x1 x2 x7 x8 x9 (wrap64 (x12 + 1)) x27 x28 x29 x37 x38 (wrap64 (x39 + 1)) x208000) else (spec_hiChances.l1 k x1 x2 x7 x8 x9 x12 x27 x28 x29 x37 x38 (wrap64 (x39 + 1)) x208000)) else (none)) else (none)) else (if x9.length < 17592186044416 then (spec_hiChances.l0 k x1 x2 x7 x8 (x9 ++ [x12]) x27 x28 (wrap64 (x29 + 1)) x208000) else (none))
def spec_hiChances.l2 : Nat → List Int → Int → List (S27) → List Int → Int → Int → Option ((List (S27)))
  | 0, _, _, _, _, _, _ => none
  | k + 1, x15, x16, x17, x72, x73, x74 => if x74 < x73 then (if 0 ≤ x74 then (if x74 < (x72.length : Int) then (if x74 < (x15.length : Int) then ((spec_hiRatio.f k (rd x15 x74) x16).bind fun bt231 => (if 0 ≤ (rd x72 x74) then (if (rd x72 x74) < (x17.length : Int) then (spec_hiChances.l2 k x15 x16 (x17.set ((rd x72 x74) : Int).toNat (⟨bt231.1, bt231.2⟩ : S27)) x72 x73 (wrap64 (x74 + 1))) else (none)) else (none))) else (none)) else (none)) else (none)) else (some x17)
end
def spec_hiChances.f (k : Nat) (l0_0 : List (List Int)) (a1 : Int) (a2 : Int) : Option ((List (S27))) := (spec_hiMatrix.f l0_0 a1 a2).bind fun bt208 => (spec_hiChances.l0 k a1 a2 bt208.1 bt208.2 ([] : List Int) bt208.1 (bt208.1.length : Int) 0 l0_0)
set_option maxHeartbeats 8000000 in
set_option maxRecDepth 100000 in
theorem spec_hiChances.calls (k : Nat) (A0_0 : Option Addr) (c0_0 : Nat) (l0_0 : List (List Int)) (a1 : Int) (a2 : Int) (r : List (S27)) (w : World) (hr0_0 : Kd.C (Kd.slice 3 (Kd.int .i64)) w A0_0 l0_0.length l0_0) (hc0_0 : l0_0.length ≤ c0_0) (h : spec_hiChances.f k l0_0 a1 a2 = some r) :
    Calls Try.prog 92 #[.agg #[.slice A0_0 l0_0.length c0_0], .int .i64 a1, .int .i64 a2] w fun e w' => ∃ v0_ : Value, e = .returned (v0_) ∧ Kd.R k27 27 w' w.heap.size (fun _ => True) v0_ r ∧ Below w.heap.size w w' := by
  have hu30 := Try.underlying30
  have hu27 := Try.underlying27
  have HR0_0 := Aside0.mk hr0_0
  have HC0_0 := Aside0.mk hc0_0
  clear hr0_0 hc0_0
  have HB := Aside0.mk (Below.refl w.heap.size w)
  have H : ((spec_hiMatrix.f l0_0 a1 a2).bind fun bt208 => (spec_hiChances.l0 k a1 a2 bt208.1 bt208.2 ([] : List Int) bt208.1 (bt208.1.length : Int) 0 l0_0)) = some r := h
  clear h
  replace H := Option.bind_eq_some_iff.mp H
  obtain ⟨⟨t208, t211⟩, A40, H⟩ := H
  replace H : (spec_hiChances.l0 k a1 a2 t208 t211 ([] : List Int) t208 (t208.length : Int) 0 l0_0) = some r := H
  have A4 := Aside0.mk A40
  clear A40
  have H' := Aside0.mk H
  clear H
  go_enter Try.func92, Try.ntmps92
  go_wp2_with (first | ((with_reducible refine gate_dst (N := 3) rfl ?_); refine box_event ?hg (N := 3) ?hd (cs := #[.slice A0_0 l0_0.length c0_0]) (t := 30) ?hr ?_; (case hd => rfl); (case hg => rfl); (case hr => first | (go_simp; done) | (go_simp; rfl)); intro gb207 hg w5 hbox hb; have n0_ := Aside0.mk (below_step (by repeat (first | (with_reducible first | exact HB.out | apply below_alloc | apply pw_below_drewN | apply below_drew1) | exact HB.out)) hb); have n1_ := Aside0.mk (hbox); have n2_ := Aside0.mk ((by rw [hg]; exact (below_size (by repeat (first | (with_reducible first | exact HB.out | apply below_alloc | apply pw_below_drewN | apply below_drew1) | exact HB.out))) : w.heap.size ≤ gb207)); have n3_ := Aside0.mk ((by rw [hg]; exact (below_size (by repeat (first | (with_reducible first | exact HB.out | apply below_alloc | apply pw_below_drewN | apply below_drew1) | exact HB.out))) : w.heap.size ≤ gb207)); clear HB; have HB := n0_; have BK207 := n1_; have GW207 := n2_; have GE207 := n3_; clear n0_ n1_ n2_ n3_; clear hb hbox hg; have hcz6_0 : w5.cell? ⟨gb207, 0, none⟩ = some (.slice A0_0 l0_0.length c0_0) := (blk_cell BK207.out 0).trans rfl; have hfz6_0 := blk_frozen BK207.out 0) | ((with_reducible refine gate_callee (f := 88) rfl ?_); refine goesL_ (some 24) rfl rfl Try.func88 (by kernel_rfl) rfl #[.agg #[.slice A0_0 l0_0.length c0_0], .int .i64 a1, .int .i64 a2] rfl (by (try simp only [List.map_toArray, List.map_cons, List.map_nil]); first | done | rfl | (simp only [List.length_drop, List.length_take]; rfl)) ?_; (with_reducible refine (spec_hiMatrix.calls _ _ l0_0 a1 a2 t208 t211 _ ?side1 ?side2 A4.out).mono ?_); (case side1 => repeat (first | exact (Kd.C_below HR0_0.out HB.out) | (with_reducible refine Kd.C_alloc ?_ _) | (with_reducible refine Kd.C_drewN ?_ _) | (with_reducible refine Kd.C_drew ?_))); (case side2 => exact HC0_0.out); rintro e w7 ⟨v209, v212, rfl, ho0, ho1, hb⟩; refine ⟨_, rfl, ?_⟩; have n0_ := Aside0.mk (Kd.R_lower ho0 (below_size (by repeat (first | (with_reducible first | exact HB.out | apply below_alloc | apply pw_below_drewN | apply below_drew1 | refine below_set ?_ GE207.out) | exact HB.out)))); have n1_ := Aside0.mk (Kd.S_lower ho1 (below_size (by repeat (first | (with_reducible first | exact HB.out | apply below_alloc | apply pw_below_drewN | apply below_drew1 | refine below_set ?_ GE207.out) | exact HB.out)))); have n2_ := Aside0.mk (blk_below (g := gb207) (o := .cells #[.slice A0_0 l0_0.length c0_0] 30 (0, 0)) (by (with_reducible repeat (first | refine blk_drewN ?_ _ | refine blk_drew ?_ | refine blk_alloc ?_ _)); exact BK207.out) hb); have n3_ := Aside0.mk (below_step (by repeat (first | (with_reducible first | exact HB.out | apply below_alloc | apply pw_below_drewN | apply below_drew1 | refine below_set ?_ GE207.out) | exact HB.out)) hb); clear BK207; clear HB; have HO210 := n0_; have HO213 := n1_; have BK207 := n2_; have HB := n3_; clear n0_ n1_ n2_ n3_; (try clear hb); (try clear hb2); (try clear hk); (try clear hi); (try clear ho0); (try clear ho1); obtain ⟨Ao8, co8, eo8⟩ := Kd.R_slice HO210.out; subst eo8))
  go_loopg [9, 29] k (fun kq v9 v29 w' => ∃ (x9_1 : List Int) (x29_1 : Int), v29 = .int .i64 x29_1 ∧ Aside0 (spec_hiChances.l0 kq a1 a2 t208 t211 x9_1 t208 (t208.length : Int) x29_1 l0_0 = some r) ∧ Aside0 (kq ≤ k) ∧ Aside0 (Kd.R (Kd.int .i64) 3 w' w.heap.size (fun k_ => some k_ ≠ (v9 : Value).ownBlock) (.slice Ao8 t208.length co8) t208) ∧ Aside0 (Kd.S (Kd.slice 3 (Kd.int .i64)) 37 w' w.heap.size (fun k_ => some k_ ≠ ((.slice Ao8 t208.length co8) : Value).ownBlock ∧ some k_ ≠ (v9 : Value).ownBlock ∧ some k_ ≠ ((.slice Ao8 t208.length co8) : Value).ownBlock) v212 t211) ∧ Aside0 (Kd.R (Kd.int .i64) 3 w' w.heap.size (fun k_ => some k_ ≠ ((.slice Ao8 t208.length co8) : Value).ownBlock ∧ some k_ ≠ ((.slice Ao8 t208.length co8) : Value).ownBlock) v9 x9_1) ∧ Aside0 (Kd.R (Kd.int .i64) 3 w' w.heap.size (fun k_ => some k_ ≠ (v9 : Value).ownBlock) (.slice Ao8 t208.length co8) t208) ∧ Aside0 (w'.heap[gb207]? = some (.cells #[(.slice A0_0 l0_0.length c0_0)] 30 (0, 0))) ∧ Aside0 (Below w.heap.size w w'))
  case atStart => exact ⟨(([] : List Int)), (0), (by first | rfl | (simp; done) | (simp [*]; done)), H', ⟨Nat.le_refl _⟩, ⟨by (with_reducible repeat (first | apply Kd.R_alloc | apply Kd.R_drewN | apply Kd.R_drew)); exact Kd.R_mono HO210.out (fun _ hk => (by simp [Value.ownBlock]))⟩, ⟨by (with_reducible repeat (first | apply Kd.S_alloc | apply Kd.S_drewN | apply Kd.S_drew)); exact Kd.S_mono HO213.out (fun _ hk => ⟨hk, ⟨(by simp [Value.ownBlock]), hk⟩⟩)⟩, ⟨by first | exact Kd.R_nil _ _ _ _ _ | exact Kd.N_nil _ _ _ _ _ | exact Kd.V_nil _ _ _ _ _ | exact Kd.Q_nil _ _ _ _ _ | exact Kd.S_nil _ _ _ _ _⟩, ⟨by (with_reducible repeat (first | apply Kd.R_alloc | apply Kd.R_drewN | apply Kd.R_drew)); exact Kd.R_mono HO210.out (fun _ hk => (by simp [Value.ownBlock]))⟩, ⟨by (with_reducible repeat (first | refine blk_drewN ?_ _ | refine blk_drew ?_ | refine blk_alloc ?_ _)); exact BK207.out⟩, ⟨by repeat (first | (with_reducible first | exact HB.out | apply below_alloc | apply pw_below_drewN | apply below_drew1 | refine below_set ?_ GE207.out) | exact HB.out)⟩⟩
  case round =>
    clear H'
    try clear p2
    try clear c8
    try clear hcz6_0
    try clear hfz6_0
    obtain ⟨x9_1, x29_1, rfl, HA, HK1, HO_7, HO_8, HO_9, HO_27, BK207, HB⟩ := hrel
    cases gk with
    | zero => exact absurd HA.out (by simp [spec_hiChances.l0])
    | succ k1 =>
      have H := HA.out
      clear HA
      simp only [spec_hiChances.l0] at H
      by_cases c9 : x29_1 < (t208.length : Int)
      · rw [if_pos c9] at H
        have c9b0 : decide (x29_1 < (t208.length : Int)) = true := decide_eq_true c9
        clear c9
        by_cases c10 : 0 ≤ x29_1
        · rw [if_pos c10] at H
          have c10b0 : decide (0 ≤ x29_1) = true := decide_eq_true c10
          clear c10
          by_cases c11 : x29_1 < (t208.length : Int)
          · rw [if_pos c11] at H
            have c11b0 : decide (x29_1 < (t208.length : Int)) = true := decide_eq_true c11
            clear c11
            by_cases c12 : 0 ≤ (rd t208 x29_1)
            · rw [if_pos c12] at H
              have c12b0 : decide (0 ≤ (rd t208 x29_1)) = true := decide_eq_true c12
              clear c12
              by_cases c13 : (rd t208 x29_1) < (l0_0.length : Int)
              · rw [if_pos c13] at H
                have c13b0 : decide ((rd t208 x29_1) < (l0_0.length : Int)) = true := decide_eq_true c13
                clear c13
                have H' := Aside0.mk H
                clear H
                have p214 : 0 ≤ (x29_1 : Int) := of_decide_eq_true (by first | (with_reducible assumption) | assumption)
                have q214 : x29_1 < (t208.length : Int) := of_decide_eq_true (by first | (with_reducible assumption) | assumption)
                obtain ⟨ad214, e214, hx214_0⟩ := Kd.at_int (Kd.R_reads' HO_27.out).2.2 x29_1 p214 q214
                cases e214
                replace p214 := eq_true p214
                replace q214 := eq_true q214
                have hcz14_0 : wr.cell? ⟨gb207, 0, none⟩ = some (.slice A0_0 l0_0.length c0_0) := (blk_cell BK207.out 0).trans rfl
                have hfz14_0 := blk_frozen BK207.out 0
                have p215 : 0 ≤ ((rd t208 x29_1) : Int) := of_decide_eq_true (by first | (with_reducible assumption) | assumption)
                have q215 : (rd t208 x29_1) < (l0_0.length : Int) := of_decide_eq_true (by first | (with_reducible assumption) | assumption)
                obtain ⟨ad215, A215_0, c215_0, e215, hx215_0, hl215_0, hi215_0⟩ := at_L1 HR0_0.out (rd t208 x29_1) p215 q215
                cases e215
                replace hx215_0 := (HB.out.cell (World.block_lt_of_cell? w _ hx215_0)).trans hx215_0
                have HR215_0 := Aside0.mk hi215_0
                have HC215_0 := Aside0.mk hl215_0
                clear hi215_0 hl215_0
                replace p215 := eq_true p215
                replace q215 := eq_true q215
                go_wp2
                go_loopg [12, 39] k1 (fun kq v12 v39 w' => ∃ (x12_2 : Int) (x39_2 : Int), v12 = .int .i64 x12_2 ∧ v39 = .int .i64 x39_2 ∧ Aside0 (spec_hiChances.l1 kq a1 a2 t208 t211 x9_1 x12_2 t208 (t208.length : Int) x29_1 (rd_L1 l0_0 (rd t208 x29_1)) ((rd_L1 l0_0 (rd t208 x29_1)).length : Int) x39_2 l0_0 = some r) ∧ Aside0 (kq ≤ k1) ∧ Aside0 (Kd.R (Kd.int .i64) 3 w' w.heap.size (fun k_ => some k_ ≠ (u9 : Value).ownBlock) (.slice (some ad214) t208.length co8) t208) ∧ Aside0 (Kd.S (Kd.slice 3 (Kd.int .i64)) 37 w' w.heap.size (fun k_ => some k_ ≠ ((.slice (some ad214) t208.length co8) : Value).ownBlock ∧ some k_ ≠ (u9 : Value).ownBlock ∧ some k_ ≠ ((.slice (some ad214) t208.length co8) : Value).ownBlock) v212 t211) ∧ Aside0 (Kd.R (Kd.int .i64) 3 w' w.heap.size (fun k_ => some k_ ≠ ((.slice (some ad214) t208.length co8) : Value).ownBlock ∧ some k_ ≠ ((.slice (some ad214) t208.length co8) : Value).ownBlock) u9 x9_1) ∧ Aside0 (Kd.R (Kd.int .i64) 3 w' w.heap.size (fun k_ => some k_ ≠ (u9 : Value).ownBlock) (.slice (some ad214) t208.length co8) t208) ∧ Aside0 (w'.heap[gb207]? = some (.cells #[(.slice (some ad215) l0_0.length c0_0)] 30 (0, 0))) ∧ Aside0 (Below w.heap.size w w'))
                case atStart => exact ⟨(0), (0), (by first | rfl | (simp; done) | (simp [*]; done)), (by first | rfl | (simp; done) | (simp [*]; done)), H', ⟨Nat.le_refl _⟩, ⟨by (with_reducible repeat (first | apply Kd.R_alloc | apply Kd.R_drewN | apply Kd.R_drew)); exact HO_7.out⟩, ⟨by (with_reducible repeat (first | apply Kd.S_alloc | apply Kd.S_drewN | apply Kd.S_drew)); exact HO_8.out⟩, ⟨by (with_reducible repeat (first | apply Kd.R_alloc | apply Kd.R_drewN | apply Kd.R_drew)); exact HO_9.out⟩, ⟨by (with_reducible repeat (first | apply Kd.R_alloc | apply Kd.R_drewN | apply Kd.R_drew)); exact HO_27.out⟩, ⟨by (with_reducible repeat (first | refine blk_drewN ?_ _ | refine blk_drew ?_ | refine blk_alloc ?_ _)); exact BK207.out⟩, ⟨by repeat (first | (with_reducible first | exact HB.out | apply below_alloc | apply pw_below_drewN | apply below_drew1 | refine below_set ?_ GE207.out) | exact HB.out)⟩⟩
                case round =>
                  clear H'
                  try clear c1
                  try clear c2
                  try clear p2
                  try clear q2
                  try clear hx2
                  try clear c8
                  try clear c9
                  try clear c9b0
                  try clear c10
                  try clear c10b0
                  try clear c11
                  try clear c11b0
                  try clear c12
                  try clear c12b0
                  try clear c13
                  try clear c13b0
                  try clear hcz14_0
                  try clear hcz6_0
                  try clear hfz14_0
                  try clear hfz6_0
                  try clear hx214_0
                  try clear hx215_0
                  try clear p2
                  try clear p214
                  try clear p215
                  try clear q214
                  try clear q215
                  obtain ⟨x12_2, x39_2, rfl, rfl, HA, HK2, HO_7, HO_8, HO_9, HO_27, BK207, HB⟩ := hrel
                  cases gk with
                  | zero => exact absurd HA.out (by simp [spec_hiChances.l1])
                  | succ k2 =>
                    have H := HA.out
                    clear HA
                    simp only [spec_hiChances.l1] at H
                    by_cases c15 : x39_2 < ((rd_L1 l0_0 (rd t208 x29_1)).length : Int)
                    · rw [if_pos c15] at H
                      have c15b0 : decide (x39_2 < ((rd_L1 l0_0 (rd t208 x29_1)).length : Int)) = true := decide_eq_true c15
                      clear c15
                      by_cases c16 : 0 ≤ x39_2
                      · rw [if_pos c16] at H
                        have c16b0 : decide (0 ≤ x39_2) = true := decide_eq_true c16
                        clear c16
                        by_cases c17 : x39_2 < ((rd_L1 l0_0 (rd t208 x29_1)).length : Int)
                        · rw [if_pos c17] at H
                          have c17b0 : decide (x39_2 < ((rd_L1 l0_0 (rd t208 x29_1)).length : Int)) = true := decide_eq_true c17
                          clear c17
                          by_cases c18 : (rd (rd_L1 l0_0 (rd t208 x29_1)) x39_2) = a1
                          · rw [if_pos c18] at H
                            have c18b0 : ((rd (rd_L1 l0_0 (rd t208 x29_1)) x39_2) == a1) = true := beq_iff_eq.mpr c18
                            have c18b1 : ((rd (rd_L1 l0_0 (rd t208 x29_1)) x39_2) != a1) = false := bne_eq_false_iff_eq.mpr c18
                            clear c18
                            have H' := Aside0.mk H
                            clear H
                            have p216 : 0 ≤ (x39_2 : Int) := of_decide_eq_true (by first | (with_reducible assumption) | assumption)
                            have q216 : x39_2 < ((rd_L1 l0_0 (rd t208 x29_1)).length : Int) := of_decide_eq_true (by first | (with_reducible assumption) | assumption)
                            obtain ⟨ad216, e216, hx216_0⟩ := Kd.at_int HR215_0.out x39_2 p216 q216
                            cases e216
                            replace hx216_0 := (HB.out.cell (World.block_lt_of_cell? w _ hx216_0)).trans hx216_0
                            replace p216 := eq_true p216
                            replace q216 := eq_true q216
                            go_wp2
                            go_roundg k2
                            case measure => have := HK1.out; have := HK2.out; omega
                            case rel => exact ⟨(wrap64 (x12_2 + 1)), (wrap64 (x39_2 + 1)), (by first | rfl | (simp; done) | (simp [*]; done)), (by first | rfl | (simp; done) | (simp [*]; done)), H', ⟨by have := HK1.out; have := HK2.out; omega⟩, ⟨by (with_reducible repeat (first | apply Kd.R_alloc | apply Kd.R_drewN | apply Kd.R_drew)); exact HO_7.out⟩, ⟨by (with_reducible repeat (first | apply Kd.S_alloc | apply Kd.S_drewN | apply Kd.S_drew)); exact HO_8.out⟩, ⟨by (with_reducible repeat (first | apply Kd.R_alloc | apply Kd.R_drewN | apply Kd.R_drew)); exact HO_9.out⟩, ⟨by (with_reducible repeat (first | apply Kd.R_alloc | apply Kd.R_drewN | apply Kd.R_drew)); exact HO_27.out⟩, ⟨by (with_reducible repeat (first | refine blk_drewN ?_ _ | refine blk_drew ?_ | refine blk_alloc ?_ _)); exact BK207.out⟩, ⟨by repeat (first | (with_reducible first | exact HB.out | apply below_alloc | apply pw_below_drewN | apply below_drew1 | refine below_set ?_ GE207.out) | exact HB.out)⟩⟩
                          · rw [if_neg c18] at H
                            have c18b0 : ((rd (rd_L1 l0_0 (rd t208 x29_1)) x39_2) == a1) = false := beq_eq_false_iff_ne.mpr c18
                            have c18b1 : ((rd (rd_L1 l0_0 (rd t208 x29_1)) x39_2) != a1) = true := bne_iff_ne.mpr c18
                            have H' := Aside0.mk H
                            clear H
                            have p216 : 0 ≤ (x39_2 : Int) := of_decide_eq_true (by first | (with_reducible assumption) | assumption)
                            have q216 : x39_2 < ((rd_L1 l0_0 (rd t208 x29_1)).length : Int) := of_decide_eq_true (by first | (with_reducible assumption) | assumption)
                            obtain ⟨ad216, e216, hx216_0⟩ := Kd.at_int HR215_0.out x39_2 p216 q216
                            cases e216
                            replace hx216_0 := (HB.out.cell (World.block_lt_of_cell? w _ hx216_0)).trans hx216_0
                            replace p216 := eq_true p216
                            replace q216 := eq_true q216
                            go_wp2
                            go_roundg k2
                            case measure => have := HK1.out; have := HK2.out; omega
                            case rel => exact ⟨(x12_2), (wrap64 (x39_2 + 1)), (by first | rfl | (simp; done) | (simp [*]; done)), (by first | rfl | (simp; done) | (simp [*]; done)), H', ⟨by have := HK1.out; have := HK2.out; omega⟩, ⟨by (with_reducible repeat (first | apply Kd.R_alloc | apply Kd.R_drewN | apply Kd.R_drew)); exact HO_7.out⟩, ⟨by (with_reducible repeat (first | apply Kd.S_alloc | apply Kd.S_drewN | apply Kd.S_drew)); exact HO_8.out⟩, ⟨by (with_reducible repeat (first | apply Kd.R_alloc | apply Kd.R_drewN | apply Kd.R_drew)); exact HO_9.out⟩, ⟨by (with_reducible repeat (first | apply Kd.R_alloc | apply Kd.R_drewN | apply Kd.R_drew)); exact HO_27.out⟩, ⟨by (with_reducible repeat (first | refine blk_drewN ?_ _ | refine blk_drew ?_ | refine blk_alloc ?_ _)); exact BK207.out⟩, ⟨by repeat (first | (with_reducible first | exact HB.out | apply below_alloc | apply pw_below_drewN | apply below_drew1 | refine below_set ?_ GE207.out) | exact HB.out)⟩⟩
                        · rw [if_neg c17] at H
                          exact absurd H (by simp)
                      · rw [if_neg c16] at H
                        exact absurd H (by simp)
                    · rw [if_neg c15] at H
                      have c15b0 : decide (x39_2 < ((rd_L1 l0_0 (rd t208 x29_1)).length : Int)) = false := decide_eq_false c15
                      clear c15
                      by_cases c19 : x9_1.length < 17592186044416
                      · rw [if_pos c19] at H
                        have LMc19 := Aside0.mk c19
                        clear c19
                        obtain ⟨y217, hy217⟩ : ∃ y_ : List Int, y_ = (x9_1 ++ [x12_2]) := ⟨_, rfl⟩
                        replace H : (spec_hiChances.l0 k2 a1 a2 t208 t211 y217 t208 (t208.length : Int) (wrap64 (x29_1 + 1)) l0_0) = some r := by first | (rw [hy217]; with_reducible exact H) | (have H2_ := (Option.bind_some _ _).symm.trans H; rw [hy217]; with_reducible exact H2_) | (have H2_ := (Option.bind_some _ _).symm.trans H; with_reducible exact H2_) | with_reducible exact H | (rw [hy217]; exact H) | exact H
                        have Ny217 := Aside0.mk hy217
                        clear hy217
                        have H' := Aside0.mk H
                        clear H
                        go_wp2_with (first | ((with_reducible refine gate_builtin (b := .append) (xs := #[.tmp 49, .tmp 51]) rfl ?_); at_builtin; refine Kd.R_append (Kd.int .i64) (w0 := w) w.heap.size rfl (.tmp 49) (.tmp 51) 37 3 (.int .i64 0) 8 rfl Try.underlying37 info3 rfl (by decide) (by omega) u9 x9_1 x12_2 [.int .i64 x12_2] (fun k_ => some k_ ≠ (.slice (some ad214) t208.length co8 : Value).ownBlock ∧ some k_ ≠ (.slice (some ad214) t208.length co8 : Value).ownBlock) (fun _ => False) rfl rfl ?aP (fun _ hk => hk.elim) ?aF ?aO ?aB ?aS ?aL ?_; (case aP => exact rfl); (case aB => exact (by repeat (first | (with_reducible first | exact HB.out | apply below_alloc | apply pw_below_drewN | apply below_drew1 | refine below_set ?_ GE207.out) | exact HB.out))); (case aF => exact (fun k_ hk => ⟨Kd.fresh' (Kd.R_lt (by (with_reducible repeat (first | apply Kd.R_alloc | apply Kd.R_drewN | apply Kd.R_drew)); exact HO_7.out)) k_ hk, Kd.fresh' (Kd.R_lt (by (with_reducible repeat (first | apply Kd.R_alloc | apply Kd.R_drewN | apply Kd.R_drew)); exact HO_27.out)) k_ hk⟩)); (case aO => exact (by (with_reducible repeat (first | apply Kd.R_alloc | apply Kd.R_drewN | apply Kd.R_drew)); exact HO_9.out)); (case aS => exact (below_size (by repeat (first | (with_reducible first | exact HB.out | apply below_alloc | apply pw_below_drewN | apply below_drew1 | refine below_set ?_ GE207.out) | exact HB.out)))); (case aL => have := LMc19.out; omega); intro v218 w20 ho hb hg hat; rw [← Ny217.out] at ho; have n0_ := Aside0.mk (Kd.R_after (ok := (fun _ => True)) (by (with_reducible repeat (first | apply Kd.R_alloc | apply Kd.R_drewN | apply Kd.R_drew)); exact Kd.R_mono HO_7.out (fun _ hk => ⟨trivial, hk⟩)) hg hat); have n1_ := Aside0.mk (Kd.S_after (ok := (fun k_ => some k_ ≠ (.slice (some ad214) t208.length co8 : Value).ownBlock ∧ some k_ ≠ (.slice (some ad214) t208.length co8 : Value).ownBlock)) (by (with_reducible repeat (first | apply Kd.S_alloc | apply Kd.S_drewN | apply Kd.S_drew)); exact Kd.S_mono HO_8.out (fun _ hk => ⟨⟨hk.1, hk.2.2⟩, hk.2.1⟩)) hg hat); have n2_ := Aside0.mk (Kd.R_after (ok := (fun _ => True)) (by (with_reducible repeat (first | apply Kd.R_alloc | apply Kd.R_drewN | apply Kd.R_drew)); exact Kd.R_mono HO_27.out (fun _ hk => ⟨trivial, hk⟩)) hg hat); have n3_ := Aside0.mk (blk_grown (g := gb207) (o := .cells #[.slice (some ad215) l0_0.length c0_0] 30 (0, 0)) (by (with_reducible repeat (first | refine blk_drewN ?_ _ | refine blk_drew ?_ | refine blk_alloc ?_ _)); exact BK207.out) hg (Kd.R_ne HO_9.out BK207.out (by decide))); have n4_ := Aside0.mk (hb); have n5_ := Aside0.mk (ho); clear HO_7; clear HO_8; clear HO_27; clear BK207; clear HB; clear HO_9; have HO_7 := n0_; have HO_8 := n1_; have HO_27 := n2_; have BK207 := n3_; have HB := n4_; have HO219 := n5_; clear n0_ n1_ n2_ n3_ n4_ n5_; clear ho hb hg hat))
                        go_roundg k2
                        case measure => have := HK1.out; have := HK2.out; omega
                        case rel => exact ⟨(y217), (wrap64 (x29_1 + 1)), (by first | rfl | (simp; done) | (simp [*]; done)), H', ⟨by have := HK1.out; have := HK2.out; omega⟩, ⟨by (with_reducible repeat (first | apply Kd.R_alloc | apply Kd.R_drewN | apply Kd.R_drew)); exact Kd.R_mono HO_7.out (fun _ hk => hk.2)⟩, ⟨by (with_reducible repeat (first | apply Kd.S_alloc | apply Kd.S_drewN | apply Kd.S_drew)); exact Kd.S_mono HO_8.out (fun _ hk => ⟨hk.1.1, ⟨hk.2, hk.1.2⟩⟩)⟩, ⟨by (with_reducible repeat (first | apply Kd.R_alloc | apply Kd.R_drewN | apply Kd.R_drew)); exact HO219.out⟩, ⟨by (with_reducible repeat (first | apply Kd.R_alloc | apply Kd.R_drewN | apply Kd.R_drew)); exact Kd.R_mono HO_27.out (fun _ hk => hk.2)⟩, ⟨by (with_reducible repeat (first | refine blk_drewN ?_ _ | refine blk_drew ?_ | refine blk_alloc ?_ _)); exact BK207.out⟩, ⟨by repeat (first | (with_reducible first | exact HB.out | apply below_alloc | apply pw_below_drewN | apply below_drew1 | refine below_set ?_ GE207.out) | exact HB.out)⟩⟩
                      · rw [if_neg c19] at H
                        exact absurd H (by simp)
              · rw [if_neg c13] at H
                exact absurd H (by simp)
            · rw [if_neg c12] at H
              exact absurd H (by simp)
          · rw [if_neg c11] at H
            exact absurd H (by simp)
        · rw [if_neg c10] at H
          exact absurd H (by simp)
      · rw [if_neg c9] at H
        have c9b0 : decide (x29_1 < (t208.length : Int)) = false := decide_eq_false c9
        clear c9
        replace H := Option.bind_eq_some_iff.mp H
        obtain ⟨⟨t220, t221⟩, A210, H⟩ := H
        replace H : (if 0 ≤ (l0_0.length : Int) then (if ((l0_0.length : Int) : Int).toNat ≤ 17592186044416 then ((some (List.replicate ((l0_0.length : Int) : Int).toNat z27 : List (S27))).bind fun y224 => (if 0 ≤ a1 then (if a1 < (y224.length : Int) then (if 0 ≤ a2 then (if a2 < (y224.length : Int) then (spec_hiChances.l2 k1 t220 t221 ((y224.set (a1 : Int).toNat (⟨1, 1⟩ : S27)).set (a2 : Int).toNat (⟨0, 1⟩ : S27)) t208 (t208.length : Int) 0) else (none)) else (none)) else (none)) else (none))) else (none)) else (none)) = some r := H
        have A21 := Aside0.mk A210
        clear A210
        by_cases c22 : 0 ≤ (l0_0.length : Int)
        · rw [if_pos c22] at H
          have c22b0 := eq_true c22
          have c22b1 : decide (0 ≤ (l0_0.length : Int)) = true := decide_eq_true c22
          clear c22
          by_cases c23 : ((l0_0.length : Int) : Int).toNat ≤ 17592186044416
          · rw [if_pos c23] at H
            have c23b0 := eq_true c23
            have c23b1 : decide (((l0_0.length : Int) : Int).toNat ≤ 17592186044416) = true := decide_eq_true c23
            clear c23
            obtain ⟨y224, hy224⟩ : ∃ y_ : List (S27), y_ = (List.replicate ((l0_0.length : Int) : Int).toNat z27) := ⟨_, rfl⟩
            replace H : (if 0 ≤ a1 then (if a1 < (y224.length : Int) then (if 0 ≤ a2 then (if a2 < (y224.length : Int) then (spec_hiChances.l2 k1 t220 t221 ((y224.set (a1 : Int).toNat (⟨1, 1⟩ : S27)).set (a2 : Int).toNat (⟨0, 1⟩ : S27)) t208 (t208.length : Int) 0) else (none)) else (none)) else (none)) else (none)) = some r := by first | (rw [hy224]; with_reducible exact H) | (have H2_ := (Option.bind_some _ _).symm.trans H; rw [hy224]; with_reducible exact H2_) | (have H2_ := (Option.bind_some _ _).symm.trans H; with_reducible exact H2_) | with_reducible exact H | (rw [hy224]; exact H) | exact H
            have Ny224 := Aside0.mk hy224
            clear hy224
            by_cases c24 : 0 ≤ a1
            · rw [if_pos c24] at H
              have c24b0 : decide (0 ≤ a1) = true := decide_eq_true c24
              clear c24
              by_cases c25 : a1 < (y224.length : Int)
              · rw [if_pos c25] at H
                have c25b0 : decide (a1 < (y224.length : Int)) = true := decide_eq_true c25
                clear c25
                obtain ⟨y227, hy227⟩ : ∃ y_ : List (S27), y_ = (y224.set (a1 : Int).toNat (⟨1, 1⟩ : S27)) := ⟨_, rfl⟩
                replace H : (if 0 ≤ a2 then (if a2 < (y224.length : Int) then (spec_hiChances.l2 k1 t220 t221 (y227.set (a2 : Int).toNat (⟨0, 1⟩ : S27)) t208 (t208.length : Int) 0) else (none)) else (none)) = some r := by first | (rw [hy227]; with_reducible exact H) | (have H2_ := (Option.bind_some _ _).symm.trans H; rw [hy227]; with_reducible exact H2_) | (have H2_ := (Option.bind_some _ _).symm.trans H; with_reducible exact H2_) | with_reducible exact H | (rw [hy227]; exact H) | exact H
                have Ny227 := Aside0.mk hy227
                clear hy227
                by_cases c27 : 0 ≤ a2
                · rw [if_pos c27] at H
                  have c27b0 : decide (0 ≤ a2) = true := decide_eq_true c27
                  clear c27
                  by_cases c28 : a2 < (y224.length : Int)
                  · rw [if_pos c28] at H
                    have c28b0 : decide (a2 < (y224.length : Int)) = true := decide_eq_true c28
                    clear c28
                    obtain ⟨y228, hy228⟩ : ∃ y_ : List (S27), y_ = (y227.set (a2 : Int).toNat (⟨0, 1⟩ : S27)) := ⟨_, rfl⟩
                    replace H : (spec_hiChances.l2 k1 t220 t221 y228 t208 (t208.length : Int) 0) = some r := by first | (rw [hy228]; with_reducible exact H) | (have H2_ := (Option.bind_some _ _).symm.trans H; rw [hy228]; with_reducible exact H2_) | (have H2_ := (Option.bind_some _ _).symm.trans H; with_reducible exact H2_) | with_reducible exact H | (rw [hy228]; exact H) | exact H
                    have Ny228 := Aside0.mk hy228
                    clear hy228
                    have H' := Aside0.mk H
                    clear H
                    obtain ⟨Ao30, co30, eo30⟩ := Kd.S_slice HO_8.out
                    subst eo30
                    obtain ⟨Ao31, co31, eo31⟩ := Kd.R_slice HO_9.out
                    subst eo31
                    go_wp2_with (first | ((with_reducible refine gate_callee (f := 89) rfl ?_); refine goesL_ (some 57) rfl rfl Try.func89 (by kernel_rfl) rfl #[.slice Ao30 t211.length co30, .slice Ao31 x9_1.length co31] rfl (by (try simp only [List.map_toArray, List.map_cons, List.map_nil]); first | done | rfl | (simp only [List.length_drop, List.length_take]; rfl)) ?_; (with_reducible refine (spec_hiSolve.calls k1 _ _ t211 _ _ x9_1 t220 t221 _ ?side1 ?side2 ?side3 ?side4 A21.out).mono ?_); (case side1 => repeat (first | exact (Kd.S_reads' HO_8.out).2.2 | (with_reducible refine Kd.C_alloc ?_ _) | (with_reducible refine Kd.C_drewN ?_ _) | (with_reducible refine Kd.C_drew ?_))); (case side2 => exact (Kd.S_reads' HO_8.out).2.1); (case side3 => repeat (first | exact (Kd.R_reads' HO_9.out).2.2 | (with_reducible refine Kd.C_alloc ?_ _) | (with_reducible refine Kd.C_drewN ?_ _) | (with_reducible refine Kd.C_drew ?_))); (case side4 => exact (Kd.R_reads' HO_9.out).2.1); rintro e w32 ⟨v222, rfl, ho0, hb⟩; refine ⟨_, rfl, ?_⟩; have n0_ := Aside0.mk (Kd.R_elder' (by (with_reducible repeat (first | apply Kd.R_alloc | apply Kd.R_drewN | apply Kd.R_drew)); exact HO_7.out) (Kd.R_base ho0) hb); have n1_ := Aside0.mk (Kd.S_elder' (by (with_reducible repeat (first | apply Kd.S_alloc | apply Kd.S_drewN | apply Kd.S_drew)); exact HO_8.out) (Kd.R_base ho0) hb); have n2_ := Aside0.mk (Kd.R_elder' (by (with_reducible repeat (first | apply Kd.R_alloc | apply Kd.R_drewN | apply Kd.R_drew)); exact HO_9.out) (Kd.R_base ho0) hb); have n3_ := Aside0.mk (Kd.R_elder' (by (with_reducible repeat (first | apply Kd.R_alloc | apply Kd.R_drewN | apply Kd.R_drew)); exact HO_27.out) (Kd.R_base ho0) hb); have n4_ := Aside0.mk (Kd.R_lower (Kd.R_new' (Kd.R_new' (Kd.R_new' ho0 (Kd.R_lt (by (with_reducible repeat (first | apply Kd.R_alloc | apply Kd.R_drewN | apply Kd.R_drew)); exact HO_7.out))) (Kd.R_lt (by (with_reducible repeat (first | apply Kd.R_alloc | apply Kd.R_drewN | apply Kd.R_drew)); exact HO_9.out))) (Kd.R_lt (by (with_reducible repeat (first | apply Kd.R_alloc | apply Kd.R_drewN | apply Kd.R_drew)); exact HO_27.out))) (below_size (by repeat (first | (with_reducible first | exact HB.out | apply below_alloc | apply pw_below_drewN | apply below_drew1 | refine below_set ?_ GE207.out) | exact HB.out)))); have n5_ := Aside0.mk (blk_below (g := gb207) (o := .cells #[.slice A0_0 l0_0.length c0_0] 30 (0, 0)) (by (with_reducible repeat (first | refine blk_drewN ?_ _ | refine blk_drew ?_ | refine blk_alloc ?_ _)); exact BK207.out) hb); have n6_ := Aside0.mk (below_step (by repeat (first | (with_reducible first | exact HB.out | apply below_alloc | apply pw_below_drewN | apply below_drew1 | refine below_set ?_ GE207.out) | exact HB.out)) hb); clear HO_7; clear HO_8; clear HO_9; clear HO_27; clear BK207; clear HB; have HO_7 := n0_; have HO_8 := n1_; have HO_9 := n2_; have HO_27 := n3_; have HO223 := n4_; have BK207 := n5_; have HB := n6_; clear n0_ n1_ n2_ n3_ n4_ n5_ n6_; (try clear hb); (try clear hb2); (try clear hk); (try clear hi); (try clear ho0); have hcz33_0 : w32.cell? ⟨gb207, 0, none⟩ = some (.slice A0_0 l0_0.length c0_0) := (blk_cell BK207.out 0).trans rfl; have hfz33_0 := blk_frozen BK207.out 0) | ((with_reducible refine gate_dst (N := 63) rfl ?_); refine Kd.R_make k27 _ 27 rfl (N := 63) rfl 49 _ _ rfl (l0_0.length : Int) rfl rfl Try.underlying49 (.agg #[(.int .i64 0), (.int .i64 0)]) 16 info27 rfl (by decide) (by omega) z27 (ok := fun _ => True) (okp := fun _ => True) (k27_mkM _ _ _ z27 ) (fun _ hk => hk) trivial (of_decide_eq_true (by first | (with_reducible assumption) | assumption)) (Nat.le_trans (Nat.mul_le_mul_right _ (of_decide_eq_true (by first | (with_reducible assumption) | assumption) : (l0_0.length : Int).toNat ≤ 17592186044416)) (by omega)) (Below.refl _ _) (Nat.le_refl _) ?_; intro v225 w34 ho35 hb hg_ hnew_; clear hg_ hnew_; (first | rw [← Ny224.out] at ho35 | (simp only [Int.reduceToNat] at ho35; rw [← Ny224.out] at ho35)); have n0_ := Aside0.mk (Kd.R_below (by (with_reducible repeat (first | apply Kd.R_alloc | apply Kd.R_drewN | apply Kd.R_drew)); exact HO_7.out) hb); have n1_ := Aside0.mk (Kd.S_below (by (with_reducible repeat (first | apply Kd.S_alloc | apply Kd.S_drewN | apply Kd.S_drew)); exact HO_8.out) hb); have n2_ := Aside0.mk (Kd.R_below (by (with_reducible repeat (first | apply Kd.R_alloc | apply Kd.R_drewN | apply Kd.R_drew)); exact HO_9.out) hb); have n3_ := Aside0.mk (Kd.R_below (by (with_reducible repeat (first | apply Kd.R_alloc | apply Kd.R_drewN | apply Kd.R_drew)); exact HO_27.out) hb); have n4_ := Aside0.mk (Kd.R_below (by (with_reducible repeat (first | apply Kd.R_alloc | apply Kd.R_drewN | apply Kd.R_drew)); exact HO223.out) hb); have n5_ := Aside0.mk (Kd.R_lower ho35 (below_size (by repeat (first | (with_reducible first | exact HB.out | apply below_alloc | apply pw_below_drewN | apply below_drew1 | refine below_set ?_ GE207.out) | exact HB.out)))); have n6_ := Aside0.mk (blk_below (g := gb207) (o := .cells #[.slice A0_0 l0_0.length c0_0] 30 (0, 0)) (by (with_reducible repeat (first | refine blk_drewN ?_ _ | refine blk_drew ?_ | refine blk_alloc ?_ _)); exact BK207.out) hb); have n7_ := Aside0.mk (below_step (by repeat (first | (with_reducible first | exact HB.out | apply below_alloc | apply pw_below_drewN | apply below_drew1 | refine below_set ?_ GE207.out) | exact HB.out)) hb); clear HO_7; clear HO_8; clear HO_9; clear HO_27; clear HO223; clear BK207; clear HB; have HO_7 := n0_; have HO_8 := n1_; have HO_9 := n2_; have HO_27 := n3_; have HO223 := n4_; have HO226 := n5_; have BK207 := n6_; have HB := n7_; clear n0_ n1_ n2_ n3_ n4_ n5_ n6_ n7_; clear hb ho35; have p26 : 0 ≤ (a1 : Int) := of_decide_eq_true (by first | (with_reducible assumption) | assumption); have q26 : (a1 : Int) < ((y224.length : Int) : Int) := of_decide_eq_true (by first | (with_reducible assumption) | assumption); obtain ⟨go26, co26, eo26, gb26, gl26, cl26, HG26⟩ := Kd.R_form HO226.out (by omega); (first | cases eo26 | (injection eo26 with ea_ en_ ec_; (first | subst ea_ | (injection ea_ with ea_; subst ea_)); subst ec_; clear en_)); have GB26 := Aside0.mk gb26; have GG26 := Aside0.mk HG26; clear gb26 gl26 HG26; obtain ⟨ce26, hcl26, hM26, hcc26, hfr26⟩ := Kd.R_elem HO226.out z27 (a1 : Int) p26 q26; obtain rfl := k27_openM hM26; have hx26_0 : w34.cell? ⟨go26, (a1 : Int).toNat * 2, none⟩ = some (.int .i64 ((rd_T27 y224 a1).f0)) := hcc26 0 _ rfl; have hx26_1 : w34.cell? ⟨go26, (a1 : Int).toNat * 2 + 1, none⟩ = some (.int .i64 ((rd_T27 y224 a1).f1)) := hcc26 1 _ rfl; have hf26_0 : w34.frozen? ⟨go26, (a1 : Int).toNat * 2, none⟩ = false := hfr26 0; have hf26_1 : w34.frozen? ⟨go26, (a1 : Int).toNat * 2 + 1, none⟩ = false := hfr26 1; clear hcl26 hcc26 hfr26; (try clear hM26); replace p26 := eq_true p26; replace q26 := eq_true q26; have HX36 := Aside0.mk (show Kd.R k27 27 w34 w.heap.size (fun _ => True) (.slice (some ⟨go26, 0, none⟩) y224.length co26) y224 from (by (with_reducible repeat (first | apply Kd.R_alloc | apply Kd.R_drewN | apply Kd.R_drew)); exact HO226.out)); obtain ⟨ce36, hcl36, hM36, hcc36, hfr36⟩ := Kd.R_elem HX36.out z27 (a1 : Int) (of_decide_eq_true (by first | (with_reducible assumption) | assumption)) (by have h_ : (a1 : Int) < ((y224.length : Int) : Int) := of_decide_eq_true (by first | (with_reducible assumption) | assumption); first | exact h_ | (have e_ := (Kd.R_reads' HO226.out).1; omega) | simpa using h_); obtain rfl := k27_openM hM36; have HP36 := Kd.R_seg HX36.out (a1 : Int) (of_decide_eq_true (by first | (with_reducible assumption) | assumption)) (by have h_ : (a1 : Int) < ((y224.length : Int) : Int) := of_decide_eq_true (by first | (with_reducible assumption) | assumption); first | exact h_ | (have e_ := (Kd.R_reads' HO226.out).1; omega) | simpa using h_) (seg := [.int .i64 1, .int .i64 1]) (j := 0) hcl36 hcc36 (show 2 ≤ 2 from by decide) (x' := (⟨1, 1⟩ : S27)) (k27_mkM _ _ _ (⟨1, 1⟩ : S27) ) (fun _ hk => hk); have hx36_0 := hcc36 0 _ rfl; (try simp only [show (k27).sz = 2 from rfl, Nat.mul_one, Nat.add_zero] at hx36_0); have hf36_0 := hfr36 0; (try simp only [show (k27).sz = 2 from rfl, Nat.mul_one, Nat.add_zero] at hf36_0); have hx36_1 := hcc36 1 _ rfl; (try simp only [show (k27).sz = 2 from rfl, Nat.mul_one, Nat.add_zero] at hx36_1); have hf36_1 := hfr36 1; (try simp only [show (k27).sz = 2 from rfl, Nat.mul_one, Nat.add_zero] at hf36_1); clear hcl36 hcc36 hfr36; (try clear hM36)) | ((with_reducible refine gate_store (t := 27) (p := 67) rfl ?_); refine store_event (t := 27) (p := 67) (v := ?vo_w37) (w1 := ((w34.setCell ⟨go26, (a1 : Int).toNat * 2, none⟩ (.int .i64 1)).setCell ⟨go26, (a1 : Int).toNat * 2 + 1, none⟩ (.int .i64 1))) ?hg ?ho ?hn ?hr ?_; (case ho => rfl); (case hg => rfl); (case hn => rfl); (case hr => first | (go_simp; done) | (go_simp; rfl)); intro w37 hw; have hg : w34.grownBy w37 (some go26) := (by rw [hw]; exact HP36.2); have hp_ : Kd.R k27 27 w37 w.heap.size (fun _ => True) (.slice (some ⟨go26, 0, none⟩) y224.length co26) y227 := (by rw [hw, Ny227.out]; exact HP36.1); clear HP36; have n0_ := Aside0.mk (Kd.R_over' (v := (.slice (some ⟨go26, 0, none⟩) y224.length co26)) (by (with_reducible repeat (first | apply Kd.R_alloc | apply Kd.R_drewN | apply Kd.R_drew)); exact HO_7.out) (Kd.R_typed HO226.out) (by decide) hg); have n1_ := Aside0.mk (Kd.S_over' (v := (.slice (some ⟨go26, 0, none⟩) y224.length co26)) (by (with_reducible repeat (first | apply Kd.S_alloc | apply Kd.S_drewN | apply Kd.S_drew)); exact HO_8.out) (Kd.R_typed HO226.out) (by decide) hg); have n2_ := Aside0.mk (Kd.R_over' (v := (.slice (some ⟨go26, 0, none⟩) y224.length co26)) (by (with_reducible repeat (first | apply Kd.R_alloc | apply Kd.R_drewN | apply Kd.R_drew)); exact HO_9.out) (Kd.R_typed HO226.out) (by decide) hg); have n3_ := Aside0.mk (Kd.R_over' (v := (.slice (some ⟨go26, 0, none⟩) y224.length co26)) (by (with_reducible repeat (first | apply Kd.R_alloc | apply Kd.R_drewN | apply Kd.R_drew)); exact HO_27.out) (Kd.R_typed HO226.out) (by decide) hg); have n4_ := Aside0.mk (blk_grown (g := gb207) (o := .cells #[.slice A0_0 l0_0.length c0_0] 30 (0, 0)) (by (with_reducible repeat (first | refine blk_drewN ?_ _ | refine blk_drew ?_ | refine blk_alloc ?_ _)); exact BK207.out) hg (Kd.R_ne HO226.out BK207.out (by decide))); have n5_ := Aside0.mk (Kd.R_over' (v := (.slice (some ⟨go26, 0, none⟩) y224.length co26)) (by (with_reducible repeat (first | apply Kd.R_alloc | apply Kd.R_drewN | apply Kd.R_drew)); exact HO223.out) (Kd.R_typed HO226.out) (by decide) hg); have n6_ := Aside0.mk (hp_); have n7_ := Aside0.mk ((by rw [hw]; exact below_set (below_set (HB.out) GB26.out) GB26.out : Below w.heap.size w w37)); clear HO_7; clear HO_8; clear HO_9; clear HO_27; clear BK207; clear HO223; clear HO226; clear HB; have HO_7 := n0_; have HO_8 := n1_; have HO_9 := n2_; have HO_27 := n3_; have BK207 := n4_; have HO223 := n5_; have HO226 := n6_; have HB := n7_; clear n0_ n1_ n2_ n3_ n4_ n5_ n6_ n7_; clear hg hw hp_; have p29 : 0 ≤ (a2 : Int) := of_decide_eq_true (by first | (with_reducible assumption) | assumption); have q29 : (a2 : Int) < ((y224.length : Int) : Int) := of_decide_eq_true (by first | (with_reducible assumption) | assumption); obtain ⟨ce29, hcl29, hM29, hcc29, hfr29⟩ := Kd.R_elem HO226.out z27 (a2 : Int) p29 q29; obtain rfl := k27_openM hM29; have hx29_0 : w37.cell? ⟨go26, (a2 : Int).toNat * 2, none⟩ = some (.int .i64 ((rd_T27 y227 a2).f0)) := hcc29 0 _ rfl; have hx29_1 : w37.cell? ⟨go26, (a2 : Int).toNat * 2 + 1, none⟩ = some (.int .i64 ((rd_T27 y227 a2).f1)) := hcc29 1 _ rfl; have hf29_0 : w37.frozen? ⟨go26, (a2 : Int).toNat * 2, none⟩ = false := hfr29 0; have hf29_1 : w37.frozen? ⟨go26, (a2 : Int).toNat * 2 + 1, none⟩ = false := hfr29 1; clear hcl29 hcc29 hfr29; (try clear hM29); replace p29 := eq_true p29; replace q29 := eq_true q29; have HX38 := Aside0.mk (show Kd.R k27 27 w37 w.heap.size (fun _ => True) (.slice (some ⟨go26, 0, none⟩) y224.length co26) y227 from (by (with_reducible repeat (first | apply Kd.R_alloc | apply Kd.R_drewN | apply Kd.R_drew)); exact HO226.out)); obtain ⟨ce38, hcl38, hM38, hcc38, hfr38⟩ := Kd.R_elem HX38.out z27 (a2 : Int) (of_decide_eq_true (by first | (with_reducible assumption) | assumption)) (by have h_ : (a2 : Int) < ((y224.length : Int) : Int) := of_decide_eq_true (by first | (with_reducible assumption) | assumption); first | exact h_ | (have e_ := (Kd.R_reads' HO226.out).1; omega) | simpa using h_); obtain rfl := k27_openM hM38; have HP38 := Kd.R_seg HX38.out (a2 : Int) (of_decide_eq_true (by first | (with_reducible assumption) | assumption)) (by have h_ : (a2 : Int) < ((y224.length : Int) : Int) := of_decide_eq_true (by first | (with_reducible assumption) | assumption); first | exact h_ | (have e_ := (Kd.R_reads' HO226.out).1; omega) | simpa using h_) (seg := [.int .i64 0, .int .i64 1]) (j := 0) hcl38 hcc38 (show 2 ≤ 2 from by decide) (x' := (⟨0, 1⟩ : S27)) (k27_mkM _ _ _ (⟨0, 1⟩ : S27) ) (fun _ hk => hk); have hx38_0 := hcc38 0 _ rfl; (try simp only [show (k27).sz = 2 from rfl, Nat.mul_one, Nat.add_zero] at hx38_0); have hf38_0 := hfr38 0; (try simp only [show (k27).sz = 2 from rfl, Nat.mul_one, Nat.add_zero] at hf38_0); have hx38_1 := hcc38 1 _ rfl; (try simp only [show (k27).sz = 2 from rfl, Nat.mul_one, Nat.add_zero] at hx38_1); have hf38_1 := hfr38 1; (try simp only [show (k27).sz = 2 from rfl, Nat.mul_one, Nat.add_zero] at hf38_1); clear hcl38 hcc38 hfr38; (try clear hM38)) | ((with_reducible refine gate_store (t := 27) (p := 71) rfl ?_); refine store_event (t := 27) (p := 71) (v := ?vo_w39) (w1 := ((w37.setCell ⟨go26, (a2 : Int).toNat * 2, none⟩ (.int .i64 0)).setCell ⟨go26, (a2 : Int).toNat * 2 + 1, none⟩ (.int .i64 1))) ?hg ?ho ?hn ?hr ?_; (case ho => rfl); (case hg => rfl); (case hn => rfl); (case hr => first | (go_simp; done) | (go_simp; rfl)); intro w39 hw; have hg : w37.grownBy w39 (some go26) := (by rw [hw]; exact HP38.2); have hp_ : Kd.R k27 27 w39 w.heap.size (fun _ => True) (.slice (some ⟨go26, 0, none⟩) y224.length co26) y228 := (by rw [hw, Ny228.out]; exact HP38.1); clear HP38; have n0_ := Aside0.mk (Kd.R_over' (v := (.slice (some ⟨go26, 0, none⟩) y224.length co26)) (by (with_reducible repeat (first | apply Kd.R_alloc | apply Kd.R_drewN | apply Kd.R_drew)); exact HO_7.out) (Kd.R_typed HO226.out) (by decide) hg); have n1_ := Aside0.mk (Kd.S_over' (v := (.slice (some ⟨go26, 0, none⟩) y224.length co26)) (by (with_reducible repeat (first | apply Kd.S_alloc | apply Kd.S_drewN | apply Kd.S_drew)); exact HO_8.out) (Kd.R_typed HO226.out) (by decide) hg); have n2_ := Aside0.mk (Kd.R_over' (v := (.slice (some ⟨go26, 0, none⟩) y224.length co26)) (by (with_reducible repeat (first | apply Kd.R_alloc | apply Kd.R_drewN | apply Kd.R_drew)); exact HO_9.out) (Kd.R_typed HO226.out) (by decide) hg); have n3_ := Aside0.mk (Kd.R_over' (v := (.slice (some ⟨go26, 0, none⟩) y224.length co26)) (by (with_reducible repeat (first | apply Kd.R_alloc | apply Kd.R_drewN | apply Kd.R_drew)); exact HO_27.out) (Kd.R_typed HO226.out) (by decide) hg); have n4_ := Aside0.mk (blk_grown (g := gb207) (o := .cells #[.slice A0_0 l0_0.length c0_0] 30 (0, 0)) (by (with_reducible repeat (first | refine blk_drewN ?_ _ | refine blk_drew ?_ | refine blk_alloc ?_ _)); exact BK207.out) hg (Kd.R_ne HO226.out BK207.out (by decide))); have n5_ := Aside0.mk (Kd.R_over' (v := (.slice (some ⟨go26, 0, none⟩) y224.length co26)) (by (with_reducible repeat (first | apply Kd.R_alloc | apply Kd.R_drewN | apply Kd.R_drew)); exact HO223.out) (Kd.R_typed HO226.out) (by decide) hg); have n6_ := Aside0.mk (hp_); have n7_ := Aside0.mk ((by rw [hw]; exact below_set (below_set (HB.out) GB26.out) GB26.out : Below w.heap.size w w39)); clear HO_7; clear HO_8; clear HO_9; clear HO_27; clear BK207; clear HO223; clear HO226; clear HB; have HO_7 := n0_; have HO_8 := n1_; have HO_9 := n2_; have HO_27 := n3_; have BK207 := n4_; have HO223 := n5_; have HO226 := n6_; have HB := n7_; clear n0_ n1_ n2_ n3_ n4_ n5_ n6_ n7_; clear hg hw hp_))
                    go_loopg [74] k1 (fun kq v74 w' => ∃ (x17_2 : List (S27)) (x74_2 : Int), v74 = .int .i64 x74_2 ∧ Aside0 (spec_hiChances.l2 kq t220 t221 x17_2 t208 (t208.length : Int) x74_2 = some r) ∧ Aside0 (kq ≤ k1) ∧ Aside0 (Kd.R (Kd.int .i64) 3 w' w.heap.size (fun k_ => some k_ ≠ ((.slice Ao8 t208.length co8) : Value).ownBlock) v222 t220) ∧ Aside0 (Kd.R k27 27 w' w.heap.size (fun _ => True) (.slice (some ⟨go26, 0, none⟩) y224.length co26) x17_2) ∧ Aside0 (Kd.R (Kd.int .i64) 3 w' w.heap.size (fun k_ => some k_ ≠ (v222 : Value).ownBlock) (.slice Ao8 t208.length co8) t208) ∧ Aside0 (w'.heap[gb207]? = some (.cells #[(.slice A0_0 l0_0.length c0_0)] 30 (0, 0))) ∧ Aside0 (Below w.heap.size w w'))
                    case atStart => exact ⟨(y228), (0), (by first | rfl | (simp; done) | (simp [*]; done)), H', ⟨Nat.le_refl _⟩, ⟨by (with_reducible repeat (first | apply Kd.R_alloc | apply Kd.R_drewN | apply Kd.R_drew)); exact Kd.R_mono HO223.out (fun _ hk => hk.1.1.2)⟩, ⟨by (with_reducible repeat (first | apply Kd.R_alloc | apply Kd.R_drewN | apply Kd.R_drew)); exact HO226.out⟩, ⟨by (with_reducible repeat (first | apply Kd.R_alloc | apply Kd.R_drewN | apply Kd.R_drew)); exact Kd.R_mono HO_7.out (fun _ hk => hk.2)⟩, ⟨by (with_reducible repeat (first | refine blk_drewN ?_ _ | refine blk_drew ?_ | refine blk_alloc ?_ _)); exact BK207.out⟩, ⟨by repeat (first | (with_reducible first | exact HB.out | apply below_alloc | apply pw_below_drewN | apply below_drew1 | refine below_set ?_ GE207.out) | exact HB.out)⟩⟩
                    case round =>
                      clear H'
                      try clear c1
                      try clear c2
                      try clear p2
                      try clear q2
                      try clear hx2
                      try clear c3
                      try clear hx3
                      try clear hf3
                      try clear p6
                      try clear c8
                      try clear c9
                      try clear c9b0
                      try clear c10
                      try clear c10b0
                      try clear c11
                      try clear c11b0
                      try clear c12
                      try clear c12b0
                      try clear c13
                      try clear c13b0
                      try clear c15
                      try clear c15b0
                      try clear c16
                      try clear c16b0
                      try clear c17
                      try clear c17b0
                      try clear c18
                      try clear c18b0
                      try clear c18b1
                      try clear c19
                      try clear c21
                      try clear p21
                      try clear q21
                      try clear hx21
                      try clear c22
                      try clear c22b0
                      try clear c22b1
                      try clear c23
                      try clear c23b0
                      try clear c23b1
                      try clear c24
                      try clear c24b0
                      try clear c25
                      try clear c25b0
                      try clear c26
                      try clear p26
                      try clear q26
                      try clear hx26
                      try clear hf26
                      try clear c27
                      try clear c27b0
                      try clear c28
                      try clear c28b0
                      try clear c29
                      try clear p29
                      try clear q29
                      try clear hx29
                      try clear hf29
                      try clear c36
                      try clear hx36
                      try clear hf36
                      try clear c38
                      try clear hx38
                      try clear hf38
                      try clear hcz14_0
                      try clear hcz33_0
                      try clear hcz6_0
                      try clear hfz14_0
                      try clear hfz33_0
                      try clear hfz6_0
                      try clear hx214_0
                      try clear hx215_0
                      try clear hx216_0
                      try clear hx26_0
                      try clear hx26_1
                      try clear hx29_0
                      try clear hx29_1
                      try clear hx36_0
                      try clear hx36_1
                      try clear hx38_0
                      try clear hx38_1
                      try clear p2
                      try clear p214
                      try clear p215
                      try clear p216
                      try clear p26
                      try clear p29
                      try clear q2
                      try clear q214
                      try clear q215
                      try clear q216
                      try clear q26
                      try clear q29
                      obtain ⟨x17_2, x74_2, rfl, HA, HK2, HO_15, HO_17, HO_72, BK207, HB⟩ := hrel
                      have hl17_2 := (Kd.R_reads' HO_17.out).1
                      rw [hl17_2] at HO_17
                      (try simp only [hl17_2])
                      (try simp only [hl17_2] at BK207)
                      (try simp only [hl17_2] at HO_15)
                      (try simp only [hl17_2] at HO_72)
                      cases gk with
                      | zero => exact absurd HA.out (by simp [spec_hiChances.l2])
                      | succ k2 =>
                        have H := HA.out
                        clear HA
                        simp only [spec_hiChances.l2] at H
                        by_cases c40 : x74_2 < (t208.length : Int)
                        · rw [if_pos c40] at H
                          have c40b0 : decide (x74_2 < (t208.length : Int)) = true := decide_eq_true c40
                          clear c40
                          by_cases c41 : 0 ≤ x74_2
                          · rw [if_pos c41] at H
                            have c41b0 : decide (0 ≤ x74_2) = true := decide_eq_true c41
                            clear c41
                            by_cases c42 : x74_2 < (t208.length : Int)
                            · rw [if_pos c42] at H
                              have c42b0 : decide (x74_2 < (t208.length : Int)) = true := decide_eq_true c42
                              clear c42
                              by_cases c43 : x74_2 < (t220.length : Int)
                              · rw [if_pos c43] at H
                                have c43b0 : decide (x74_2 < (t220.length : Int)) = true := decide_eq_true c43
                                clear c43
                                replace H := Option.bind_eq_some_iff.mp H
                                obtain ⟨⟨t231, t232⟩, A440, H⟩ := H
                                replace H : (if 0 ≤ (rd t208 x74_2) then (if (rd t208 x74_2) < (x17_2.length : Int) then (spec_hiChances.l2 k2 t220 t221 (x17_2.set ((rd t208 x74_2) : Int).toNat (⟨t231, t232⟩ : S27)) t208 (t208.length : Int) (wrap64 (x74_2 + 1))) else (none)) else (none)) = some r := H
                                have A44 := Aside0.mk A440
                                clear A440
                                by_cases c45 : 0 ≤ (rd t208 x74_2)
                                · rw [if_pos c45] at H
                                  have c45b0 : decide (0 ≤ (rd t208 x74_2)) = true := decide_eq_true c45
                                  clear c45
                                  by_cases c46 : (rd t208 x74_2) < (x17_2.length : Int)
                                  · rw [if_pos c46] at H
                                    have c46b0 : decide ((rd t208 x74_2) < (x17_2.length : Int)) = true := decide_eq_true c46
                                    clear c46
                                    obtain ⟨y233, hy233⟩ : ∃ y_ : List (S27), y_ = (x17_2.set ((rd t208 x74_2) : Int).toNat (⟨t231, t232⟩ : S27)) := ⟨_, rfl⟩
                                    replace H : (spec_hiChances.l2 k2 t220 t221 y233 t208 (t208.length : Int) (wrap64 (x74_2 + 1))) = some r := by first | (rw [hy233]; with_reducible exact H) | (have H2_ := (Option.bind_some _ _).symm.trans H; rw [hy233]; with_reducible exact H2_) | (have H2_ := (Option.bind_some _ _).symm.trans H; with_reducible exact H2_) | with_reducible exact H | (rw [hy233]; exact H) | exact H
                                    have Ny233 := Aside0.mk hy233
                                    clear hy233
                                    have H' := Aside0.mk H
                                    clear H
                                    have p229 : 0 ≤ (x74_2 : Int) := of_decide_eq_true (by first | (with_reducible assumption) | assumption)
                                    have q229 : x74_2 < (t208.length : Int) := of_decide_eq_true (by first | (with_reducible assumption) | assumption)
                                    obtain ⟨ad229, e229, hx229_0⟩ := Kd.at_int (Kd.R_reads' HO_72.out).2.2 x74_2 p229 q229
                                    cases e229
                                    replace p229 := eq_true p229
                                    replace q229 := eq_true q229
                                    obtain ⟨Ao48, co48, eo48⟩ := Kd.R_slice HO_15.out
                                    subst eo48
                                    have p230 : 0 ≤ (x74_2 : Int) := of_decide_eq_true (by first | (with_reducible assumption) | assumption)
                                    have q230 : x74_2 < (t220.length : Int) := of_decide_eq_true (by first | (with_reducible assumption) | assumption)
                                    obtain ⟨ad230, e230, hx230_0⟩ := Kd.at_int (Kd.R_reads' HO_15.out).2.2 x74_2 p230 q230
                                    cases e230
                                    replace p230 := eq_true p230
                                    replace q230 := eq_true q230
                                    go_wp2_with (first | ((with_reducible refine gate_callee (f := 74) rfl ?_); refine goesL_ (some 86) rfl rfl Try.func74 (by kernel_rfl) rfl #[.int .i64 (rd t220 x74_2), .int .i64 t221] rfl (by (try simp only [List.map_toArray, List.map_cons, List.map_nil]); first | done | rfl | (simp only [List.length_drop, List.length_take]; rfl)) ?_; (with_reducible refine (spec_hiRatio.calls k2 (rd t220 x74_2) t221 t231 t232 _ A44.out).mono ?_); rintro e w49 ⟨rfl, hb⟩; refine ⟨_, rfl, ?_⟩; have n0_ := Aside0.mk (Kd.R_below (by (with_reducible repeat (first | apply Kd.R_alloc | apply Kd.R_drewN | apply Kd.R_drew)); exact HO_15.out) hb); have n1_ := Aside0.mk (Kd.R_below (by (with_reducible repeat (first | apply Kd.R_alloc | apply Kd.R_drewN | apply Kd.R_drew)); exact HO_17.out) hb); have n2_ := Aside0.mk (Kd.R_below (by (with_reducible repeat (first | apply Kd.R_alloc | apply Kd.R_drewN | apply Kd.R_drew)); exact HO_72.out) hb); have n3_ := Aside0.mk (blk_below (g := gb207) (o := .cells #[.slice A0_0 l0_0.length c0_0] 30 (0, 0)) (by (with_reducible repeat (first | refine blk_drewN ?_ _ | refine blk_drew ?_ | refine blk_alloc ?_ _)); exact BK207.out) hb); have n4_ := Aside0.mk (below_step (by repeat (first | (with_reducible first | exact HB.out | apply below_alloc | apply pw_below_drewN | apply below_drew1 | refine below_set ?_ GE207.out) | exact HB.out)) hb); clear HO_15; clear HO_17; clear HO_72; clear BK207; clear HB; have HO_15 := n0_; have HO_17 := n1_; have HO_72 := n2_; have BK207 := n3_; have HB := n4_; clear n0_ n1_ n2_ n3_ n4_; (try clear hb); (try clear hb2); (try clear hk); (try clear hi); have p47 : 0 ≤ ((rd t208 x74_2) : Int) := of_decide_eq_true (by first | (with_reducible assumption) | assumption); have q47 : ((rd t208 x74_2) : Int) < ((x17_2.length : Int) : Int) := of_decide_eq_true (by first | (with_reducible assumption) | assumption); obtain ⟨ce47, hcl47, hM47, hcc47, hfr47⟩ := Kd.R_elem HO_17.out z27 ((rd t208 x74_2) : Int) p47 q47; obtain rfl := k27_openM hM47; have hx47_0 : w49.cell? ⟨go26, ((rd t208 x74_2) : Int).toNat * 2, none⟩ = some (.int .i64 ((rd_T27 x17_2 (rd t208 x74_2)).f0)) := hcc47 0 _ rfl; have hx47_1 : w49.cell? ⟨go26, ((rd t208 x74_2) : Int).toNat * 2 + 1, none⟩ = some (.int .i64 ((rd_T27 x17_2 (rd t208 x74_2)).f1)) := hcc47 1 _ rfl; have hf47_0 : w49.frozen? ⟨go26, ((rd t208 x74_2) : Int).toNat * 2, none⟩ = false := hfr47 0; have hf47_1 : w49.frozen? ⟨go26, ((rd t208 x74_2) : Int).toNat * 2 + 1, none⟩ = false := hfr47 1; clear hcl47 hcc47 hfr47; (try clear hM47); replace p47 := eq_true p47; replace q47 := eq_true q47; have HX50 := Aside0.mk (show Kd.R k27 27 w49 w.heap.size (fun _ => True) (.slice (some ⟨go26, 0, none⟩) x17_2.length co26) x17_2 from (by (with_reducible repeat (first | apply Kd.R_alloc | apply Kd.R_drewN | apply Kd.R_drew)); exact HO_17.out)); obtain ⟨ce50, hcl50, hM50, hcc50, hfr50⟩ := Kd.R_elem HX50.out z27 ((rd t208 x74_2) : Int) (of_decide_eq_true (by first | (with_reducible assumption) | assumption)) (by have h_ : ((rd t208 x74_2) : Int) < ((x17_2.length : Int) : Int) := of_decide_eq_true (by first | (with_reducible assumption) | assumption); first | exact h_ | (have e_ := (Kd.R_reads' HO_17.out).1; omega) | simpa using h_); obtain rfl := k27_openM hM50; have HP50 := Kd.R_seg HX50.out ((rd t208 x74_2) : Int) (of_decide_eq_true (by first | (with_reducible assumption) | assumption)) (by have h_ : ((rd t208 x74_2) : Int) < ((x17_2.length : Int) : Int) := of_decide_eq_true (by first | (with_reducible assumption) | assumption); first | exact h_ | (have e_ := (Kd.R_reads' HO_17.out).1; omega) | simpa using h_) (seg := [.int .i64 t231, .int .i64 t232]) (j := 0) hcl50 hcc50 (show 2 ≤ 2 from by decide) (x' := (⟨t231, t232⟩ : S27)) (k27_mkM _ _ _ (⟨t231, t232⟩ : S27) ) (fun _ hk => hk); have hx50_0 := hcc50 0 _ rfl; (try simp only [show (k27).sz = 2 from rfl, Nat.mul_one, Nat.add_zero] at hx50_0); have hf50_0 := hfr50 0; (try simp only [show (k27).sz = 2 from rfl, Nat.mul_one, Nat.add_zero] at hf50_0); have hx50_1 := hcc50 1 _ rfl; (try simp only [show (k27).sz = 2 from rfl, Nat.mul_one, Nat.add_zero] at hx50_1); have hf50_1 := hfr50 1; (try simp only [show (k27).sz = 2 from rfl, Nat.mul_one, Nat.add_zero] at hf50_1); clear hcl50 hcc50 hfr50; (try clear hM50)) | ((with_reducible refine gate_store (t := 27) (p := 87) rfl ?_); refine store_event (t := 27) (p := 87) (v := ?vo_w51) (w1 := ((w49.setCell ⟨go26, ((rd t208 x74_2) : Int).toNat * 2, none⟩ (.int .i64 t231)).setCell ⟨go26, ((rd t208 x74_2) : Int).toNat * 2 + 1, none⟩ (.int .i64 t232))) ?hg ?ho ?hn ?hr ?_; (case ho => rfl); (case hg => rfl); (case hn => rfl); (case hr => first | (go_simp; done) | (go_simp; rfl)); intro w51 hw; have hg : w49.grownBy w51 (some go26) := (by rw [hw]; exact HP50.2); have hp_ : Kd.R k27 27 w51 w.heap.size (fun _ => True) (.slice (some ⟨go26, 0, none⟩) x17_2.length co26) y233 := (by rw [hw, Ny233.out]; exact HP50.1); clear HP50; have n0_ := Aside0.mk (Kd.R_over' (v := (.slice (some ⟨go26, 0, none⟩) x17_2.length co26)) (by (with_reducible repeat (first | apply Kd.R_alloc | apply Kd.R_drewN | apply Kd.R_drew)); exact HO_15.out) (Kd.R_typed HO_17.out) (by decide) hg); have n1_ := Aside0.mk (hp_); have n2_ := Aside0.mk (Kd.R_over' (v := (.slice (some ⟨go26, 0, none⟩) x17_2.length co26)) (by (with_reducible repeat (first | apply Kd.R_alloc | apply Kd.R_drewN | apply Kd.R_drew)); exact HO_72.out) (Kd.R_typed HO_17.out) (by decide) hg); have n3_ := Aside0.mk (blk_grown (g := gb207) (o := .cells #[.slice A0_0 l0_0.length c0_0] 30 (0, 0)) (by (with_reducible repeat (first | refine blk_drewN ?_ _ | refine blk_drew ?_ | refine blk_alloc ?_ _)); exact BK207.out) hg (Kd.R_ne HO_17.out BK207.out (by decide))); have n4_ := Aside0.mk ((by rw [hw]; exact below_set (below_set (HB.out) GB26.out) GB26.out : Below w.heap.size w w51)); clear HO_15; clear HO_17; clear HO_72; clear BK207; clear HB; have HO_15 := n0_; have HO_17 := n1_; have HO_72 := n2_; have BK207 := n3_; have HB := n4_; clear n0_ n1_ n2_ n3_ n4_; clear hg hw hp_))
                                    (try simp only [← hl17_2])
                                    go_roundg k2
                                    case measure => have := HK1.out; have := HK2.out; omega
                                    case rel => exact ⟨(y233), (wrap64 (x74_2 + 1)), (by first | rfl | (simp; done) | (simp [*]; done)), H', ⟨by have := HK1.out; have := HK2.out; omega⟩, ⟨by (try simp only [hl17_2]); (with_reducible repeat (first | apply Kd.R_alloc | apply Kd.R_drewN | apply Kd.R_drew)); exact HO_15.out⟩, ⟨by (try simp only [hl17_2]); (with_reducible repeat (first | apply Kd.R_alloc | apply Kd.R_drewN | apply Kd.R_drew)); exact HO_17.out⟩, ⟨by (try simp only [hl17_2]); (with_reducible repeat (first | apply Kd.R_alloc | apply Kd.R_drewN | apply Kd.R_drew)); exact HO_72.out⟩, ⟨by (try simp only [hl17_2]); (with_reducible repeat (first | refine blk_drewN ?_ _ | refine blk_drew ?_ | refine blk_alloc ?_ _)); exact BK207.out⟩, ⟨by repeat (first | (with_reducible first | exact HB.out | apply below_alloc | apply pw_below_drewN | apply below_drew1 | refine below_set ?_ GE207.out) | exact HB.out)⟩⟩
                                  · rw [if_neg c46] at H
                                    exact absurd H (by simp)
                                · rw [if_neg c45] at H
                                  exact absurd H (by simp)
                              · rw [if_neg c43] at H
                                exact absurd H (by simp)
                            · rw [if_neg c42] at H
                              exact absurd H (by simp)
                          · rw [if_neg c41] at H
                            exact absurd H (by simp)
                        · rw [if_neg c40] at H
                          have c40b0 : decide (x74_2 < (t208.length : Int)) = false := decide_eq_false c40
                          clear c40
                          obtain rfl := Option.some.inj H
                          go_wp2
                          go_ret
                          exact ⟨_, by first | rfl | (simp [errW_none, errW_some] <;> rfl) | (simp [*, errW_none, errW_some] <;> rfl), by (with_reducible repeat (first | apply Kd.R_alloc | apply Kd.R_drewN | apply Kd.R_drew)); exact HO_17.out, by repeat (first | (with_reducible first | exact HB.out | apply below_alloc | apply pw_below_drewN | apply below_drew1 | refine below_set ?_ GE207.out) | exact HB.out)⟩
                  · rw [if_neg c28] at H
                    exact absurd H (by simp)
                · rw [if_neg c27] at H
                  exact absurd H (by simp)
              · rw [if_neg c25] at H
                exact absurd H (by simp)
            · rw [if_neg c24] at H
              exact absurd H (by simp)
          · rw [if_neg c23] at H
            exact absurd H (by simp)
        · rw [if_neg c22] at H
          exact absurd H (by simp)
end Go.Proofs.Ytnbnalbomflafaa.GT
/-! ## GT3 -/
namespace Go.Proofs.Ytnbnalbomflafaa.GT
open Go.RowKit Go.Proofs.YtnbnalbomflafaaW.PrintWords Go.Proofs.YtnbnalbomflafaaW.PrintLast Go.Proofs.YtnbnalbomflafaaW.PrintMore
open Go.Proofs.Ytnbnalbomflafaa.GA Go.Proofs.Ytnbnalbomflafaa.GB Go.Proofs.Ytnbnalbomflafaa.GD Go.Proofs.Ytnbnalbomflafaa.KA Go.Proofs.Ytnbnalbomflafaa.GR Go.Proofs.Ytnbnalbomflafaa.GQ Go.Proofs.Ytnbnalbomflafaa.DT
attribute [local go_sem] RA.field80_0 RA.field80_1 RA.field80_2 max2_int min2_int max_two min_two max_three min_three max_four min_four   -- for this text's walks alone
set_option linter.unusedVariables false
set_option linter.unusedSimpArgs false
mutual
def spec_hiBound.l0 : Nat → Int → List (S27) → Int → List Int → Int → Int → List (List Int) → Option (Int × Int)
  | 0, _, _, _, _, _, _, _ => none
  | k + 1, x9, x10, x11, x32, x33, x34, x248000 => if x34 < x33 then (if 0 ≤ x34 then (if x34 < (x32.length : Int) then (if 0 ≤ (rd x32 x34) then (if (rd x32 x34) < (x248000.length : Int) then (spec_hiBound.l1 k x9 x10 x11 (rd x32 x34) x32 x33 x34 (rd_L1 x248000 (rd x32 x34)) ((rd_L1 x248000 (rd x32 x34)).length : Int) 0 x248000) else (none)) else (none)) else (none)) else (none)) else ((spec_hiRatio.f k x11 x9).bind fun bt260 => (some (bt260.1, bt260.2)))
def spec_hiBound.l1 : Nat → Int → List (S27) → Int → Int → List Int → Int → Int → List Int → Int → Int → List (List Int) → Option (Int × Int)
  | 0, _, _, _, _, _, _, _, _, _, _, _ => none
  | k + 1, x9, x10, x11, x13, x32, x33, x34, x42, x43, x44, x248000 => if x44 < x43 then (if 0 ≤ x44 then (if x44 < (x42.length : Int) then (if 0 ≤ x13 then (if x13 < (x10.length : Int) then (if ((rd_T27 x10 x13).f1) = 0 then (none) else (if 0 ≤ (rd x42 x44) then (if (rd x42 x44) < (x10.length : Int) then (if ((rd_T27 x10 (rd x42 x44)).f1) = 0 then (none) else ((spec_l1Abs.f (wrap64 ((wrap64 (((rd_T27 x10 x13).f0) * (wrap64 (Int.tdiv x9 ((rd_T27 x10 x13).f1))))) - (wrap64 (((rd_T27 x10 (rd x42 x44)).f0) * (wrap64 (Int.tdiv x9 ((rd_T27 x10 (rd x42 x44)).f1)))))))).bind fun t269 => (spec_hiBound.l1 k x9 x10 (wrap64 (x11 + t269)) x13 x32 x33 x34 x42 x43 (wrap64 (x44 + 1)) x248000))) else (none)) else (none))) else (none)) else (none)) else (none)) else (none)) else (spec_hiBound.l0 k x9 x10 x11 x32 x33 (wrap64 (x34 + 1)) x248000)
end
def spec_hiBound.f (k : Nat) (l0_0 : List (List Int)) (a1 : Int) (a2 : Int) : Option (Int × Int) := (spec_hiMatrix.f l0_0 a1 a2).bind fun bt249 => ((spec_trDet.f k bt249.2).bind fun t255 => ((spec_l1Abs.f t255).bind fun t256 => ((spec_hiChances.f k l0_0 a1 a2).bind fun t257 => (spec_hiBound.l0 k t256 t257 t256 bt249.1 (bt249.1.length : Int) 0 l0_0))))
set_option maxHeartbeats 8000000 in
set_option maxRecDepth 100000 in
theorem spec_hiBound.calls (k : Nat) (A0_0 : Option Addr) (c0_0 : Nat) (l0_0 : List (List Int)) (a1 : Int) (a2 : Int) (r1 : Int) (r2 : Int) (w : World) (hr0_0 : Kd.C (Kd.slice 3 (Kd.int .i64)) w A0_0 l0_0.length l0_0) (hc0_0 : l0_0.length ≤ c0_0) (h : spec_hiBound.f k l0_0 a1 a2 = some (r1, r2)) :
    Calls Try.prog 94 #[.agg #[.slice A0_0 l0_0.length c0_0], .int .i64 a1, .int .i64 a2] w fun e w' => e = .returned (.agg #[.int .i64 r1, .int .i64 r2]) ∧ Below w.heap.size w w' := by
  have hu30 := Try.underlying30
  have hu27 := Try.underlying27
  have HR0_0 := Aside0.mk hr0_0
  have HC0_0 := Aside0.mk hc0_0
  clear hr0_0 hc0_0
  have HB := Aside0.mk (Below.refl w.heap.size w)
  have H : ((spec_hiMatrix.f l0_0 a1 a2).bind fun bt249 => ((spec_trDet.f k bt249.2).bind fun t255 => ((spec_l1Abs.f t255).bind fun t256 => ((spec_hiChances.f k l0_0 a1 a2).bind fun t257 => (spec_hiBound.l0 k t256 t257 t256 bt249.1 (bt249.1.length : Int) 0 l0_0))))) = some (r1, r2) := h
  clear h
  replace H := Option.bind_eq_some_iff.mp H
  obtain ⟨⟨t249, t252⟩, A40, H⟩ := H
  replace H : ((spec_trDet.f k t252).bind fun t255 => ((spec_l1Abs.f t255).bind fun t256 => ((spec_hiChances.f k l0_0 a1 a2).bind fun t257 => (spec_hiBound.l0 k t256 t257 t256 t249 (t249.length : Int) 0 l0_0)))) = some (r1, r2) := H
  have A4 := Aside0.mk A40
  clear A40
  replace H := Option.bind_eq_some_iff.mp H
  obtain ⟨t255, A50, H⟩ := H
  replace H : ((spec_l1Abs.f t255).bind fun t256 => ((spec_hiChances.f k l0_0 a1 a2).bind fun t257 => (spec_hiBound.l0 k t256 t257 t256 t249 (t249.length : Int) 0 l0_0))) = some (r1, r2) := H
  have A5 := Aside0.mk A50
  clear A50
  replace H := Option.bind_eq_some_iff.mp H
  obtain ⟨t256, A60, H⟩ := H
  replace H : ((spec_hiChances.f k l0_0 a1 a2).bind fun t257 => (spec_hiBound.l0 k t256 t257 t256 t249 (t249.length : Int) 0 l0_0)) = some (r1, r2) := H
  have A6 := Aside0.mk A60
  clear A60
  replace H := Option.bind_eq_some_iff.mp H
  obtain ⟨t257, A70, H⟩ := H
  replace H : (spec_hiBound.l0 k t256 t257 t256 t249 (t249.length : Int) 0 l0_0) = some (r1, r2) := H
  have A7 := Aside0.mk A70
  clear A70
  have H' := Aside0.mk H
  clear H
  go_enter Try.func94, Try.ntmps94
  go_wp2_with (first | ((with_reducible refine gate_dst (N := 3) rfl ?_); refine box_event ?hg (N := 3) ?hd (cs := #[.slice A0_0 l0_0.length c0_0]) (t := 30) ?hr ?_; (case hd => rfl); (case hg => rfl); (case hr => first | (go_simp; done) | (go_simp; rfl)); intro gb247 hg w8 hbox hb; have n0_ := Aside0.mk (below_step (by repeat (first | (with_reducible first | exact HB.out | apply below_alloc | apply pw_below_drewN | apply below_drew1) | exact HB.out)) hb); have n1_ := Aside0.mk (hbox); have n2_ := Aside0.mk ((by rw [hg]; exact (below_size (by repeat (first | (with_reducible first | exact HB.out | apply below_alloc | apply pw_below_drewN | apply below_drew1) | exact HB.out))) : w.heap.size ≤ gb247)); have n3_ := Aside0.mk ((by rw [hg]; exact (below_size (by repeat (first | (with_reducible first | exact HB.out | apply below_alloc | apply pw_below_drewN | apply below_drew1) | exact HB.out))) : w.heap.size ≤ gb247)); clear HB; have HB := n0_; have BK247 := n1_; have GW247 := n2_; have GE247 := n3_; clear n0_ n1_ n2_ n3_; clear hb hbox hg) | ((with_reducible refine gate_dst (N := 6) rfl ?_); refine box_event ?hg (N := 6) ?hd (cs := #[.int .i64 0, .int .i64 0]) (t := 27) ?hr ?_; (case hd => rfl); (case hg => rfl); (case hr => first | (go_simp; done) | (go_simp; rfl)); intro gb248 hg w9 hbox hb; have n0_ := Aside0.mk (blk_below (g := gb247) (o := .cells #[.slice A0_0 l0_0.length c0_0] 30 (0, 0)) (by (with_reducible repeat (first | refine blk_drewN ?_ _ | refine blk_drew ?_ | refine blk_alloc ?_ _)); exact BK247.out) hb); have n1_ := Aside0.mk (below_step (by repeat (first | (with_reducible first | exact HB.out | apply below_alloc | apply pw_below_drewN | apply below_drew1 | refine below_set ?_ GE247.out) | exact HB.out)) hb); have n2_ := Aside0.mk (hbox); have n3_ := Aside0.mk ((by rw [hg]; exact (below_size (by repeat (first | (with_reducible first | exact HB.out | apply below_alloc | apply pw_below_drewN | apply below_drew1 | refine below_set ?_ GE247.out) | exact HB.out))) : w.heap.size ≤ gb248)); have n4_ := Aside0.mk ((by rw [hg]; exact (below_size (by repeat (first | (with_reducible first | exact HB.out | apply below_alloc | apply pw_below_drewN | apply below_drew1 | refine below_set ?_ GE247.out) | exact HB.out))) : w.heap.size ≤ gb248)); have n5_ := Aside0.mk ((by rw [hg]; exact Nat.ne_of_lt (blk_lt (g := gb247) (o := .cells #[.slice A0_0 l0_0.length c0_0] 30 (0, 0)) (by (with_reducible repeat (first | refine blk_drewN ?_ _ | refine blk_drew ?_ | refine blk_alloc ?_ _)); exact BK247.out)) : gb247 ≠ gb248)); have n6_ := Aside0.mk ((by rw [hg]; exact Nat.ne_of_gt (blk_lt (g := gb247) (o := .cells #[.slice A0_0 l0_0.length c0_0] 30 (0, 0)) (by (with_reducible repeat (first | refine blk_drewN ?_ _ | refine blk_drew ?_ | refine blk_alloc ?_ _)); exact BK247.out)) : gb248 ≠ gb247)); clear BK247; clear HB; have BK247 := n0_; have HB := n1_; have BK248 := n2_; have GW248 := n3_; have GE248 := n4_; have NB247_248 := n5_; have NB248_247 := n6_; clear n0_ n1_ n2_ n3_ n4_ n5_ n6_; clear hb hbox hg; have hnb10 := NB247_248.out; have hnc10 := NB248_247.out; have hcz11_0 : w9.cell? ⟨gb247, 0, none⟩ = some (.slice A0_0 l0_0.length c0_0) := (blk_cell BK247.out 0).trans rfl; have hfz11_0 := blk_frozen BK247.out 0) | (go_at_call 88; (with_reducible refine (spec_hiMatrix.calls _ _ l0_0 a1 a2 t249 t252 _ ?side1 ?side2 A4.out).mono ?_); (case side1 => repeat (first | exact (Kd.C_below HR0_0.out HB.out) | (with_reducible refine Kd.C_alloc ?_ _) | (with_reducible refine Kd.C_drewN ?_ _) | (with_reducible refine Kd.C_drew ?_))); (case side2 => exact HC0_0.out); rintro e w12 ⟨v250, v253, rfl, ho0, ho1, hb⟩; have n0_ := Aside0.mk (Kd.R_lower ho0 (below_size (by repeat (first | (with_reducible first | exact HB.out | apply below_alloc | apply pw_below_drewN | apply below_drew1 | refine below_set ?_ GE247.out | refine below_set ?_ GE248.out) | exact HB.out)))); have n1_ := Aside0.mk (Kd.S_lower ho1 (below_size (by repeat (first | (with_reducible first | exact HB.out | apply below_alloc | apply pw_below_drewN | apply below_drew1 | refine below_set ?_ GE247.out | refine below_set ?_ GE248.out) | exact HB.out)))); have n2_ := Aside0.mk (blk_below (g := gb247) (o := .cells #[.slice A0_0 l0_0.length c0_0] 30 (0, 0)) (by (with_reducible repeat (first | refine blk_drewN ?_ _ | refine blk_drew ?_ | refine blk_alloc ?_ _)); exact BK247.out) hb); have n3_ := Aside0.mk (blk_below (g := gb248) (o := .cells #[.int .i64 0, .int .i64 0] 27 (0, 0)) (by (with_reducible repeat (first | refine blk_drewN ?_ _ | refine blk_drew ?_ | refine blk_alloc ?_ _)); exact BK248.out) hb); have n4_ := Aside0.mk (below_step (by repeat (first | (with_reducible first | exact HB.out | apply below_alloc | apply pw_below_drewN | apply below_drew1 | refine below_set ?_ GE247.out | refine below_set ?_ GE248.out) | exact HB.out)) hb); clear BK247; clear BK248; clear HB; have HO251 := n0_; have HO254 := n1_; have BK247 := n2_; have BK248 := n3_; have HB := n4_; clear n0_ n1_ n2_ n3_ n4_; (try clear hb); (try clear hb2); (try clear hk); (try clear hi); (try clear ho0); (try clear ho1); obtain ⟨Ao13, co13, eo13⟩ := Kd.S_slice HO254.out; subst eo13) | (go_at_call 116; (with_reducible refine (spec_trDet.calls k _ _ t252 t255 _ ?side1 ?side2 A5.out).mono ?_); (case side1 => repeat (first | exact (Kd.S_reads' HO254.out).2.2 | (with_reducible refine Kd.C_alloc ?_ _) | (with_reducible refine Kd.C_drewN ?_ _) | (with_reducible refine Kd.C_drew ?_))); (case side2 => exact (Kd.S_reads' HO254.out).2.1); rintro e w14 ⟨rfl, hb⟩; have n0_ := Aside0.mk (Kd.R_below (by (with_reducible repeat (first | apply Kd.R_alloc | apply Kd.R_drewN | apply Kd.R_drew)); exact HO251.out) hb); have n1_ := Aside0.mk (Kd.S_below (by (with_reducible repeat (first | apply Kd.S_alloc | apply Kd.S_drewN | apply Kd.S_drew)); exact HO254.out) hb); have n2_ := Aside0.mk (blk_below (g := gb247) (o := .cells #[.slice A0_0 l0_0.length c0_0] 30 (0, 0)) (by (with_reducible repeat (first | refine blk_drewN ?_ _ | refine blk_drew ?_ | refine blk_alloc ?_ _)); exact BK247.out) hb); have n3_ := Aside0.mk (blk_below (g := gb248) (o := .cells #[.int .i64 0, .int .i64 0] 27 (0, 0)) (by (with_reducible repeat (first | refine blk_drewN ?_ _ | refine blk_drew ?_ | refine blk_alloc ?_ _)); exact BK248.out) hb); have n4_ := Aside0.mk (below_step (by repeat (first | (with_reducible first | exact HB.out | apply below_alloc | apply pw_below_drewN | apply below_drew1 | refine below_set ?_ GE247.out | refine below_set ?_ GE248.out) | exact HB.out)) hb); clear HO251; clear HO254; clear BK247; clear BK248; clear HB; have HO251 := n0_; have HO254 := n1_; have BK247 := n2_; have BK248 := n3_; have HB := n4_; clear n0_ n1_ n2_ n3_ n4_; (try clear hb); (try clear hb2); (try clear hk); (try clear hi)) | (go_at_call 96; (with_reducible refine (spec_l1Abs.calls t255 t256 _ A6.out).mono ?_); rintro e w' ⟨rfl, ⟨nd, rfl⟩⟩; (try first | exact ⟨rfl, _, World.drewN_drewN _ _ _⟩ | exact ⟨rfl, _, Eq.trans (World.drewN_drewN _ _ _) (congrArg (World.drewN _) (Nat.add_assoc _ _ _))⟩); have hcz15_0 : w14.cell? ⟨gb247, 0, none⟩ = some (.slice A0_0 l0_0.length c0_0) := (blk_cell BK247.out 0).trans rfl; have hfz15_0 := blk_frozen BK247.out 0) | (go_at_call 92; (with_reducible refine (spec_hiChances.calls k _ _ l0_0 a1 a2 t257 _ ?side1 ?side2 A7.out).mono ?_); (case side1 => repeat (first | exact (Kd.C_below HR0_0.out (by repeat (first | (with_reducible first | exact HB.out | apply below_alloc | apply pw_below_drewN | apply below_drew1 | refine below_set ?_ GE247.out | refine below_set ?_ GE248.out) | exact HB.out))) | (with_reducible refine Kd.C_alloc ?_ _) | (with_reducible refine Kd.C_drewN ?_ _) | (with_reducible refine Kd.C_drew ?_))); (case side2 => exact HC0_0.out); rintro e w16 ⟨v258, rfl, ho0, hb⟩; have n0_ := Aside0.mk (Kd.R_below (by (with_reducible repeat (first | apply Kd.R_alloc | apply Kd.R_drewN | apply Kd.R_drew)); exact HO251.out) hb); have n1_ := Aside0.mk (Kd.S_below (by (with_reducible repeat (first | apply Kd.S_alloc | apply Kd.S_drewN | apply Kd.S_drew)); exact HO254.out) hb); have n2_ := Aside0.mk (Kd.R_lower (Kd.R_newB ho0 (g := gb248) (o := .cells #[.int .i64 0, .int .i64 0] 27 (0, 0)) (by (with_reducible repeat (first | refine blk_drewN ?_ _ | refine blk_drew ?_ | refine blk_alloc ?_ _)); exact BK248.out)) (below_size (by repeat (first | (with_reducible first | exact HB.out | apply below_alloc | apply pw_below_drewN | apply below_drew1 | refine below_set ?_ GE247.out | refine below_set ?_ GE248.out) | exact HB.out)))); have n3_ := Aside0.mk (blk_below (g := gb247) (o := .cells #[.slice A0_0 l0_0.length c0_0] 30 (0, 0)) (by (with_reducible repeat (first | refine blk_drewN ?_ _ | refine blk_drew ?_ | refine blk_alloc ?_ _)); exact BK247.out) hb); have n4_ := Aside0.mk (blk_below (g := gb248) (o := .cells #[.int .i64 0, .int .i64 0] 27 (0, 0)) (by (with_reducible repeat (first | refine blk_drewN ?_ _ | refine blk_drew ?_ | refine blk_alloc ?_ _)); exact BK248.out) hb); have n5_ := Aside0.mk (below_step (by repeat (first | (with_reducible first | exact HB.out | apply below_alloc | apply pw_below_drewN | apply below_drew1 | refine below_set ?_ GE247.out | refine below_set ?_ GE248.out) | exact HB.out)) hb); clear HO251; clear HO254; clear BK247; clear BK248; clear HB; have HO251 := n0_; have HO254 := n1_; have HO259 := n2_; have BK247 := n3_; have BK248 := n4_; have HB := n5_; clear n0_ n1_ n2_ n3_ n4_ n5_; (try clear hb); (try clear hb2); (try clear hk); (try clear hi); (try clear ho0); obtain ⟨Ao17, co17, eo17⟩ := Kd.R_slice HO251.out; subst eo17))
  repeat (go_quiet (first | ((with_reducible refine gate_dst (N := 3) rfl ?_); refine box_event ?hg (N := 3) ?hd (cs := #[.slice A0_0 l0_0.length c0_0]) (t := 30) ?hr ?_; (case hd => rfl); (case hg => rfl); (case hr => first | (go_simp; done) | (go_simp; rfl)); intro gb247 hg w8 hbox hb; have n0_ := Aside0.mk (below_step (by repeat (first | (with_reducible first | exact HB.out | apply below_alloc | apply pw_below_drewN | apply below_drew1) | exact HB.out)) hb); have n1_ := Aside0.mk (hbox); have n2_ := Aside0.mk ((by rw [hg]; exact (below_size (by repeat (first | (with_reducible first | exact HB.out | apply below_alloc | apply pw_below_drewN | apply below_drew1) | exact HB.out))) : w.heap.size ≤ gb247)); have n3_ := Aside0.mk ((by rw [hg]; exact (below_size (by repeat (first | (with_reducible first | exact HB.out | apply below_alloc | apply pw_below_drewN | apply below_drew1) | exact HB.out))) : w.heap.size ≤ gb247)); clear HB; have HB := n0_; have BK247 := n1_; have GW247 := n2_; have GE247 := n3_; clear n0_ n1_ n2_ n3_; clear hb hbox hg) | ((with_reducible refine gate_dst (N := 6) rfl ?_); refine box_event ?hg (N := 6) ?hd (cs := #[.int .i64 0, .int .i64 0]) (t := 27) ?hr ?_; (case hd => rfl); (case hg => rfl); (case hr => first | (go_simp; done) | (go_simp; rfl)); intro gb248 hg w9 hbox hb; have n0_ := Aside0.mk (blk_below (g := gb247) (o := .cells #[.slice A0_0 l0_0.length c0_0] 30 (0, 0)) (by (with_reducible repeat (first | refine blk_drewN ?_ _ | refine blk_drew ?_ | refine blk_alloc ?_ _)); exact BK247.out) hb); have n1_ := Aside0.mk (below_step (by repeat (first | (with_reducible first | exact HB.out | apply below_alloc | apply pw_below_drewN | apply below_drew1 | refine below_set ?_ GE247.out) | exact HB.out)) hb); have n2_ := Aside0.mk (hbox); have n3_ := Aside0.mk ((by rw [hg]; exact (below_size (by repeat (first | (with_reducible first | exact HB.out | apply below_alloc | apply pw_below_drewN | apply below_drew1 | refine below_set ?_ GE247.out) | exact HB.out))) : w.heap.size ≤ gb248)); have n4_ := Aside0.mk ((by rw [hg]; exact (below_size (by repeat (first | (with_reducible first | exact HB.out | apply below_alloc | apply pw_below_drewN | apply below_drew1 | refine below_set ?_ GE247.out) | exact HB.out))) : w.heap.size ≤ gb248)); have n5_ := Aside0.mk ((by rw [hg]; exact Nat.ne_of_lt (blk_lt (g := gb247) (o := .cells #[.slice A0_0 l0_0.length c0_0] 30 (0, 0)) (by (with_reducible repeat (first | refine blk_drewN ?_ _ | refine blk_drew ?_ | refine blk_alloc ?_ _)); exact BK247.out)) : gb247 ≠ gb248)); have n6_ := Aside0.mk ((by rw [hg]; exact Nat.ne_of_gt (blk_lt (g := gb247) (o := .cells #[.slice A0_0 l0_0.length c0_0] 30 (0, 0)) (by (with_reducible repeat (first | refine blk_drewN ?_ _ | refine blk_drew ?_ | refine blk_alloc ?_ _)); exact BK247.out)) : gb248 ≠ gb247)); clear BK247; clear HB; have BK247 := n0_; have HB := n1_; have BK248 := n2_; have GW248 := n3_; have GE248 := n4_; have NB247_248 := n5_; have NB248_247 := n6_; clear n0_ n1_ n2_ n3_ n4_ n5_ n6_; clear hb hbox hg; have hnb10 := NB247_248.out; have hnc10 := NB248_247.out; have hcz11_0 : w9.cell? ⟨gb247, 0, none⟩ = some (.slice A0_0 l0_0.length c0_0) := (blk_cell BK247.out 0).trans rfl; have hfz11_0 := blk_frozen BK247.out 0) | (go_at_call 88; (with_reducible refine (spec_hiMatrix.calls _ _ l0_0 a1 a2 t249 t252 _ ?side1 ?side2 A4.out).mono ?_); (case side1 => repeat (first | exact (Kd.C_below HR0_0.out HB.out) | (with_reducible refine Kd.C_alloc ?_ _) | (with_reducible refine Kd.C_drewN ?_ _) | (with_reducible refine Kd.C_drew ?_))); (case side2 => exact HC0_0.out); rintro e w12 ⟨v250, v253, rfl, ho0, ho1, hb⟩; have n0_ := Aside0.mk (Kd.R_lower ho0 (below_size (by repeat (first | (with_reducible first | exact HB.out | apply below_alloc | apply pw_below_drewN | apply below_drew1 | refine below_set ?_ GE247.out | refine below_set ?_ GE248.out) | exact HB.out)))); have n1_ := Aside0.mk (Kd.S_lower ho1 (below_size (by repeat (first | (with_reducible first | exact HB.out | apply below_alloc | apply pw_below_drewN | apply below_drew1 | refine below_set ?_ GE247.out | refine below_set ?_ GE248.out) | exact HB.out)))); have n2_ := Aside0.mk (blk_below (g := gb247) (o := .cells #[.slice A0_0 l0_0.length c0_0] 30 (0, 0)) (by (with_reducible repeat (first | refine blk_drewN ?_ _ | refine blk_drew ?_ | refine blk_alloc ?_ _)); exact BK247.out) hb); have n3_ := Aside0.mk (blk_below (g := gb248) (o := .cells #[.int .i64 0, .int .i64 0] 27 (0, 0)) (by (with_reducible repeat (first | refine blk_drewN ?_ _ | refine blk_drew ?_ | refine blk_alloc ?_ _)); exact BK248.out) hb); have n4_ := Aside0.mk (below_step (by repeat (first | (with_reducible first | exact HB.out | apply below_alloc | apply pw_below_drewN | apply below_drew1 | refine below_set ?_ GE247.out | refine below_set ?_ GE248.out) | exact HB.out)) hb); clear BK247; clear BK248; clear HB; have HO251 := n0_; have HO254 := n1_; have BK247 := n2_; have BK248 := n3_; have HB := n4_; clear n0_ n1_ n2_ n3_ n4_; (try clear hb); (try clear hb2); (try clear hk); (try clear hi); (try clear ho0); (try clear ho1); obtain ⟨Ao13, co13, eo13⟩ := Kd.S_slice HO254.out; subst eo13) | (go_at_call 116; (with_reducible refine (spec_trDet.calls k _ _ t252 t255 _ ?side1 ?side2 A5.out).mono ?_); (case side1 => repeat (first | exact (Kd.S_reads' HO254.out).2.2 | (with_reducible refine Kd.C_alloc ?_ _) | (with_reducible refine Kd.C_drewN ?_ _) | (with_reducible refine Kd.C_drew ?_))); (case side2 => exact (Kd.S_reads' HO254.out).2.1); rintro e w14 ⟨rfl, hb⟩; have n0_ := Aside0.mk (Kd.R_below (by (with_reducible repeat (first | apply Kd.R_alloc | apply Kd.R_drewN | apply Kd.R_drew)); exact HO251.out) hb); have n1_ := Aside0.mk (Kd.S_below (by (with_reducible repeat (first | apply Kd.S_alloc | apply Kd.S_drewN | apply Kd.S_drew)); exact HO254.out) hb); have n2_ := Aside0.mk (blk_below (g := gb247) (o := .cells #[.slice A0_0 l0_0.length c0_0] 30 (0, 0)) (by (with_reducible repeat (first | refine blk_drewN ?_ _ | refine blk_drew ?_ | refine blk_alloc ?_ _)); exact BK247.out) hb); have n3_ := Aside0.mk (blk_below (g := gb248) (o := .cells #[.int .i64 0, .int .i64 0] 27 (0, 0)) (by (with_reducible repeat (first | refine blk_drewN ?_ _ | refine blk_drew ?_ | refine blk_alloc ?_ _)); exact BK248.out) hb); have n4_ := Aside0.mk (below_step (by repeat (first | (with_reducible first | exact HB.out | apply below_alloc | apply pw_below_drewN | apply below_drew1 | refine below_set ?_ GE247.out | refine below_set ?_ GE248.out) | exact HB.out)) hb); clear HO251; clear HO254; clear BK247; clear BK248; clear HB; have HO251 := n0_; have HO254 := n1_; have BK247 := n2_; have BK248 := n3_; have HB := n4_; clear n0_ n1_ n2_ n3_ n4_; (try clear hb); (try clear hb2); (try clear hk); (try clear hi)) | (go_at_call 96; (with_reducible refine (spec_l1Abs.calls t255 t256 _ A6.out).mono ?_); rintro e w' ⟨rfl, ⟨nd, rfl⟩⟩; (try first | exact ⟨rfl, _, World.drewN_drewN _ _ _⟩ | exact ⟨rfl, _, Eq.trans (World.drewN_drewN _ _ _) (congrArg (World.drewN _) (Nat.add_assoc _ _ _))⟩); have hcz15_0 : w14.cell? ⟨gb247, 0, none⟩ = some (.slice A0_0 l0_0.length c0_0) := (blk_cell BK247.out 0).trans rfl; have hfz15_0 := blk_frozen BK247.out 0) | (go_at_call 92; (with_reducible refine (spec_hiChances.calls k _ _ l0_0 a1 a2 t257 _ ?side1 ?side2 A7.out).mono ?_); (case side1 => repeat (first | exact (Kd.C_below HR0_0.out (by repeat (first | (with_reducible first | exact HB.out | apply below_alloc | apply pw_below_drewN | apply below_drew1 | refine below_set ?_ GE247.out | refine below_set ?_ GE248.out) | exact HB.out))) | (with_reducible refine Kd.C_alloc ?_ _) | (with_reducible refine Kd.C_drewN ?_ _) | (with_reducible refine Kd.C_drew ?_))); (case side2 => exact HC0_0.out); rintro e w16 ⟨v258, rfl, ho0, hb⟩; have n0_ := Aside0.mk (Kd.R_below (by (with_reducible repeat (first | apply Kd.R_alloc | apply Kd.R_drewN | apply Kd.R_drew)); exact HO251.out) hb); have n1_ := Aside0.mk (Kd.S_below (by (with_reducible repeat (first | apply Kd.S_alloc | apply Kd.S_drewN | apply Kd.S_drew)); exact HO254.out) hb); have n2_ := Aside0.mk (Kd.R_lower (Kd.R_newB ho0 (g := gb248) (o := .cells #[.int .i64 0, .int .i64 0] 27 (0, 0)) (by (with_reducible repeat (first | refine blk_drewN ?_ _ | refine blk_drew ?_ | refine blk_alloc ?_ _)); exact BK248.out)) (below_size (by repeat (first | (with_reducible first | exact HB.out | apply below_alloc | apply pw_below_drewN | apply below_drew1 | refine below_set ?_ GE247.out | refine below_set ?_ GE248.out) | exact HB.out)))); have n3_ := Aside0.mk (blk_below (g := gb247) (o := .cells #[.slice A0_0 l0_0.length c0_0] 30 (0, 0)) (by (with_reducible repeat (first | refine blk_drewN ?_ _ | refine blk_drew ?_ | refine blk_alloc ?_ _)); exact BK247.out) hb); have n4_ := Aside0.mk (blk_below (g := gb248) (o := .cells #[.int .i64 0, .int .i64 0] 27 (0, 0)) (by (with_reducible repeat (first | refine blk_drewN ?_ _ | refine blk_drew ?_ | refine blk_alloc ?_ _)); exact BK248.out) hb); have n5_ := Aside0.mk (below_step (by repeat (first | (with_reducible first | exact HB.out | apply below_alloc | apply pw_below_drewN | apply below_drew1 | refine below_set ?_ GE247.out | refine below_set ?_ GE248.out) | exact HB.out)) hb); clear HO251; clear HO254; clear BK247; clear BK248; clear HB; have HO251 := n0_; have HO254 := n1_; have HO259 := n2_; have BK247 := n3_; have BK248 := n4_; have HB := n5_; clear n0_ n1_ n2_ n3_ n4_ n5_; (try clear hb); (try clear hb2); (try clear hk); (try clear hi); (try clear ho0); obtain ⟨Ao17, co17, eo17⟩ := Kd.R_slice HO251.out; subst eo17)); try go_wp2_with (first | ((with_reducible refine gate_dst (N := 3) rfl ?_); refine box_event ?hg (N := 3) ?hd (cs := #[.slice A0_0 l0_0.length c0_0]) (t := 30) ?hr ?_; (case hd => rfl); (case hg => rfl); (case hr => first | (go_simp; done) | (go_simp; rfl)); intro gb247 hg w8 hbox hb; have n0_ := Aside0.mk (below_step (by repeat (first | (with_reducible first | exact HB.out | apply below_alloc | apply pw_below_drewN | apply below_drew1) | exact HB.out)) hb); have n1_ := Aside0.mk (hbox); have n2_ := Aside0.mk ((by rw [hg]; exact (below_size (by repeat (first | (with_reducible first | exact HB.out | apply below_alloc | apply pw_below_drewN | apply below_drew1) | exact HB.out))) : w.heap.size ≤ gb247)); have n3_ := Aside0.mk ((by rw [hg]; exact (below_size (by repeat (first | (with_reducible first | exact HB.out | apply below_alloc | apply pw_below_drewN | apply below_drew1) | exact HB.out))) : w.heap.size ≤ gb247)); clear HB; have HB := n0_; have BK247 := n1_; have GW247 := n2_; have GE247 := n3_; clear n0_ n1_ n2_ n3_; clear hb hbox hg) | ((with_reducible refine gate_dst (N := 6) rfl ?_); refine box_event ?hg (N := 6) ?hd (cs := #[.int .i64 0, .int .i64 0]) (t := 27) ?hr ?_; (case hd => rfl); (case hg => rfl); (case hr => first | (go_simp; done) | (go_simp; rfl)); intro gb248 hg w9 hbox hb; have n0_ := Aside0.mk (blk_below (g := gb247) (o := .cells #[.slice A0_0 l0_0.length c0_0] 30 (0, 0)) (by (with_reducible repeat (first | refine blk_drewN ?_ _ | refine blk_drew ?_ | refine blk_alloc ?_ _)); exact BK247.out) hb); have n1_ := Aside0.mk (below_step (by repeat (first | (with_reducible first | exact HB.out | apply below_alloc | apply pw_below_drewN | apply below_drew1 | refine below_set ?_ GE247.out) | exact HB.out)) hb); have n2_ := Aside0.mk (hbox); have n3_ := Aside0.mk ((by rw [hg]; exact (below_size (by repeat (first | (with_reducible first | exact HB.out | apply below_alloc | apply pw_below_drewN | apply below_drew1 | refine below_set ?_ GE247.out) | exact HB.out))) : w.heap.size ≤ gb248)); have n4_ := Aside0.mk ((by rw [hg]; exact (below_size (by repeat (first | (with_reducible first | exact HB.out | apply below_alloc | apply pw_below_drewN | apply below_drew1 | refine below_set ?_ GE247.out) | exact HB.out))) : w.heap.size ≤ gb248)); have n5_ := Aside0.mk ((by rw [hg]; exact Nat.ne_of_lt (blk_lt (g := gb247) (o := .cells #[.slice A0_0 l0_0.length c0_0] 30 (0, 0)) (by (with_reducible repeat (first | refine blk_drewN ?_ _ | refine blk_drew ?_ | refine blk_alloc ?_ _)); exact BK247.out)) : gb247 ≠ gb248)); have n6_ := Aside0.mk ((by rw [hg]; exact Nat.ne_of_gt (blk_lt (g := gb247) (o := .cells #[.slice A0_0 l0_0.length c0_0] 30 (0, 0)) (by (with_reducible repeat (first | refine blk_drewN ?_ _ | refine blk_drew ?_ | refine blk_alloc ?_ _)); exact BK247.out)) : gb248 ≠ gb247)); clear BK247; clear HB; have BK247 := n0_; have HB := n1_; have BK248 := n2_; have GW248 := n3_; have GE248 := n4_; have NB247_248 := n5_; have NB248_247 := n6_; clear n0_ n1_ n2_ n3_ n4_ n5_ n6_; clear hb hbox hg; have hnb10 := NB247_248.out; have hnc10 := NB248_247.out; have hcz11_0 : w9.cell? ⟨gb247, 0, none⟩ = some (.slice A0_0 l0_0.length c0_0) := (blk_cell BK247.out 0).trans rfl; have hfz11_0 := blk_frozen BK247.out 0) | (go_at_call 88; (with_reducible refine (spec_hiMatrix.calls _ _ l0_0 a1 a2 t249 t252 _ ?side1 ?side2 A4.out).mono ?_); (case side1 => repeat (first | exact (Kd.C_below HR0_0.out HB.out) | (with_reducible refine Kd.C_alloc ?_ _) | (with_reducible refine Kd.C_drewN ?_ _) | (with_reducible refine Kd.C_drew ?_))); (case side2 => exact HC0_0.out); rintro e w12 ⟨v250, v253, rfl, ho0, ho1, hb⟩; have n0_ := Aside0.mk (Kd.R_lower ho0 (below_size (by repeat (first | (with_reducible first | exact HB.out | apply below_alloc | apply pw_below_drewN | apply below_drew1 | refine below_set ?_ GE247.out | refine below_set ?_ GE248.out) | exact HB.out)))); have n1_ := Aside0.mk (Kd.S_lower ho1 (below_size (by repeat (first | (with_reducible first | exact HB.out | apply below_alloc | apply pw_below_drewN | apply below_drew1 | refine below_set ?_ GE247.out | refine below_set ?_ GE248.out) | exact HB.out)))); have n2_ := Aside0.mk (blk_below (g := gb247) (o := .cells #[.slice A0_0 l0_0.length c0_0] 30 (0, 0)) (by (with_reducible repeat (first | refine blk_drewN ?_ _ | refine blk_drew ?_ | refine blk_alloc ?_ _)); exact BK247.out) hb); have n3_ := Aside0.mk (blk_below (g := gb248) (o := .cells #[.int .i64 0, .int .i64 0] 27 (0, 0)) (by (with_reducible repeat (first | refine blk_drewN ?_ _ | refine blk_drew ?_ | refine blk_alloc ?_ _)); exact BK248.out) hb); have n4_ := Aside0.mk (below_step (by repeat (first | (with_reducible first | exact HB.out | apply below_alloc | apply pw_below_drewN | apply below_drew1 | refine below_set ?_ GE247.out | refine below_set ?_ GE248.out) | exact HB.out)) hb); clear BK247; clear BK248; clear HB; have HO251 := n0_; have HO254 := n1_; have BK247 := n2_; have BK248 := n3_; have HB := n4_; clear n0_ n1_ n2_ n3_ n4_; (try clear hb); (try clear hb2); (try clear hk); (try clear hi); (try clear ho0); (try clear ho1); obtain ⟨Ao13, co13, eo13⟩ := Kd.S_slice HO254.out; subst eo13) | (go_at_call 116; (with_reducible refine (spec_trDet.calls k _ _ t252 t255 _ ?side1 ?side2 A5.out).mono ?_); (case side1 => repeat (first | exact (Kd.S_reads' HO254.out).2.2 | (with_reducible refine Kd.C_alloc ?_ _) | (with_reducible refine Kd.C_drewN ?_ _) | (with_reducible refine Kd.C_drew ?_))); (case side2 => exact (Kd.S_reads' HO254.out).2.1); rintro e w14 ⟨rfl, hb⟩; have n0_ := Aside0.mk (Kd.R_below (by (with_reducible repeat (first | apply Kd.R_alloc | apply Kd.R_drewN | apply Kd.R_drew)); exact HO251.out) hb); have n1_ := Aside0.mk (Kd.S_below (by (with_reducible repeat (first | apply Kd.S_alloc | apply Kd.S_drewN | apply Kd.S_drew)); exact HO254.out) hb); have n2_ := Aside0.mk (blk_below (g := gb247) (o := .cells #[.slice A0_0 l0_0.length c0_0] 30 (0, 0)) (by (with_reducible repeat (first | refine blk_drewN ?_ _ | refine blk_drew ?_ | refine blk_alloc ?_ _)); exact BK247.out) hb); have n3_ := Aside0.mk (blk_below (g := gb248) (o := .cells #[.int .i64 0, .int .i64 0] 27 (0, 0)) (by (with_reducible repeat (first | refine blk_drewN ?_ _ | refine blk_drew ?_ | refine blk_alloc ?_ _)); exact BK248.out) hb); have n4_ := Aside0.mk (below_step (by repeat (first | (with_reducible first | exact HB.out | apply below_alloc | apply pw_below_drewN | apply below_drew1 | refine below_set ?_ GE247.out | refine below_set ?_ GE248.out) | exact HB.out)) hb); clear HO251; clear HO254; clear BK247; clear BK248; clear HB; have HO251 := n0_; have HO254 := n1_; have BK247 := n2_; have BK248 := n3_; have HB := n4_; clear n0_ n1_ n2_ n3_ n4_; (try clear hb); (try clear hb2); (try clear hk); (try clear hi)) | (go_at_call 96; (with_reducible refine (spec_l1Abs.calls t255 t256 _ A6.out).mono ?_); rintro e w' ⟨rfl, ⟨nd, rfl⟩⟩; (try first | exact ⟨rfl, _, World.drewN_drewN _ _ _⟩ | exact ⟨rfl, _, Eq.trans (World.drewN_drewN _ _ _) (congrArg (World.drewN _) (Nat.add_assoc _ _ _))⟩); have hcz15_0 : w14.cell? ⟨gb247, 0, none⟩ = some (.slice A0_0 l0_0.length c0_0) := (blk_cell BK247.out 0).trans rfl; have hfz15_0 := blk_frozen BK247.out 0) | (go_at_call 92; (with_reducible refine (spec_hiChances.calls k _ _ l0_0 a1 a2 t257 _ ?side1 ?side2 A7.out).mono ?_); (case side1 => repeat (first | exact (Kd.C_below HR0_0.out (by repeat (first | (with_reducible first | exact HB.out | apply below_alloc | apply pw_below_drewN | apply below_drew1 | refine below_set ?_ GE247.out | refine below_set ?_ GE248.out) | exact HB.out))) | (with_reducible refine Kd.C_alloc ?_ _) | (with_reducible refine Kd.C_drewN ?_ _) | (with_reducible refine Kd.C_drew ?_))); (case side2 => exact HC0_0.out); rintro e w16 ⟨v258, rfl, ho0, hb⟩; have n0_ := Aside0.mk (Kd.R_below (by (with_reducible repeat (first | apply Kd.R_alloc | apply Kd.R_drewN | apply Kd.R_drew)); exact HO251.out) hb); have n1_ := Aside0.mk (Kd.S_below (by (with_reducible repeat (first | apply Kd.S_alloc | apply Kd.S_drewN | apply Kd.S_drew)); exact HO254.out) hb); have n2_ := Aside0.mk (Kd.R_lower (Kd.R_newB ho0 (g := gb248) (o := .cells #[.int .i64 0, .int .i64 0] 27 (0, 0)) (by (with_reducible repeat (first | refine blk_drewN ?_ _ | refine blk_drew ?_ | refine blk_alloc ?_ _)); exact BK248.out)) (below_size (by repeat (first | (with_reducible first | exact HB.out | apply below_alloc | apply pw_below_drewN | apply below_drew1 | refine below_set ?_ GE247.out | refine below_set ?_ GE248.out) | exact HB.out)))); have n3_ := Aside0.mk (blk_below (g := gb247) (o := .cells #[.slice A0_0 l0_0.length c0_0] 30 (0, 0)) (by (with_reducible repeat (first | refine blk_drewN ?_ _ | refine blk_drew ?_ | refine blk_alloc ?_ _)); exact BK247.out) hb); have n4_ := Aside0.mk (blk_below (g := gb248) (o := .cells #[.int .i64 0, .int .i64 0] 27 (0, 0)) (by (with_reducible repeat (first | refine blk_drewN ?_ _ | refine blk_drew ?_ | refine blk_alloc ?_ _)); exact BK248.out) hb); have n5_ := Aside0.mk (below_step (by repeat (first | (with_reducible first | exact HB.out | apply below_alloc | apply pw_below_drewN | apply below_drew1 | refine below_set ?_ GE247.out | refine below_set ?_ GE248.out) | exact HB.out)) hb); clear HO251; clear HO254; clear BK247; clear BK248; clear HB; have HO251 := n0_; have HO254 := n1_; have HO259 := n2_; have BK247 := n3_; have BK248 := n4_; have HB := n5_; clear n0_ n1_ n2_ n3_ n4_ n5_; (try clear hb); (try clear hb2); (try clear hk); (try clear hi); (try clear ho0); obtain ⟨Ao17, co17, eo17⟩ := Kd.R_slice HO251.out; subst eo17)))
  go_loopg [11, 34] k (fun kq v11 v34 w' => ∃ (x11_1 : Int) (x34_1 : Int), v11 = .int .i64 x11_1 ∧ v34 = .int .i64 x34_1 ∧ Aside0 (spec_hiBound.l0 kq t256 t257 x11_1 t249 (t249.length : Int) x34_1 l0_0 = some (r1, r2)) ∧ Aside0 (kq ≤ k) ∧ Aside0 (Kd.R k27 27 w' w.heap.size (fun k_ => k_ ≠ gb248) v258 t257) ∧ Aside0 (Kd.R (Kd.int .i64) 3 w' w.heap.size (fun _ => True) (.slice Ao17 t249.length co17) t249) ∧ Aside0 (w'.heap[gb247]? = some (.cells #[(.slice A0_0 l0_0.length c0_0)] 30 (0, 0))) ∧ Aside0 (w'.heap[gb248]? = some (.cells #[.int .i64 0, .int .i64 0] 27 (0, 0))) ∧ Aside0 (Below w.heap.size w w'))
  case atStart => exact ⟨(t256), (0), (by first | rfl | (simp; done) | (simp [*]; done)), (by first | rfl | (simp; done) | (simp [*]; done)), H', ⟨Nat.le_refl _⟩, ⟨by (with_reducible repeat (first | apply Kd.R_alloc | apply Kd.R_drewN | apply Kd.R_drew)); exact Kd.R_mono HO259.out (fun _ hk => hk.2)⟩, ⟨by (with_reducible repeat (first | apply Kd.R_alloc | apply Kd.R_drewN | apply Kd.R_drew)); exact HO251.out⟩, ⟨by (with_reducible repeat (first | refine blk_drewN ?_ _ | refine blk_drew ?_ | refine blk_alloc ?_ _)); exact BK247.out⟩, ⟨by (with_reducible repeat (first | refine blk_drewN ?_ _ | refine blk_drew ?_ | refine blk_alloc ?_ _)); exact BK248.out⟩, ⟨by repeat (first | (with_reducible first | exact HB.out | apply below_alloc | apply pw_below_drewN | apply below_drew1 | refine below_set ?_ GE247.out | refine below_set ?_ GE248.out) | exact HB.out)⟩⟩
  case round =>
    clear H'
    try clear c1
    try clear p2
    try clear c9
    try clear c10
    try clear hcz11_0
    try clear hcz15_0
    try clear hfz11_0
    try clear hfz15_0
    obtain ⟨x11_1, x34_1, rfl, rfl, HA, HK1, HO_10, HO_32, BK247, BK248, HB⟩ := hrel
    cases gk with
    | zero => exact absurd HA.out (by simp [spec_hiBound.l0])
    | succ k1 =>
      have H := HA.out
      clear HA
      simp only [spec_hiBound.l0] at H
      by_cases c18 : x34_1 < (t249.length : Int)
      · rw [if_pos c18] at H
        have c18b0 : decide (x34_1 < (t249.length : Int)) = true := decide_eq_true c18
        clear c18
        by_cases c19 : 0 ≤ x34_1
        · rw [if_pos c19] at H
          have c19b0 : decide (0 ≤ x34_1) = true := decide_eq_true c19
          clear c19
          by_cases c20 : x34_1 < (t249.length : Int)
          · rw [if_pos c20] at H
            have c20b0 : decide (x34_1 < (t249.length : Int)) = true := decide_eq_true c20
            clear c20
            by_cases c21 : 0 ≤ (rd t249 x34_1)
            · rw [if_pos c21] at H
              have c21b0 : decide (0 ≤ (rd t249 x34_1)) = true := decide_eq_true c21
              clear c21
              by_cases c22 : (rd t249 x34_1) < (l0_0.length : Int)
              · rw [if_pos c22] at H
                have c22b0 : decide ((rd t249 x34_1) < (l0_0.length : Int)) = true := decide_eq_true c22
                clear c22
                have H' := Aside0.mk H
                clear H
                have p262 : 0 ≤ (x34_1 : Int) := of_decide_eq_true (by first | (with_reducible assumption) | assumption)
                have q262 : x34_1 < (t249.length : Int) := of_decide_eq_true (by first | (with_reducible assumption) | assumption)
                obtain ⟨ad262, e262, hx262_0⟩ := Kd.at_int (Kd.R_reads' HO_32.out).2.2 x34_1 p262 q262
                cases e262
                replace p262 := eq_true p262
                replace q262 := eq_true q262
                have hnb23 := NB247_248.out
                have hnc23 := NB248_247.out
                have hcz24_0 : wr.cell? ⟨gb247, 0, none⟩ = some (.slice A0_0 l0_0.length c0_0) := (blk_cell BK247.out 0).trans rfl
                have hfz24_0 := blk_frozen BK247.out 0
                have p263 : 0 ≤ ((rd t249 x34_1) : Int) := of_decide_eq_true (by first | (with_reducible assumption) | assumption)
                have q263 : (rd t249 x34_1) < (l0_0.length : Int) := of_decide_eq_true (by first | (with_reducible assumption) | assumption)
                obtain ⟨ad263, A263_0, c263_0, e263, hx263_0, hl263_0, hi263_0⟩ := at_L1 HR0_0.out (rd t249 x34_1) p263 q263
                cases e263
                replace hx263_0 := (HB.out.cell (World.block_lt_of_cell? w _ hx263_0)).trans hx263_0
                have HR263_0 := Aside0.mk hi263_0
                have HC263_0 := Aside0.mk hl263_0
                clear hi263_0 hl263_0
                replace p263 := eq_true p263
                replace q263 := eq_true q263
                go_wp2
                repeat (go_quiet (fail); try go_wp2)
                go_loopg [11, 44] k1 (fun kq v11 v44 w' => ∃ (x11_2 : Int) (x44_2 : Int), v11 = .int .i64 x11_2 ∧ v44 = .int .i64 x44_2 ∧ Aside0 (spec_hiBound.l1 kq t256 t257 x11_2 (rd t249 x34_1) t249 (t249.length : Int) x34_1 (rd_L1 l0_0 (rd t249 x34_1)) ((rd_L1 l0_0 (rd t249 x34_1)).length : Int) x44_2 l0_0 = some (r1, r2)) ∧ Aside0 (kq ≤ k1) ∧ Aside0 (Kd.R k27 27 w' w.heap.size (fun k_ => k_ ≠ gb248) v258 t257) ∧ Aside0 (Kd.R (Kd.int .i64) 3 w' w.heap.size (fun _ => True) (.slice (some ad262) t249.length co17) t249) ∧ Aside0 (w'.heap[gb247]? = some (.cells #[(.slice (some ad263) l0_0.length c0_0)] 30 (0, 0))) ∧ Aside0 (w'.heap[gb248]? = some (.cells #[.int .i64 0, .int .i64 0] 27 (0, 0))) ∧ Aside0 (Below w.heap.size w w'))
                case atStart => exact ⟨(x11_1), (0), (by first | rfl | (simp; done) | (simp [*]; done)), (by first | rfl | (simp; done) | (simp [*]; done)), H', ⟨Nat.le_refl _⟩, ⟨by (with_reducible repeat (first | apply Kd.R_alloc | apply Kd.R_drewN | apply Kd.R_drew)); exact HO_10.out⟩, ⟨by (with_reducible repeat (first | apply Kd.R_alloc | apply Kd.R_drewN | apply Kd.R_drew)); exact HO_32.out⟩, ⟨by (with_reducible repeat (first | refine blk_drewN ?_ _ | refine blk_drew ?_ | refine blk_alloc ?_ _)); exact BK247.out⟩, ⟨by (with_reducible repeat (first | refine blk_drewN ?_ _ | refine blk_drew ?_ | refine blk_alloc ?_ _)); exact BK248.out⟩, ⟨by repeat (first | (with_reducible first | exact HB.out | apply below_alloc | apply pw_below_drewN | apply below_drew1 | refine below_set ?_ GE247.out | refine below_set ?_ GE248.out) | exact HB.out)⟩⟩
                case round =>
                  clear H'
                  try clear c1
                  try clear c2
                  try clear p2
                  try clear q2
                  try clear hx2
                  try clear c9
                  try clear c10
                  try clear c18
                  try clear c18b0
                  try clear c19
                  try clear c19b0
                  try clear c20
                  try clear c20b0
                  try clear c21
                  try clear c21b0
                  try clear c22
                  try clear c22b0
                  try clear c23
                  try clear hcz11_0
                  try clear hcz15_0
                  try clear hcz24_0
                  try clear hfz11_0
                  try clear hfz15_0
                  try clear hfz24_0
                  try clear hx262_0
                  try clear hx263_0
                  try clear p2
                  try clear p262
                  try clear p263
                  try clear q262
                  try clear q263
                  obtain ⟨x11_2, x44_2, rfl, rfl, HA, HK2, HO_10, HO_32, BK247, BK248, HB⟩ := hrel
                  cases gk with
                  | zero => exact absurd HA.out (by simp [spec_hiBound.l1])
                  | succ k2 =>
                    have H := HA.out
                    clear HA
                    simp only [spec_hiBound.l1] at H
                    by_cases c25 : x44_2 < ((rd_L1 l0_0 (rd t249 x34_1)).length : Int)
                    · rw [if_pos c25] at H
                      have c25b0 : decide (x44_2 < ((rd_L1 l0_0 (rd t249 x34_1)).length : Int)) = true := decide_eq_true c25
                      clear c25
                      by_cases c26 : 0 ≤ x44_2
                      · rw [if_pos c26] at H
                        have c26b0 : decide (0 ≤ x44_2) = true := decide_eq_true c26
                        clear c26
                        by_cases c27 : x44_2 < ((rd_L1 l0_0 (rd t249 x34_1)).length : Int)
                        · rw [if_pos c27] at H
                          have c27b0 : decide (x44_2 < ((rd_L1 l0_0 (rd t249 x34_1)).length : Int)) = true := decide_eq_true c27
                          clear c27
                          by_cases c28 : 0 ≤ (rd t249 x34_1)
                          · rw [if_pos c28] at H
                            have c28b0 : decide (0 ≤ (rd t249 x34_1)) = true := decide_eq_true c28
                            clear c28
                            by_cases c29 : (rd t249 x34_1) < (t257.length : Int)
                            · rw [if_pos c29] at H
                              have c29b0 : decide ((rd t249 x34_1) < (t257.length : Int)) = true := decide_eq_true c29
                              clear c29
                              by_cases c30 : ((rd_T27 t257 (rd t249 x34_1)).f1) = 0
                              · rw [if_pos c30] at H
                                exact absurd H (by simp)
                              · rw [if_neg c30] at H
                                have c30b0 : (((rd_T27 t257 (rd t249 x34_1)).f1) == 0) = false := beq_eq_false_iff_ne.mpr c30
                                have c30b1 : (((rd_T27 t257 (rd t249 x34_1)).f1) != 0) = true := bne_iff_ne.mpr c30
                                by_cases c31 : 0 ≤ (rd (rd_L1 l0_0 (rd t249 x34_1)) x44_2)
                                · rw [if_pos c31] at H
                                  have c31b0 : decide (0 ≤ (rd (rd_L1 l0_0 (rd t249 x34_1)) x44_2)) = true := decide_eq_true c31
                                  clear c31
                                  by_cases c32 : (rd (rd_L1 l0_0 (rd t249 x34_1)) x44_2) < (t257.length : Int)
                                  · rw [if_pos c32] at H
                                    have c32b0 : decide ((rd (rd_L1 l0_0 (rd t249 x34_1)) x44_2) < (t257.length : Int)) = true := decide_eq_true c32
                                    clear c32
                                    by_cases c33 : ((rd_T27 t257 (rd (rd_L1 l0_0 (rd t249 x34_1)) x44_2)).f1) = 0
                                    · rw [if_pos c33] at H
                                      exact absurd H (by simp)
                                    · rw [if_neg c33] at H
                                      have c33b0 : (((rd_T27 t257 (rd (rd_L1 l0_0 (rd t249 x34_1)) x44_2)).f1) == 0) = false := beq_eq_false_iff_ne.mpr c33
                                      have c33b1 : (((rd_T27 t257 (rd (rd_L1 l0_0 (rd t249 x34_1)) x44_2)).f1) != 0) = true := bne_iff_ne.mpr c33
                                      replace H := Option.bind_eq_some_iff.mp H
                                      obtain ⟨t269, A340, H⟩ := H
                                      replace H : (spec_hiBound.l1 k2 t256 t257 (wrap64 (x11_2 + t269)) (rd t249 x34_1) t249 (t249.length : Int) x34_1 (rd_L1 l0_0 (rd t249 x34_1)) ((rd_L1 l0_0 (rd t249 x34_1)).length : Int) (wrap64 (x44_2 + 1)) l0_0) = some (r1, r2) := H
                                      have A34 := Aside0.mk A340
                                      clear A340
                                      have H' := Aside0.mk H
                                      clear H
                                      have p264 : 0 ≤ (x44_2 : Int) := of_decide_eq_true (by first | (with_reducible assumption) | assumption)
                                      have q264 : x44_2 < ((rd_L1 l0_0 (rd t249 x34_1)).length : Int) := of_decide_eq_true (by first | (with_reducible assumption) | assumption)
                                      obtain ⟨ad264, e264, hx264_0⟩ := Kd.at_int HR263_0.out x44_2 p264 q264
                                      cases e264
                                      replace hx264_0 := (HB.out.cell (World.block_lt_of_cell? w _ hx264_0)).trans hx264_0
                                      replace p264 := eq_true p264
                                      replace q264 := eq_true q264
                                      obtain ⟨Ao35, co35, eo35⟩ := Kd.R_slice HO_10.out
                                      subst eo35
                                      have p265 : 0 ≤ ((rd t249 x34_1) : Int) := of_decide_eq_true (by first | (with_reducible assumption) | assumption)
                                      have q265 : (rd t249 x34_1) < (t257.length : Int) := of_decide_eq_true (by first | (with_reducible assumption) | assumption)
                                      obtain ⟨ad265, e265, hx265_0, hx265_1⟩ := at_T27 (Kd.R_reads' HO_10.out).2.2 (rd t249 x34_1) p265 q265
                                      cases e265
                                      replace p265 := eq_true p265
                                      replace q265 := eq_true q265
                                      have p266 : 0 ≤ ((rd t249 x34_1) : Int) := of_decide_eq_true (by first | (with_reducible assumption) | assumption)
                                      have q266 : (rd t249 x34_1) < (t257.length : Int) := of_decide_eq_true (by first | (with_reducible assumption) | assumption)
                                      obtain ⟨ad266, e266, hx266_0, hx266_1⟩ := at_T27 (Kd.R_reads' HO_10.out).2.2 (rd t249 x34_1) p266 q266
                                      obtain rfl : ad265 = ad266 := (by injection e266)
                                      replace p266 := eq_true p266
                                      replace q266 := eq_true q266
                                      have p267 : 0 ≤ ((rd (rd_L1 l0_0 (rd t249 x34_1)) x44_2) : Int) := of_decide_eq_true (by first | (with_reducible assumption) | assumption)
                                      have q267 : (rd (rd_L1 l0_0 (rd t249 x34_1)) x44_2) < (t257.length : Int) := of_decide_eq_true (by first | (with_reducible assumption) | assumption)
                                      obtain ⟨ad267, e267, hx267_0, hx267_1⟩ := at_T27 (Kd.R_reads' HO_10.out).2.2 (rd (rd_L1 l0_0 (rd t249 x34_1)) x44_2) p267 q267
                                      obtain rfl : ad265 = ad267 := (by injection e267)
                                      replace p267 := eq_true p267
                                      replace q267 := eq_true q267
                                      have p268 : 0 ≤ ((rd (rd_L1 l0_0 (rd t249 x34_1)) x44_2) : Int) := of_decide_eq_true (by first | (with_reducible assumption) | assumption)
                                      have q268 : (rd (rd_L1 l0_0 (rd t249 x34_1)) x44_2) < (t257.length : Int) := of_decide_eq_true (by first | (with_reducible assumption) | assumption)
                                      obtain ⟨ad268, e268, hx268_0, hx268_1⟩ := at_T27 (Kd.R_reads' HO_10.out).2.2 (rd (rd_L1 l0_0 (rd t249 x34_1)) x44_2) p268 q268
                                      obtain rfl : ad265 = ad268 := (by injection e268)
                                      replace p268 := eq_true p268
                                      replace q268 := eq_true q268
                                      go_wp2_with (first | (go_at_call 96; (with_reducible refine (spec_l1Abs.calls (wrap64 ((wrap64 (((rd_T27 t257 (rd t249 x34_1)).f0) * (wrap64 (Int.tdiv t256 ((rd_T27 t257 (rd t249 x34_1)).f1))))) - (wrap64 (((rd_T27 t257 (rd (rd_L1 l0_0 (rd t249 x34_1)) x44_2)).f0) * (wrap64 (Int.tdiv t256 ((rd_T27 t257 (rd (rd_L1 l0_0 (rd t249 x34_1)) x44_2)).f1))))))) t269 _ A34.out).mono ?_); rintro e w' ⟨rfl, ⟨nd, rfl⟩⟩; (try first | exact ⟨rfl, _, World.drewN_drewN _ _ _⟩ | exact ⟨rfl, _, Eq.trans (World.drewN_drewN _ _ _) (congrArg (World.drewN _) (Nat.add_assoc _ _ _))⟩)))
                                      repeat (go_quiet (first | (go_at_call 96; (with_reducible refine (spec_l1Abs.calls (wrap64 ((wrap64 (((rd_T27 t257 (rd t249 x34_1)).f0) * (wrap64 (Int.tdiv t256 ((rd_T27 t257 (rd t249 x34_1)).f1))))) - (wrap64 (((rd_T27 t257 (rd (rd_L1 l0_0 (rd t249 x34_1)) x44_2)).f0) * (wrap64 (Int.tdiv t256 ((rd_T27 t257 (rd (rd_L1 l0_0 (rd t249 x34_1)) x44_2)).f1))))))) t269 _ A34.out).mono ?_); rintro e w' ⟨rfl, ⟨nd, rfl⟩⟩; (try first | exact ⟨rfl, _, World.drewN_drewN _ _ _⟩ | exact ⟨rfl, _, Eq.trans (World.drewN_drewN _ _ _) (congrArg (World.drewN _) (Nat.add_assoc _ _ _))⟩))); try go_wp2_with (first | (go_at_call 96; (with_reducible refine (spec_l1Abs.calls (wrap64 ((wrap64 (((rd_T27 t257 (rd t249 x34_1)).f0) * (wrap64 (Int.tdiv t256 ((rd_T27 t257 (rd t249 x34_1)).f1))))) - (wrap64 (((rd_T27 t257 (rd (rd_L1 l0_0 (rd t249 x34_1)) x44_2)).f0) * (wrap64 (Int.tdiv t256 ((rd_T27 t257 (rd (rd_L1 l0_0 (rd t249 x34_1)) x44_2)).f1))))))) t269 _ A34.out).mono ?_); rintro e w' ⟨rfl, ⟨nd, rfl⟩⟩; (try first | exact ⟨rfl, _, World.drewN_drewN _ _ _⟩ | exact ⟨rfl, _, Eq.trans (World.drewN_drewN _ _ _) (congrArg (World.drewN _) (Nat.add_assoc _ _ _))⟩))))
                                      go_roundg k2
                                      case measure => have := HK1.out; have := HK2.out; omega
                                      case rel => exact ⟨(wrap64 (x11_2 + t269)), (wrap64 (x44_2 + 1)), (by first | rfl | (simp; done) | (simp [*]; done)), (by first | rfl | (simp; done) | (simp [*]; done)), H', ⟨by have := HK1.out; have := HK2.out; omega⟩, ⟨by (with_reducible repeat (first | apply Kd.R_alloc | apply Kd.R_drewN | apply Kd.R_drew)); exact HO_10.out⟩, ⟨by (with_reducible repeat (first | apply Kd.R_alloc | apply Kd.R_drewN | apply Kd.R_drew)); exact HO_32.out⟩, ⟨by (with_reducible repeat (first | refine blk_drewN ?_ _ | refine blk_drew ?_ | refine blk_alloc ?_ _)); exact BK247.out⟩, ⟨by (with_reducible repeat (first | refine blk_drewN ?_ _ | refine blk_drew ?_ | refine blk_alloc ?_ _)); exact BK248.out⟩, ⟨by repeat (first | (with_reducible first | exact HB.out | apply below_alloc | apply pw_below_drewN | apply below_drew1 | refine below_set ?_ GE247.out | refine below_set ?_ GE248.out) | exact HB.out)⟩⟩
                                  · rw [if_neg c32] at H
                                    exact absurd H (by simp)
                                · rw [if_neg c31] at H
                                  exact absurd H (by simp)
                            · rw [if_neg c29] at H
                              exact absurd H (by simp)
                          · rw [if_neg c28] at H
                            exact absurd H (by simp)
                        · rw [if_neg c27] at H
                          exact absurd H (by simp)
                      · rw [if_neg c26] at H
                        exact absurd H (by simp)
                    · rw [if_neg c25] at H
                      have c25b0 : decide (x44_2 < ((rd_L1 l0_0 (rd t249 x34_1)).length : Int)) = false := decide_eq_false c25
                      clear c25
                      have H' := Aside0.mk H
                      clear H
                      go_wp2
                      repeat (go_quiet (fail); try go_wp2)
                      go_roundg k2
                      case measure => have := HK1.out; have := HK2.out; omega
                      case rel => exact ⟨(x11_2), (wrap64 (x34_1 + 1)), (by first | rfl | (simp; done) | (simp [*]; done)), (by first | rfl | (simp; done) | (simp [*]; done)), H', ⟨by have := HK1.out; have := HK2.out; omega⟩, ⟨by (with_reducible repeat (first | apply Kd.R_alloc | apply Kd.R_drewN | apply Kd.R_drew)); exact HO_10.out⟩, ⟨by (with_reducible repeat (first | apply Kd.R_alloc | apply Kd.R_drewN | apply Kd.R_drew)); exact HO_32.out⟩, ⟨by (with_reducible repeat (first | refine blk_drewN ?_ _ | refine blk_drew ?_ | refine blk_alloc ?_ _)); exact BK247.out⟩, ⟨by (with_reducible repeat (first | refine blk_drewN ?_ _ | refine blk_drew ?_ | refine blk_alloc ?_ _)); exact BK248.out⟩, ⟨by repeat (first | (with_reducible first | exact HB.out | apply below_alloc | apply pw_below_drewN | apply below_drew1 | refine below_set ?_ GE247.out | refine below_set ?_ GE248.out) | exact HB.out)⟩⟩
              · rw [if_neg c22] at H
                exact absurd H (by simp)
            · rw [if_neg c21] at H
              exact absurd H (by simp)
          · rw [if_neg c20] at H
            exact absurd H (by simp)
        · rw [if_neg c19] at H
          exact absurd H (by simp)
      · rw [if_neg c18] at H
        have c18b0 : decide (x34_1 < (t249.length : Int)) = false := decide_eq_false c18
        clear c18
        replace H := Option.bind_eq_some_iff.mp H
        obtain ⟨⟨t260, t261⟩, A360, H⟩ := H
        replace H : (some (t260, t261)) = some (r1, r2) := H
        have A36 := Aside0.mk A360
        clear A360
        simp only [Option.some.injEq, Prod.mk.injEq] at H
        obtain ⟨rfl, rfl⟩ := H
        go_wp2_with (first | (go_at_call 74; (with_reducible refine (spec_hiRatio.calls k1 x11_1 t256 t260 t261 _ A36.out).mono ?_); rintro e w37 ⟨rfl, hb⟩; have n0_ := Aside0.mk (Kd.R_below (by (with_reducible repeat (first | apply Kd.R_alloc | apply Kd.R_drewN | apply Kd.R_drew)); exact HO_10.out) hb); have n1_ := Aside0.mk (Kd.R_below (by (with_reducible repeat (first | apply Kd.R_alloc | apply Kd.R_drewN | apply Kd.R_drew)); exact HO_32.out) hb); have n2_ := Aside0.mk (blk_below (g := gb247) (o := .cells #[.slice A0_0 l0_0.length c0_0] 30 (0, 0)) (by (with_reducible repeat (first | refine blk_drewN ?_ _ | refine blk_drew ?_ | refine blk_alloc ?_ _)); exact BK247.out) hb); have n3_ := Aside0.mk (blk_below (g := gb248) (o := .cells #[.int .i64 0, .int .i64 0] 27 (0, 0)) (by (with_reducible repeat (first | refine blk_drewN ?_ _ | refine blk_drew ?_ | refine blk_alloc ?_ _)); exact BK248.out) hb); have n4_ := Aside0.mk (below_step (by repeat (first | (with_reducible first | exact HB.out | apply below_alloc | apply pw_below_drewN | apply below_drew1 | refine below_set ?_ GE247.out | refine below_set ?_ GE248.out) | exact HB.out)) hb); clear HO_10; clear HO_32; clear BK247; clear BK248; clear HB; have HO_10 := n0_; have HO_32 := n1_; have BK247 := n2_; have BK248 := n3_; have HB := n4_; clear n0_ n1_ n2_ n3_ n4_; (try clear hb); (try clear hb2); (try clear hk); (try clear hi); have hnb38 := NB248_247.out; have hnc38 := NB247_248.out; have hcz39_0 : w37.cell? ⟨gb248, 0, none⟩ = some (.int .i64 0) := (blk_cell BK248.out 0).trans rfl; have hcz39_1 : w37.cell? ⟨gb248, 1, none⟩ = some (.int .i64 0) := (blk_cell BK248.out 1).trans rfl; have hfz39_0 := blk_frozen BK248.out 0; have hfz39_1 := blk_frozen BK248.out 1))
        repeat (go_quiet (first | (go_at_call 74; (with_reducible refine (spec_hiRatio.calls k1 x11_1 t256 t260 t261 _ A36.out).mono ?_); rintro e w37 ⟨rfl, hb⟩; have n0_ := Aside0.mk (Kd.R_below (by (with_reducible repeat (first | apply Kd.R_alloc | apply Kd.R_drewN | apply Kd.R_drew)); exact HO_10.out) hb); have n1_ := Aside0.mk (Kd.R_below (by (with_reducible repeat (first | apply Kd.R_alloc | apply Kd.R_drewN | apply Kd.R_drew)); exact HO_32.out) hb); have n2_ := Aside0.mk (blk_below (g := gb247) (o := .cells #[.slice A0_0 l0_0.length c0_0] 30 (0, 0)) (by (with_reducible repeat (first | refine blk_drewN ?_ _ | refine blk_drew ?_ | refine blk_alloc ?_ _)); exact BK247.out) hb); have n3_ := Aside0.mk (blk_below (g := gb248) (o := .cells #[.int .i64 0, .int .i64 0] 27 (0, 0)) (by (with_reducible repeat (first | refine blk_drewN ?_ _ | refine blk_drew ?_ | refine blk_alloc ?_ _)); exact BK248.out) hb); have n4_ := Aside0.mk (below_step (by repeat (first | (with_reducible first | exact HB.out | apply below_alloc | apply pw_below_drewN | apply below_drew1 | refine below_set ?_ GE247.out | refine below_set ?_ GE248.out) | exact HB.out)) hb); clear HO_10; clear HO_32; clear BK247; clear BK248; clear HB; have HO_10 := n0_; have HO_32 := n1_; have BK247 := n2_; have BK248 := n3_; have HB := n4_; clear n0_ n1_ n2_ n3_ n4_; (try clear hb); (try clear hb2); (try clear hk); (try clear hi); have hnb38 := NB248_247.out; have hnc38 := NB247_248.out; have hcz39_0 : w37.cell? ⟨gb248, 0, none⟩ = some (.int .i64 0) := (blk_cell BK248.out 0).trans rfl; have hcz39_1 : w37.cell? ⟨gb248, 1, none⟩ = some (.int .i64 0) := (blk_cell BK248.out 1).trans rfl; have hfz39_0 := blk_frozen BK248.out 0; have hfz39_1 := blk_frozen BK248.out 1)); try go_wp2_with (first | (go_at_call 74; (with_reducible refine (spec_hiRatio.calls k1 x11_1 t256 t260 t261 _ A36.out).mono ?_); rintro e w37 ⟨rfl, hb⟩; have n0_ := Aside0.mk (Kd.R_below (by (with_reducible repeat (first | apply Kd.R_alloc | apply Kd.R_drewN | apply Kd.R_drew)); exact HO_10.out) hb); have n1_ := Aside0.mk (Kd.R_below (by (with_reducible repeat (first | apply Kd.R_alloc | apply Kd.R_drewN | apply Kd.R_drew)); exact HO_32.out) hb); have n2_ := Aside0.mk (blk_below (g := gb247) (o := .cells #[.slice A0_0 l0_0.length c0_0] 30 (0, 0)) (by (with_reducible repeat (first | refine blk_drewN ?_ _ | refine blk_drew ?_ | refine blk_alloc ?_ _)); exact BK247.out) hb); have n3_ := Aside0.mk (blk_below (g := gb248) (o := .cells #[.int .i64 0, .int .i64 0] 27 (0, 0)) (by (with_reducible repeat (first | refine blk_drewN ?_ _ | refine blk_drew ?_ | refine blk_alloc ?_ _)); exact BK248.out) hb); have n4_ := Aside0.mk (below_step (by repeat (first | (with_reducible first | exact HB.out | apply below_alloc | apply pw_below_drewN | apply below_drew1 | refine below_set ?_ GE247.out | refine below_set ?_ GE248.out) | exact HB.out)) hb); clear HO_10; clear HO_32; clear BK247; clear BK248; clear HB; have HO_10 := n0_; have HO_32 := n1_; have BK247 := n2_; have BK248 := n3_; have HB := n4_; clear n0_ n1_ n2_ n3_ n4_; (try clear hb); (try clear hb2); (try clear hk); (try clear hi); have hnb38 := NB248_247.out; have hnc38 := NB247_248.out; have hcz39_0 : w37.cell? ⟨gb248, 0, none⟩ = some (.int .i64 0) := (blk_cell BK248.out 0).trans rfl; have hcz39_1 : w37.cell? ⟨gb248, 1, none⟩ = some (.int .i64 0) := (blk_cell BK248.out 1).trans rfl; have hfz39_0 := blk_frozen BK248.out 0; have hfz39_1 := blk_frozen BK248.out 1)))
        refine bodyPost_ret (results_cell_row rfl _ _ gb248 27 #[.int .i64 t260, .int .i64 t261] (0, 0) _ rfl (by (with_reducible repeat (first | refine blk_drewN ?_ _ | refine blk_drew ?_ | refine blk_alloc ?_ _)); refine blk_put (cs := #[.int .i64 t260, .int .i64 0]) ?_ 1 _ rfl; (with_reducible repeat (first | refine blk_drewN ?_ _ | refine blk_drew ?_ | refine blk_alloc ?_ _)); refine blk_put (cs := #[.int .i64 0, .int .i64 0]) ?_ 0 _ rfl; (with_reducible repeat (first | refine blk_drewN ?_ _ | refine blk_drew ?_ | refine blk_alloc ?_ _)); exact BK248.out) Try.underlying27 rfl (by kernel_rfl)) rfl ?_
        exact ⟨by first | rfl | (simp [errW_none, errW_some] <;> rfl) | (simp [*, errW_none, errW_some] <;> rfl), by repeat (first | (with_reducible first | exact HB.out | apply below_alloc | apply pw_below_drewN | apply below_drew1 | refine below_set ?_ GE247.out | refine below_set ?_ GE248.out) | exact HB.out)⟩
def spec_HitBound.f (k : Nat) (l0_0 : List (List Int)) (a1 : Int) (a2 : Int) : Option (Int × Int × Bool) := (spec_hiGood.f k l0_0 a1 a2).bind fun t272 => (if t272 = true then ((spec_hiBound.f k l0_0 a1 a2).bind fun bt273 => (some (bt273.1, bt273.2, true))) else (some (0, 0, false)))
set_option maxHeartbeats 8000000 in
set_option maxRecDepth 100000 in
theorem spec_HitBound.calls (k : Nat) (A0_0 : Option Addr) (c0_0 : Nat) (l0_0 : List (List Int)) (a1 : Int) (a2 : Int) (r1 : Int) (r2 : Int) (r3 : Bool) (w : World) (hr0_0 : Kd.C (Kd.slice 3 (Kd.int .i64)) w A0_0 l0_0.length l0_0) (hc0_0 : l0_0.length ≤ c0_0) (h : spec_HitBound.f k l0_0 a1 a2 = some (r1, r2, r3)) :
    Calls Try.prog 44 #[.agg #[.slice A0_0 l0_0.length c0_0], .int .i64 a1, .int .i64 a2] w fun e w' => e = .returned (.tuple #[.agg #[.int .i64 r1, .int .i64 r2], .bool r3]) ∧ Below w.heap.size w w' := by
  have hu30 := Try.underlying30
  have hu27 := Try.underlying27
  have HR0_0 := Aside0.mk hr0_0
  have HC0_0 := Aside0.mk hc0_0
  clear hr0_0 hc0_0
  have HB := Aside0.mk (Below.refl w.heap.size w)
  have H : ((spec_hiGood.f k l0_0 a1 a2).bind fun t272 => (if t272 = true then ((spec_hiBound.f k l0_0 a1 a2).bind fun bt273 => (some (bt273.1, bt273.2, true))) else (some (0, 0, false)))) = some (r1, r2, r3) := h
  clear h
  replace H := Option.bind_eq_some_iff.mp H
  obtain ⟨t272, A40, H⟩ := H
  replace H : (if t272 = true then ((spec_hiBound.f k l0_0 a1 a2).bind fun bt273 => (some (bt273.1, bt273.2, true))) else (some (0, 0, false))) = some (r1, r2, r3) := H
  have A4 := Aside0.mk A40
  clear A40
  by_cases c5 : t272 = true
  · subst c5
    have H1 : ((spec_hiBound.f k l0_0 a1 a2).bind fun bt273 => (some (bt273.1, bt273.2, true))) = some (r1, r2, r3) := by rw [if_pos rfl] at H; exact H
    clear H
    have H := H1
    clear H1
    replace H := Option.bind_eq_some_iff.mp H
    obtain ⟨⟨t273, t274⟩, A60, H⟩ := H
    replace H : (some (t273, t274, true)) = some (r1, r2, r3) := H
    have A6 := Aside0.mk A60
    clear A60
    simp only [Option.some.injEq, Prod.mk.injEq] at H
    obtain ⟨rfl, rfl, rfl⟩ := H
    go_enter Try.func44, Try.ntmps44
    go_wp2_with (first | ((with_reducible refine gate_dst (N := 3) rfl ?_); refine box_event ?hg (N := 3) ?hd (cs := #[.slice A0_0 l0_0.length c0_0]) (t := 30) ?hr ?_; (case hd => rfl); (case hg => rfl); (case hr => first | (go_simp; done) | (go_simp; rfl)); intro gb270 hg w7 hbox hb; have n0_ := Aside0.mk (below_step (by repeat (first | (with_reducible first | exact HB.out | apply below_alloc | apply pw_below_drewN | apply below_drew1) | exact HB.out)) hb); have n1_ := Aside0.mk (hbox); have n2_ := Aside0.mk ((by rw [hg]; exact (below_size (by repeat (first | (with_reducible first | exact HB.out | apply below_alloc | apply pw_below_drewN | apply below_drew1) | exact HB.out))) : w.heap.size ≤ gb270)); have n3_ := Aside0.mk ((by rw [hg]; exact (below_size (by repeat (first | (with_reducible first | exact HB.out | apply below_alloc | apply pw_below_drewN | apply below_drew1) | exact HB.out))) : w.heap.size ≤ gb270)); clear HB; have HB := n0_; have BK270 := n1_; have GW270 := n2_; have GE270 := n3_; clear n0_ n1_ n2_ n3_; clear hb hbox hg) | ((with_reducible refine gate_dst (N := 6) rfl ?_); refine box_event ?hg (N := 6) ?hd (cs := #[.int .i64 0, .int .i64 0]) (t := 27) ?hr ?_; (case hd => rfl); (case hg => rfl); (case hr => first | (go_simp; done) | (go_simp; rfl)); intro gb271 hg w8 hbox hb; have n0_ := Aside0.mk (blk_below (g := gb270) (o := .cells #[.slice A0_0 l0_0.length c0_0] 30 (0, 0)) (by (with_reducible repeat (first | refine blk_drewN ?_ _ | refine blk_drew ?_ | refine blk_alloc ?_ _)); exact BK270.out) hb); have n1_ := Aside0.mk (below_step (by repeat (first | (with_reducible first | exact HB.out | apply below_alloc | apply pw_below_drewN | apply below_drew1 | refine below_set ?_ GE270.out) | exact HB.out)) hb); have n2_ := Aside0.mk (hbox); have n3_ := Aside0.mk ((by rw [hg]; exact (below_size (by repeat (first | (with_reducible first | exact HB.out | apply below_alloc | apply pw_below_drewN | apply below_drew1 | refine below_set ?_ GE270.out) | exact HB.out))) : w.heap.size ≤ gb271)); have n4_ := Aside0.mk ((by rw [hg]; exact (below_size (by repeat (first | (with_reducible first | exact HB.out | apply below_alloc | apply pw_below_drewN | apply below_drew1 | refine below_set ?_ GE270.out) | exact HB.out))) : w.heap.size ≤ gb271)); have n5_ := Aside0.mk ((by rw [hg]; exact Nat.ne_of_lt (blk_lt (g := gb270) (o := .cells #[.slice A0_0 l0_0.length c0_0] 30 (0, 0)) (by (with_reducible repeat (first | refine blk_drewN ?_ _ | refine blk_drew ?_ | refine blk_alloc ?_ _)); exact BK270.out)) : gb270 ≠ gb271)); have n6_ := Aside0.mk ((by rw [hg]; exact Nat.ne_of_gt (blk_lt (g := gb270) (o := .cells #[.slice A0_0 l0_0.length c0_0] 30 (0, 0)) (by (with_reducible repeat (first | refine blk_drewN ?_ _ | refine blk_drew ?_ | refine blk_alloc ?_ _)); exact BK270.out)) : gb271 ≠ gb270)); clear BK270; clear HB; have BK270 := n0_; have HB := n1_; have BK271 := n2_; have GW271 := n3_; have GE271 := n4_; have NB270_271 := n5_; have NB271_270 := n6_; clear n0_ n1_ n2_ n3_ n4_ n5_ n6_; clear hb hbox hg; have hnb9 := NB270_271.out; have hnc9 := NB271_270.out; have hcz10_0 : w8.cell? ⟨gb270, 0, none⟩ = some (.slice A0_0 l0_0.length c0_0) := (blk_cell BK270.out 0).trans rfl; have hfz10_0 := blk_frozen BK270.out 0) | ((with_reducible refine gate_callee (f := 87) rfl ?_); refine goesL_ (some 11) rfl rfl Try.func87 (by kernel_rfl) rfl #[.agg #[.slice A0_0 l0_0.length c0_0], .int .i64 a1, .int .i64 a2] rfl (by (try simp only [List.map_toArray, List.map_cons, List.map_nil]); first | done | rfl | (simp only [List.length_drop, List.length_take]; rfl)) ?_; (with_reducible refine (spec_hiGood.calls k _ _ l0_0 a1 a2 true _ ?side1 ?side2 A4.out).mono ?_); (case side1 => repeat (first | exact (Kd.C_below HR0_0.out HB.out) | (with_reducible refine Kd.C_alloc ?_ _) | (with_reducible refine Kd.C_drewN ?_ _) | (with_reducible refine Kd.C_drew ?_))); (case side2 => exact HC0_0.out); rintro e w11 ⟨rfl, hb⟩; refine ⟨_, rfl, ?_⟩; have n0_ := Aside0.mk (blk_below (g := gb270) (o := .cells #[.slice A0_0 l0_0.length c0_0] 30 (0, 0)) (by (with_reducible repeat (first | refine blk_drewN ?_ _ | refine blk_drew ?_ | refine blk_alloc ?_ _)); exact BK270.out) hb); have n1_ := Aside0.mk (blk_below (g := gb271) (o := .cells #[.int .i64 0, .int .i64 0] 27 (0, 0)) (by (with_reducible repeat (first | refine blk_drewN ?_ _ | refine blk_drew ?_ | refine blk_alloc ?_ _)); exact BK271.out) hb); have n2_ := Aside0.mk (below_step (by repeat (first | (with_reducible first | exact HB.out | apply below_alloc | apply pw_below_drewN | apply below_drew1 | refine below_set ?_ GE270.out | refine below_set ?_ GE271.out) | exact HB.out)) hb); clear BK270; clear BK271; clear HB; have BK270 := n0_; have BK271 := n1_; have HB := n2_; clear n0_ n1_ n2_; (try clear hb); (try clear hb2); (try clear hk); (try clear hi); have hcz12_0 : w11.cell? ⟨gb270, 0, none⟩ = some (.slice A0_0 l0_0.length c0_0) := (blk_cell BK270.out 0).trans rfl; have hfz12_0 := blk_frozen BK270.out 0) | ((with_reducible refine gate_callee (f := 94) rfl ?_); refine goesL_ (some 17) rfl rfl Try.func94 (by kernel_rfl) rfl #[.agg #[.slice A0_0 l0_0.length c0_0], .int .i64 a1, .int .i64 a2] rfl (by (try simp only [List.map_toArray, List.map_cons, List.map_nil]); first | done | rfl | (simp only [List.length_drop, List.length_take]; rfl)) ?_; (with_reducible refine (spec_hiBound.calls k _ _ l0_0 a1 a2 t273 t274 _ ?side1 ?side2 A6.out).mono ?_); (case side1 => repeat (first | exact (Kd.C_below HR0_0.out HB.out) | (with_reducible refine Kd.C_alloc ?_ _) | (with_reducible refine Kd.C_drewN ?_ _) | (with_reducible refine Kd.C_drew ?_))); (case side2 => exact HC0_0.out); rintro e w13 ⟨rfl, hb⟩; refine ⟨_, rfl, ?_⟩; have n0_ := Aside0.mk (blk_below (g := gb270) (o := .cells #[.slice A0_0 l0_0.length c0_0] 30 (0, 0)) (by (with_reducible repeat (first | refine blk_drewN ?_ _ | refine blk_drew ?_ | refine blk_alloc ?_ _)); exact BK270.out) hb); have n1_ := Aside0.mk (blk_below (g := gb271) (o := .cells #[.int .i64 0, .int .i64 0] 27 (0, 0)) (by (with_reducible repeat (first | refine blk_drewN ?_ _ | refine blk_drew ?_ | refine blk_alloc ?_ _)); exact BK271.out) hb); have n2_ := Aside0.mk (below_step (by repeat (first | (with_reducible first | exact HB.out | apply below_alloc | apply pw_below_drewN | apply below_drew1 | refine below_set ?_ GE270.out | refine below_set ?_ GE271.out) | exact HB.out)) hb); clear BK270; clear BK271; clear HB; have BK270 := n0_; have BK271 := n1_; have HB := n2_; clear n0_ n1_ n2_; (try clear hb); (try clear hb2); (try clear hk); (try clear hi); have hcz14_0 : w13.cell? ⟨gb271, 0, none⟩ = some (.int .i64 0) := (blk_cell BK271.out 0).trans rfl; have hcz14_1 : w13.cell? ⟨gb271, 1, none⟩ = some (.int .i64 0) := (blk_cell BK271.out 1).trans rfl; have hfz14_0 := blk_frozen BK271.out 0; have hfz14_1 := blk_frozen BK271.out 1))
    refine bodyPost_ret (results_ct rfl _ _ gb271 27 #[.int .i64 t273, .int .i64 t274] (0, 0) _ rfl (by (with_reducible repeat (first | refine blk_drewN ?_ _ | refine blk_drew ?_ | refine blk_alloc ?_ _)); refine blk_put (cs := #[.int .i64 t273, .int .i64 0]) ?_ 1 _ rfl; (with_reducible repeat (first | refine blk_drewN ?_ _ | refine blk_drew ?_ | refine blk_alloc ?_ _)); refine blk_put (cs := #[.int .i64 0, .int .i64 0]) ?_ 0 _ rfl; (with_reducible repeat (first | refine blk_drewN ?_ _ | refine blk_drew ?_ | refine blk_alloc ?_ _)); exact BK271.out) Try.underlying27 rfl (by kernel_rfl)) rfl ?_
    exact ⟨by first | rfl | (simp [errW_none, errW_some] <;> rfl) | (simp [*, errW_none, errW_some] <;> rfl), by repeat (first | (with_reducible first | exact HB.out | apply below_alloc | apply pw_below_drewN | apply below_drew1 | refine below_set ?_ GE270.out | refine below_set ?_ GE271.out) | exact HB.out)⟩
  · replace c5 := Bool.eq_false_iff.mpr c5
    subst c5
    have H1 : (some (0, 0, false)) = some (r1, r2, r3) := by rw [if_neg (show ¬ (false = true) by decide)] at H; exact H
    clear H
    have H := H1
    clear H1
    simp only [Option.some.injEq, Prod.mk.injEq] at H
    obtain ⟨rfl, rfl, rfl⟩ := H
    go_enter Try.func44, Try.ntmps44
    go_wp2_with (first | ((with_reducible refine gate_dst (N := 3) rfl ?_); refine box_event ?hg (N := 3) ?hd (cs := #[.slice A0_0 l0_0.length c0_0]) (t := 30) ?hr ?_; (case hd => rfl); (case hg => rfl); (case hr => first | (go_simp; done) | (go_simp; rfl)); intro gb270 hg w15 hbox hb; have n0_ := Aside0.mk (below_step (by repeat (first | (with_reducible first | exact HB.out | apply below_alloc | apply pw_below_drewN | apply below_drew1) | exact HB.out)) hb); have n1_ := Aside0.mk (hbox); have n2_ := Aside0.mk ((by rw [hg]; exact (below_size (by repeat (first | (with_reducible first | exact HB.out | apply below_alloc | apply pw_below_drewN | apply below_drew1) | exact HB.out))) : w.heap.size ≤ gb270)); have n3_ := Aside0.mk ((by rw [hg]; exact (below_size (by repeat (first | (with_reducible first | exact HB.out | apply below_alloc | apply pw_below_drewN | apply below_drew1) | exact HB.out))) : w.heap.size ≤ gb270)); clear HB; have HB := n0_; have BK270 := n1_; have GW270 := n2_; have GE270 := n3_; clear n0_ n1_ n2_ n3_; clear hb hbox hg) | ((with_reducible refine gate_dst (N := 6) rfl ?_); refine box_event ?hg (N := 6) ?hd (cs := #[.int .i64 0, .int .i64 0]) (t := 27) ?hr ?_; (case hd => rfl); (case hg => rfl); (case hr => first | (go_simp; done) | (go_simp; rfl)); intro gb271 hg w16 hbox hb; have n0_ := Aside0.mk (blk_below (g := gb270) (o := .cells #[.slice A0_0 l0_0.length c0_0] 30 (0, 0)) (by (with_reducible repeat (first | refine blk_drewN ?_ _ | refine blk_drew ?_ | refine blk_alloc ?_ _)); exact BK270.out) hb); have n1_ := Aside0.mk (below_step (by repeat (first | (with_reducible first | exact HB.out | apply below_alloc | apply pw_below_drewN | apply below_drew1 | refine below_set ?_ GE270.out) | exact HB.out)) hb); have n2_ := Aside0.mk (hbox); have n3_ := Aside0.mk ((by rw [hg]; exact (below_size (by repeat (first | (with_reducible first | exact HB.out | apply below_alloc | apply pw_below_drewN | apply below_drew1 | refine below_set ?_ GE270.out) | exact HB.out))) : w.heap.size ≤ gb271)); have n4_ := Aside0.mk ((by rw [hg]; exact (below_size (by repeat (first | (with_reducible first | exact HB.out | apply below_alloc | apply pw_below_drewN | apply below_drew1 | refine below_set ?_ GE270.out) | exact HB.out))) : w.heap.size ≤ gb271)); have n5_ := Aside0.mk ((by rw [hg]; exact Nat.ne_of_lt (blk_lt (g := gb270) (o := .cells #[.slice A0_0 l0_0.length c0_0] 30 (0, 0)) (by (with_reducible repeat (first | refine blk_drewN ?_ _ | refine blk_drew ?_ | refine blk_alloc ?_ _)); exact BK270.out)) : gb270 ≠ gb271)); have n6_ := Aside0.mk ((by rw [hg]; exact Nat.ne_of_gt (blk_lt (g := gb270) (o := .cells #[.slice A0_0 l0_0.length c0_0] 30 (0, 0)) (by (with_reducible repeat (first | refine blk_drewN ?_ _ | refine blk_drew ?_ | refine blk_alloc ?_ _)); exact BK270.out)) : gb271 ≠ gb270)); clear BK270; clear HB; have BK270 := n0_; have HB := n1_; have BK271 := n2_; have GW271 := n3_; have GE271 := n4_; have NB270_271 := n5_; have NB271_270 := n6_; clear n0_ n1_ n2_ n3_ n4_ n5_ n6_; clear hb hbox hg; have hnb17 := NB270_271.out; have hnc17 := NB271_270.out; have hcz18_0 : w16.cell? ⟨gb270, 0, none⟩ = some (.slice A0_0 l0_0.length c0_0) := (blk_cell BK270.out 0).trans rfl; have hfz18_0 := blk_frozen BK270.out 0) | ((with_reducible refine gate_callee (f := 87) rfl ?_); refine goesL_ (some 11) rfl rfl Try.func87 (by kernel_rfl) rfl #[.agg #[.slice A0_0 l0_0.length c0_0], .int .i64 a1, .int .i64 a2] rfl (by (try simp only [List.map_toArray, List.map_cons, List.map_nil]); first | done | rfl | (simp only [List.length_drop, List.length_take]; rfl)) ?_; (with_reducible refine (spec_hiGood.calls k _ _ l0_0 a1 a2 false _ ?side1 ?side2 A4.out).mono ?_); (case side1 => repeat (first | exact (Kd.C_below HR0_0.out HB.out) | (with_reducible refine Kd.C_alloc ?_ _) | (with_reducible refine Kd.C_drewN ?_ _) | (with_reducible refine Kd.C_drew ?_))); (case side2 => exact HC0_0.out); rintro e w19 ⟨rfl, hb⟩; refine ⟨_, rfl, ?_⟩; have n0_ := Aside0.mk (blk_below (g := gb270) (o := .cells #[.slice A0_0 l0_0.length c0_0] 30 (0, 0)) (by (with_reducible repeat (first | refine blk_drewN ?_ _ | refine blk_drew ?_ | refine blk_alloc ?_ _)); exact BK270.out) hb); have n1_ := Aside0.mk (blk_below (g := gb271) (o := .cells #[.int .i64 0, .int .i64 0] 27 (0, 0)) (by (with_reducible repeat (first | refine blk_drewN ?_ _ | refine blk_drew ?_ | refine blk_alloc ?_ _)); exact BK271.out) hb); have n2_ := Aside0.mk (below_step (by repeat (first | (with_reducible first | exact HB.out | apply below_alloc | apply pw_below_drewN | apply below_drew1 | refine below_set ?_ GE270.out | refine below_set ?_ GE271.out) | exact HB.out)) hb); clear BK270; clear BK271; clear HB; have BK270 := n0_; have BK271 := n1_; have HB := n2_; clear n0_ n1_ n2_; (try clear hb); (try clear hb2); (try clear hk); (try clear hi); have hcz20_0 : w19.cell? ⟨gb271, 0, none⟩ = some (.int .i64 0) := (blk_cell BK271.out 0).trans rfl; have hcz20_1 : w19.cell? ⟨gb271, 1, none⟩ = some (.int .i64 0) := (blk_cell BK271.out 1).trans rfl; have hfz20_0 := blk_frozen BK271.out 0; have hfz20_1 := blk_frozen BK271.out 1))
    refine bodyPost_ret (results_ct rfl _ _ gb271 27 #[.int .i64 0, .int .i64 0] (0, 0) _ rfl (by (with_reducible repeat (first | refine blk_drewN ?_ _ | refine blk_drew ?_ | refine blk_alloc ?_ _)); refine blk_put (cs := #[.int .i64 0, .int .i64 0]) ?_ 1 _ rfl; (with_reducible repeat (first | refine blk_drewN ?_ _ | refine blk_drew ?_ | refine blk_alloc ?_ _)); refine blk_put (cs := #[.int .i64 0, .int .i64 0]) ?_ 0 _ rfl; (with_reducible repeat (first | refine blk_drewN ?_ _ | refine blk_drew ?_ | refine blk_alloc ?_ _)); exact BK271.out) Try.underlying27 rfl (by kernel_rfl)) rfl ?_
    exact ⟨by first | rfl | (simp [errW_none, errW_some] <;> rfl) | (simp [*, errW_none, errW_some] <;> rfl), by repeat (first | (with_reducible first | exact HB.out | apply below_alloc | apply pw_below_drewN | apply below_drew1 | refine below_set ?_ GE270.out | refine below_set ?_ GE271.out) | exact HB.out)⟩
end Go.Proofs.Ytnbnalbomflafaa.GT
/-! ## Dp -/
namespace Go.Proofs.Ytnbnalbomflafaa.DT
open Go.RowKit Go.Proofs.YtnbnalbomflafaaW.PrintWords Go.Proofs.YtnbnalbomflafaaW.PrintLast Go.Proofs.YtnbnalbomflafaaW.PrintMore
open Go.Proofs.Ytnbnalbomflafaa.GA hiding info37
open Go.Proofs.Ytnbnalbomflafaa.GR hiding rd_L1 at_L1
open Go.Proofs.Ytnbnalbomflafaa.RA
set_option linter.unusedVariables false
set_option linter.unusedSimpArgs false
/-- What is known of a good graph's equations. -/
structure Eqs (l : List (List Int)) (own : Int → Int) (atA a b : Int) : Prop where
  m6 : (innerL l a b).length ≤ 6
  sq : Sq (innerL l a b).length (matM l a b)
  bM : ∀ r c, r < (innerL l a b).length → c < (innerL l a b).length → (matF (matM l a b) r c).natAbs ≤ 5
  lR : (rightL l own atA 0 a b (innerL l a b)).length = (innerL l a b).length
  bR : ∀ r : Nat, r < (innerL l a b).length → (rd (rightL l own atA 0 a b (innerL l a b)) (r : Int)).natAbs ≤ 5
theorem eqs_of {l : List (List Int)} {own : Int → Int} {atA a b : Int} (h : goodB l a b = true) (hS : ∀ p : Int, 0 ≤ p → p < l.length → ∀ x, x ≤ (rd_L1 l p).length → -5 ≤ sumF own atA 0 a b p (rd_L1 l p) x ∧ sumF own atA 0 a b p (rd_L1 l p) x ≤ 5) : Eqs l own atA a b := by
  obtain ⟨hab, a0, a1, b0, b1, h8, h5, _, _⟩ := good_facts h
  refine ⟨inner_six h8 a0 a1 b0 b1 hab, sq_matM l a b, fun r c hr hc => matM_bound h5 hr hc, by simp [rightL], fun r hr => ?_⟩
  rw [rightL_at l own atA 0 a b _ hr]
  have hm := inner_mem (l := l) (a := a) (b := b) (p := rd (innerL l a b) (r : Int)) (by rw [rd_at _ r hr]; exact List.getElem_mem _)
  have := hS _ hm.1 hm.2.1 _ (Nat.le_refl _)
  omega
theorem eqs_solve {l : List (List Int)} {own : Int → Int} {atA a b : Int} (h : Eqs l own atA a b) (k : Nat) (hk : 300 ≤ k) : spec_hiSolve.f k (matM l a b) (rightL l own atA 0 a b (innerL l a b)) = some (numsL (innerL l a b).length (matM l a b) (rightL l own atA 0 a b (innerL l a b)), denOf l a b) := solve_f h.m6 h.sq h.lR h.bM h.bR k hk
theorem nums_at (l : List (List Int)) (own : Int → Int) (atA a b : Int) {j : Nat} (hj : j < (innerL l a b).length) : rd (numsL (innerL l a b).length (matM l a b) (rightL l own atA 0 a b (innerL l a b))) (j : Int) = numOf l own atA 0 a b j := by
  rw [rd_at _ j (by simpa [numsL] using hj)]
  simp [numsL, numOf]
theorem num_bound {l : List (List Int)} {own : Int → Int} {atA a b : Int} (h : Eqs l own atA a b) {j : Nat} (hj : j < (innerL l a b).length) : (numOf l own atA 0 a b j).natAbs ≤ 11250000 := by
  unfold numOf
  refine det_le h.m6 fun r c hr hc => ?_
  rw [colL_at h.sq _ hr hc]
  split
  · exact h.bR r hr
  · exact h.bM r c hr hc
theorem den_bound {l : List (List Int)} {own : Int → Int} {atA a b : Int} (h : Eqs l own atA a b) : (denOf l a b).natAbs ≤ 11250000 := det_le h.m6 h.bM
theorem good_graph {l : List (List Int)} {a b : Int} (h : goodB l a b = true) : KA.isGraphB l = true := (KA.place_is ((goodB_is l a b).2 h).1).1
/-- What the program's list holds at a place. -/
theorem outL_at {l : List (List Int)} {own : Int → Int} {atA a b : Int} {p : Int} (h0 : 0 ≤ p) (h1 : p < l.length) : rd (outL l own atA 0 a b) p = if p = a then atA * denOf l a b else if p = b then 0 * denOf l a b else numOf l own atA 0 a b ((innerL l a b).idxOf p) := by
  obtain ⟨i, rfl⟩ := Int.eq_ofNat_of_zero_le h0
  rw [rd_at _ i (by simp [outL]; omega)]
  simp [outL]
theorem out_bound {l : List (List Int)} {own : Int → Int} {atA a b : Int} (h : Eqs l own atA a b) (hA : -1 ≤ atA ∧ atA ≤ 1) {p : Int} (h0 : 0 ≤ p) (h1 : p < l.length) : (rd (outL l own atA 0 a b) p).natAbs ≤ 11250000 := by
  rw [outL_at h0 h1]
  have hd := den_bound h
  split
  · rw [Int.natAbs_mul]
    have h2 : atA.natAbs ≤ 1 := by omega
    have := Nat.mul_le_mul h2 hd
    omega
  · split
    · simp
    · rename_i q1 q2
      exact num_bound h (List.idxOf_lt_length_iff.2 (mem_inner h0 h1 q1 q2))
end Go.Proofs.Ytnbnalbomflafaa.DT
/-! ## Dq -/
namespace Go.Proofs.Ytnbnalbomflafaa.DT
open Go.RowKit Go.Proofs.YtnbnalbomflafaaW.PrintWords Go.Proofs.YtnbnalbomflafaaW.PrintLast Go.Proofs.YtnbnalbomflafaaW.PrintMore
open Go.Proofs.Ytnbnalbomflafaa.GA hiding info37
open Go.Proofs.Ytnbnalbomflafaa.RA
set_option linter.unusedVariables false
set_option linter.unusedSimpArgs false
/-- The answers: a ratio. -/
def RatC (w : World) (R : Int × Int) (ok : Bool) (e : Ending) (w' : World) : Prop := e = .returned (.tuple #[.agg #[.int .i64 R.1, .int .i64 R.2], .bool ok]) ∧ Below w.heap.size w w'
end Go.Proofs.Ytnbnalbomflafaa.DT
/-! ## Dr -/
namespace Go.Proofs.Ytnbnalbomflafaa.RA
open Go.RowKit Go.Proofs.YtnbnalbomflafaaW.PrintWords Go.Proofs.YtnbnalbomflafaaW.PrintLast Go.Proofs.YtnbnalbomflafaaW.PrintMore
open Go.Proofs.Ytnbnalbomflafaa.DT
set_option linter.unusedVariables false
set_option linter.unusedSimpArgs false
theorem eqRat_c (w : World) (x y : Int) : Calls Try.prog 23 #[.agg #[.int .i64 x, .int .i64 y], .agg #[.int .i64 x, .int .i64 y]] w fun e w' => e = .returned (.bool true) ∧ Below w.heap.size w w' :=
  GA.laws_eqRatio.calls x y x y true w (by simp [GA.laws_eqRatio.f])
end Go.Proofs.Ytnbnalbomflafaa.RA
/-! ## HA0 -/
namespace Go.Proofs.Ytnbnalbomflafaa.HA
open Go.RowKit Go.Proofs.YtnbnalbomflafaaW.PrintWords Go.Proofs.YtnbnalbomflafaaW.PrintLast Go.Proofs.YtnbnalbomflafaaW.PrintMore
open Go.Proofs.Ytnbnalbomflafaa.GA Go.Proofs.Ytnbnalbomflafaa.KA
attribute [local go_sem] max2_int min2_int max_two min_two max_three min_three max_four min_four   -- for this text's walks alone
set_option linter.unusedVariables false
set_option linter.unusedSimpArgs false
def errW : Option Int → Value
  | none => .nilIface
  | some c => .iface 0 (.int .i64 c)
theorem errW_none : errW none = .nilIface := rfl
theorem errW_some (c : Int) : errW (some c) = .iface 0 (.int .i64 c) := rfl
end Go.Proofs.Ytnbnalbomflafaa.HA
/-! ## GU0 -/
namespace Go.Proofs.Ytnbnalbomflafaa.GU
open Go.RowKit Go.Proofs.YtnbnalbomflafaaW.PrintWords Go.Proofs.YtnbnalbomflafaaW.PrintLast Go.Proofs.YtnbnalbomflafaaW.PrintMore
open Go.Proofs.Ytnbnalbomflafaa.GA
attribute [local go_sem] max2_int min2_int max_two min_two max_three min_three max_four min_four   -- for this text's walks alone
set_option linter.unusedVariables false
set_option linter.unusedSimpArgs false
def errW : Option Int → Value
  | none => .nilIface
  | some c => .iface 0 (.int .i64 c)
theorem errW_none : errW none = .nilIface := rfl
theorem errW_some (c : Int) : errW (some c) = .iface 0 (.int .i64 c) := rfl
end Go.Proofs.Ytnbnalbomflafaa.GU
/-! ## GV0 -/
namespace Go.Proofs.Ytnbnalbomflafaa.GV
open Go.RowKit Go.Proofs.YtnbnalbomflafaaW.PrintWords Go.Proofs.YtnbnalbomflafaaW.PrintLast Go.Proofs.YtnbnalbomflafaaW.PrintMore
open Go.Proofs.Ytnbnalbomflafaa.GA Go.Proofs.Ytnbnalbomflafaa.KA Go.Proofs.Ytnbnalbomflafaa.GU Go.Proofs.Ytnbnalbomflafaa.HA Go.Proofs.Ytnbnalbomflafaa.DT
attribute [local go_sem] max2_int min2_int max_two min_two max_three min_three max_four min_four   -- for this text's walks alone
set_option linter.unusedVariables false
set_option linter.unusedSimpArgs false
def errW : Option Int → Value
  | none => .nilIface
  | some c => .iface 0 (.int .i64 c)
theorem errW_none : errW none = .nilIface := rfl
theorem errW_some (c : Int) : errW (some c) = .iface 0 (.int .i64 c) := rfl
def rd_L1 (xs : List (List Int)) (i : Int) : (List Int) := xs.getD i.toNat ([] : List Int)
theorem at_L1 {w : World} {A : Option Addr} {n : Nat} {xs : List (List Int)} (h : Kd.C (Kd.slice 3 (Kd.int .i64)) w A n xs) (i : Int) (h0 : 0 ≤ i) (h1 : i < n) : ∃ ad A0 c0, A = some ad ∧ w.cell? (ad.add i.toNat) = some (.slice A0 (rd_L1 xs i).length c0) ∧ (rd_L1 xs i).length ≤ c0 ∧ (Kd.int .i64).C w A0 (rd_L1 xs i).length (rd_L1 xs i) := by
  obtain ⟨ad, c, e, _, hK, hc0⟩ := Kd.C_get h ([] : List Int) i h0 h1
  have hc : ∀ j u, c[j]? = some u → w.cell? (ad.add (i.toNat * 1 + j)) = some u := hc0
  obtain ⟨A0, c0, rfl, l0, g0⟩ := hK
  exact ⟨ad, A0, c0, e, by have hq := hc 0 _ rfl; rwa [Nat.mul_one, Nat.add_zero] at hq, l0, g0⟩
end Go.Proofs.Ytnbnalbomflafaa.GV
/-! ## GV1 -/
namespace Go.Proofs.Ytnbnalbomflafaa.GV
open Go.RowKit Go.Proofs.YtnbnalbomflafaaW.PrintWords Go.Proofs.YtnbnalbomflafaaW.PrintLast Go.Proofs.YtnbnalbomflafaaW.PrintMore
open Go.Proofs.Ytnbnalbomflafaa.GA Go.Proofs.Ytnbnalbomflafaa.KA Go.Proofs.Ytnbnalbomflafaa.GU Go.Proofs.Ytnbnalbomflafaa.HA Go.Proofs.Ytnbnalbomflafaa.DT
attribute [local go_sem] max2_int min2_int max_two min_two max_three min_three max_four min_four   -- for this text's walks alone
set_option linter.unusedVariables false
set_option linter.unusedSimpArgs false
noncomputable def impl_size.f (a0 : Int) : Option (Int) := some (mx a0 (wrap64 (-a0)))
set_option maxHeartbeats 8000000 in
set_option maxRecDepth 100000 in
theorem impl_size.calls (a0 : Int) (r : Int) (w : World) (h : impl_size.f a0 = some r) :
    Calls Try.prog 95 #[.int .i64 a0] w fun e w' => e = .returned (.int .i64 r) ∧ Below w.heap.size w w' := by
  have HB := Aside0.mk (Below.refl w.heap.size w)
  have H : (some (mx a0 (wrap64 (-a0)))) = some r := h
  clear h
  obtain ⟨ji2, hji2⟩ : ∃ j_ : Int, (mx a0 (wrap64 (-a0))) = j_ := ⟨_, rfl⟩
  replace H : (some ji2) = some r := by first | (rw [hji2] at H; exact H) | (simp only [hji2] at H ⊢; exact H)
  have hji2_ : (if a0 < (wrap64 (-a0)) then (wrap64 (-a0)) else a0) = ji2 := hji2
  obtain rfl := Option.some.inj H
  go_enter Try.func95, Try.ntmps95
  go_wp2
  go_ret
  exact ⟨by first | rfl | (simp [errW_none, errW_some] <;> rfl) | (simp only [← hji2]; first | rfl | (simp [errW_none, errW_some] <;> rfl)) | (simp [*, errW_none, errW_some] <;> rfl), by repeat (first | (with_reducible first | exact HB.out | apply below_alloc | apply pw_below_drewN | apply below_drew1) | exact HB.out)⟩
end Go.Proofs.Ytnbnalbomflafaa.GV
/-! ## GV2 -/
namespace Go.Proofs.Ytnbnalbomflafaa.GV
open Go.RowKit Go.Proofs.YtnbnalbomflafaaW.PrintWords Go.Proofs.YtnbnalbomflafaaW.PrintLast Go.Proofs.YtnbnalbomflafaaW.PrintMore
open Go.Proofs.Ytnbnalbomflafaa.GA Go.Proofs.Ytnbnalbomflafaa.KA Go.Proofs.Ytnbnalbomflafaa.GU Go.Proofs.Ytnbnalbomflafaa.HA Go.Proofs.Ytnbnalbomflafaa.DT
attribute [local go_sem] max2_int min2_int max_two min_two max_three min_three max_four min_four   -- for this text's walks alone
set_option linter.unusedVariables false
set_option linter.unusedSimpArgs false
mutual
noncomputable def impl_HitBound.l0 : Nat → Int → Int → List Int → Int → Int → List (List Int) → Int → Int → Option (Int × Int × Bool)
  | 0, _, _, _, _, _, _, _, _ => none
  | k + 1, x1, x2, x8, x9, x10, x31, x32, x33 => if x33 < x32 then (if 0 ≤ x33 then (if x33 < (x31.length : Int) then (impl_HitBound.l1 k x1 x2 x8 x9 x10 x33 x31 x32 x33 (rd_L1 x31 x33) ((rd_L1 x31 x33).length : Int) 0) else (none)) else (none)) else ((impl_size.f x9).bind fun t151 => ((impl_ratio.f k x10 t151).bind fun bt152 => (some (bt152.1, bt152.2, true))))
noncomputable def impl_HitBound.l1 : Nat → Int → Int → List Int → Int → Int → Int → List (List Int) → Int → Int → List Int → Int → Int → Option (Int × Int × Bool)
  | 0, _, _, _, _, _, _, _, _, _, _, _, _ => none
  | k + 1, x1, x2, x8, x9, x10, x11, x31, x32, x33, x38, x39, x40 => if x40 < x39 then (if 0 ≤ x40 then (if x40 < (x38.length : Int) then (if x11 = x1 then (impl_HitBound.l1 k x1 x2 x8 x9 x10 x11 x31 x32 x33 x38 x39 (wrap64 (x40 + 1))) else (if x11 = x2 then (impl_HitBound.l1 k x1 x2 x8 x9 x10 x11 x31 x32 x33 x38 x39 (wrap64 (x40 + 1))) else (if 0 ≤ x11 then (if x11 < (x8.length : Int) then (if 0 ≤ (rd x38 x40) then (if (rd x38 x40) < (x8.length : Int) then ((impl_size.f (wrap64 ((rd x8 x11) - (rd x8 (rd x38 x40))))).bind fun t158 => (impl_HitBound.l1 k x1 x2 x8 x9 (wrap64 (x10 + t158)) x11 x31 x32 x33 x38 x39 (wrap64 (x40 + 1)))) else (none)) else (none)) else (none)) else (none)))) else (none)) else (none)) else (impl_HitBound.l0 k x1 x2 x8 x9 x10 x31 x32 (wrap64 (x33 + 1)))
end
noncomputable def impl_HitBound.f (k : Nat) (l0_0 : List (List Int)) (a1 : Int) (a2 : Int) : Option (Int × Int × Bool) := (impl_goodEnd.f l0_0 a1 a2).bind fun t145 => (if t145 = true then ((impl_chances.f l0_0 a1 a2).bind fun bt146 => ((impl_size.f bt146.2).bind fun t150 => (impl_HitBound.l0 k a1 a2 bt146.1 bt146.2 t150 l0_0 (l0_0.length : Int) 0))) else (some (0, 0, false)))
noncomputable def impl_HitBound.T12 : Bool × List (List Nat × List Nat) := (true, [([], []), ([], []), ([], []), ([1, 2], [1, 2]), ([3], [3]), ([], []), ([], []), ([5, 6], [5, 6]), ([7], [7]), ([4, 8], [4, 8]), ([9], [9]), ([0, 10], [0, 10]), ([11, 10, 0, 1, 2, 3, 4, 5, 6, 7, 8, 9, 10, 11], [0, 11])])
noncomputable def impl_HitBound.B12 : List Nat := [0, 0, 0, 6, 14, 0, 0, 96, 224, 510, 1022, 2047, 4095]
theorem impl_HitBound.tab12 : rtab .any (opsOf Try.f45 12) = impl_HitBound.T12 := by kernel_rfl
theorem impl_HitBound.bits12 : waitsOk impl_HitBound.T12.2 impl_HitBound.B12 = true := by kernel_rfl
set_option maxHeartbeats 8000000 in
set_option maxRecDepth 100000 in
theorem impl_HitBound.calls (k : Nat) (A0_0 : Option Addr) (c0_0 : Nat) (l0_0 : List (List Int)) (a1 : Int) (a2 : Int) (r1 : Int) (r2 : Int) (r3 : Bool) (w : World) (hr0_0 : Kd.C (Kd.slice 3 (Kd.int .i64)) w A0_0 l0_0.length l0_0) (hc0_0 : l0_0.length ≤ c0_0) (h : impl_HitBound.f k l0_0 a1 a2 = some (r1, r2, r3)) :
    Calls Try.prog 45 #[.agg #[.slice A0_0 l0_0.length c0_0], .int .i64 a1, .int .i64 a2] w fun e w' => e = .returned (.tuple #[.agg #[.int .i64 r1, .int .i64 r2], .bool r3]) ∧ Below w.heap.size w w' := by
  have hu30 := Try.underlying30
  have hu27 := Try.underlying27
  have HR0_0 := Aside0.mk hr0_0
  have HC0_0 := Aside0.mk hc0_0
  clear hr0_0 hc0_0
  have HB := Aside0.mk (Below.refl w.heap.size w)
  have H : ((impl_goodEnd.f l0_0 a1 a2).bind fun t145 => (if t145 = true then ((impl_chances.f l0_0 a1 a2).bind fun bt146 => ((impl_size.f bt146.2).bind fun t150 => (impl_HitBound.l0 k a1 a2 bt146.1 bt146.2 t150 l0_0 (l0_0.length : Int) 0))) else (some (0, 0, false)))) = some (r1, r2, r3) := h
  clear h
  replace H := Option.bind_eq_some_iff.mp H
  obtain ⟨t145, A40, H⟩ := H
  replace H : (if t145 = true then ((impl_chances.f l0_0 a1 a2).bind fun bt146 => ((impl_size.f bt146.2).bind fun t150 => (impl_HitBound.l0 k a1 a2 bt146.1 bt146.2 t150 l0_0 (l0_0.length : Int) 0))) else (some (0, 0, false))) = some (r1, r2, r3) := H
  have A4 := Aside0.mk A40
  clear A40
  by_cases c5 : t145 = true
  · subst c5
    have H1 : ((impl_chances.f l0_0 a1 a2).bind fun bt146 => ((impl_size.f bt146.2).bind fun t150 => (impl_HitBound.l0 k a1 a2 bt146.1 bt146.2 t150 l0_0 (l0_0.length : Int) 0))) = some (r1, r2, r3) := by rw [if_pos rfl] at H; exact H
    clear H
    have H := H1
    clear H1
    replace H := Option.bind_eq_some_iff.mp H
    obtain ⟨⟨t146, t149⟩, A60, H⟩ := H
    replace H : ((impl_size.f t149).bind fun t150 => (impl_HitBound.l0 k a1 a2 t146 t149 t150 l0_0 (l0_0.length : Int) 0)) = some (r1, r2, r3) := H
    have A6 := Aside0.mk A60
    clear A60
    replace H := Option.bind_eq_some_iff.mp H
    obtain ⟨t150, A70, H⟩ := H
    replace H : (impl_HitBound.l0 k a1 a2 t146 t149 t150 l0_0 (l0_0.length : Int) 0) = some (r1, r2, r3) := H
    have A7 := Aside0.mk A70
    clear A70
    have H' := Aside0.mk H
    clear H
    go_enter Try.func45, Try.ntmps45
    go_wp2_with (first | ((with_reducible refine gate_dst (N := 3) rfl ?_); refine box_event ?hg (N := 3) ?hd (cs := #[.slice A0_0 l0_0.length c0_0]) (t := 30) ?hr ?_; (case hd => rfl); (case hg => rfl); (case hr => first | (go_simp; done) | (go_simp; rfl)); intro gb143 hg w8 hbox hb; have n0_ := Aside0.mk (below_step (by repeat (first | (with_reducible first | exact HB.out | apply below_alloc | apply pw_below_drewN | apply below_drew1) | exact HB.out)) hb); have n1_ := Aside0.mk (hbox); have n2_ := Aside0.mk ((by rw [hg]; exact (below_size (by repeat (first | (with_reducible first | exact HB.out | apply below_alloc | apply pw_below_drewN | apply below_drew1) | exact HB.out))) : w.heap.size ≤ gb143)); have n3_ := Aside0.mk ((by rw [hg]; exact (below_size (by repeat (first | (with_reducible first | exact HB.out | apply below_alloc | apply pw_below_drewN | apply below_drew1) | exact HB.out))) : w.heap.size ≤ gb143)); clear HB; have HB := n0_; have BK143 := n1_; have GW143 := n2_; have GE143 := n3_; clear n0_ n1_ n2_ n3_; clear hb hbox hg) | ((with_reducible refine gate_dst (N := 6) rfl ?_); refine box_event ?hg (N := 6) ?hd (cs := #[.int .i64 0, .int .i64 0]) (t := 27) ?hr ?_; (case hd => rfl); (case hg => rfl); (case hr => first | (go_simp; done) | (go_simp; rfl)); intro gb144 hg w9 hbox hb; have n0_ := Aside0.mk (blk_below (g := gb143) (o := .cells #[.slice A0_0 l0_0.length c0_0] 30 (0, 0)) (by (with_reducible repeat (first | refine blk_drewN ?_ _ | refine blk_drew ?_ | refine blk_alloc ?_ _)); exact BK143.out) hb); have n1_ := Aside0.mk (below_step (by repeat (first | (with_reducible first | exact HB.out | apply below_alloc | apply pw_below_drewN | apply below_drew1 | refine below_set ?_ GE143.out) | exact HB.out)) hb); have n2_ := Aside0.mk (hbox); have n3_ := Aside0.mk ((by rw [hg]; exact (below_size (by repeat (first | (with_reducible first | exact HB.out | apply below_alloc | apply pw_below_drewN | apply below_drew1 | refine below_set ?_ GE143.out) | exact HB.out))) : w.heap.size ≤ gb144)); have n4_ := Aside0.mk ((by rw [hg]; exact (below_size (by repeat (first | (with_reducible first | exact HB.out | apply below_alloc | apply pw_below_drewN | apply below_drew1 | refine below_set ?_ GE143.out) | exact HB.out))) : w.heap.size ≤ gb144)); have n5_ := Aside0.mk ((by rw [hg]; exact Nat.ne_of_lt (blk_lt (g := gb143) (o := .cells #[.slice A0_0 l0_0.length c0_0] 30 (0, 0)) (by (with_reducible repeat (first | refine blk_drewN ?_ _ | refine blk_drew ?_ | refine blk_alloc ?_ _)); exact BK143.out)) : gb143 ≠ gb144)); have n6_ := Aside0.mk ((by rw [hg]; exact Nat.ne_of_gt (blk_lt (g := gb143) (o := .cells #[.slice A0_0 l0_0.length c0_0] 30 (0, 0)) (by (with_reducible repeat (first | refine blk_drewN ?_ _ | refine blk_drew ?_ | refine blk_alloc ?_ _)); exact BK143.out)) : gb144 ≠ gb143)); clear BK143; clear HB; have BK143 := n0_; have HB := n1_; have BK144 := n2_; have GW144 := n3_; have GE144 := n4_; have NB143_144 := n5_; have NB144_143 := n6_; clear n0_ n1_ n2_ n3_ n4_ n5_ n6_; clear hb hbox hg; have hnb10 := NB143_144.out; have hnc10 := NB144_143.out; have hcz11_0 : w9.cell? ⟨gb143, 0, none⟩ = some (.slice A0_0 l0_0.length c0_0) := (blk_cell BK143.out 0).trans rfl; have hfz11_0 := blk_frozen BK143.out 0) | ((with_reducible refine gate_callee (f := 81) rfl ?_); refine goesL_ (some 18) rfl rfl Try.func81 (by kernel_rfl) rfl #[.agg #[.slice A0_0 l0_0.length c0_0], .int .i64 a1, .int .i64 a2] rfl (by (try simp only [List.map_toArray, List.map_cons, List.map_nil]); first | done | rfl | (simp only [List.length_drop, List.length_take]; rfl)) ?_; (with_reducible refine (impl_goodEnd.calls _ _ l0_0 a1 a2 true _ ?side1 ?side2 A4.out).mono ?_); (case side1 => repeat (first | exact (Kd.C_below HR0_0.out HB.out) | (with_reducible refine Kd.C_alloc ?_ _) | (with_reducible refine Kd.C_drewN ?_ _) | (with_reducible refine Kd.C_drew ?_))); (case side2 => exact HC0_0.out); rintro e w12 ⟨rfl, hb⟩; refine ⟨_, rfl, ?_⟩; have n0_ := Aside0.mk (blk_below (g := gb143) (o := .cells #[.slice A0_0 l0_0.length c0_0] 30 (0, 0)) (by (with_reducible repeat (first | refine blk_drewN ?_ _ | refine blk_drew ?_ | refine blk_alloc ?_ _)); exact BK143.out) hb); have n1_ := Aside0.mk (blk_below (g := gb144) (o := .cells #[.int .i64 0, .int .i64 0] 27 (0, 0)) (by (with_reducible repeat (first | refine blk_drewN ?_ _ | refine blk_drew ?_ | refine blk_alloc ?_ _)); exact BK144.out) hb); have n2_ := Aside0.mk (below_step (by repeat (first | (with_reducible first | exact HB.out | apply below_alloc | apply pw_below_drewN | apply below_drew1 | refine below_set ?_ GE143.out | refine below_set ?_ GE144.out) | exact HB.out)) hb); clear BK143; clear BK144; clear HB; have BK143 := n0_; have BK144 := n1_; have HB := n2_; clear n0_ n1_ n2_; (try clear hb); (try clear hb2); (try clear hk); (try clear hi); have hcz13_0 : w12.cell? ⟨gb143, 0, none⟩ = some (.slice A0_0 l0_0.length c0_0) := (blk_cell BK143.out 0).trans rfl; have hfz13_0 := blk_frozen BK143.out 0) | ((with_reducible refine gate_callee (f := 93) rfl ?_); refine goesL_ (some 25) rfl rfl Try.func93 (by kernel_rfl) rfl #[.agg #[.slice A0_0 l0_0.length c0_0], .int .i64 a1, .int .i64 a2] rfl (by (try simp only [List.map_toArray, List.map_cons, List.map_nil]); first | done | rfl | (simp only [List.length_drop, List.length_take]; rfl)) ?_; (with_reducible refine (impl_chances.calls _ _ l0_0 a1 a2 t146 t149 _ ?side1 ?side2 A6.out).mono ?_); (case side1 => repeat (first | exact (Kd.C_below HR0_0.out HB.out) | (with_reducible refine Kd.C_alloc ?_ _) | (with_reducible refine Kd.C_drewN ?_ _) | (with_reducible refine Kd.C_drew ?_))); (case side2 => exact HC0_0.out); rintro e w14 ⟨v147, rfl, ho0, hb⟩; refine ⟨_, rfl, ?_⟩; have n0_ := Aside0.mk (Kd.R_lower ho0 (below_size (by repeat (first | (with_reducible first | exact HB.out | apply below_alloc | apply pw_below_drewN | apply below_drew1 | refine below_set ?_ GE143.out | refine below_set ?_ GE144.out) | exact HB.out)))); have n1_ := Aside0.mk (blk_below (g := gb143) (o := .cells #[.slice A0_0 l0_0.length c0_0] 30 (0, 0)) (by (with_reducible repeat (first | refine blk_drewN ?_ _ | refine blk_drew ?_ | refine blk_alloc ?_ _)); exact BK143.out) hb); have n2_ := Aside0.mk (blk_below (g := gb144) (o := .cells #[.int .i64 0, .int .i64 0] 27 (0, 0)) (by (with_reducible repeat (first | refine blk_drewN ?_ _ | refine blk_drew ?_ | refine blk_alloc ?_ _)); exact BK144.out) hb); have n3_ := Aside0.mk (below_step (by repeat (first | (with_reducible first | exact HB.out | apply below_alloc | apply pw_below_drewN | apply below_drew1 | refine below_set ?_ GE143.out | refine below_set ?_ GE144.out) | exact HB.out)) hb); clear BK143; clear BK144; clear HB; have HO148 := n0_; have BK143 := n1_; have BK144 := n2_; have HB := n3_; clear n0_ n1_ n2_ n3_; (try clear hb); (try clear hb2); (try clear hk); (try clear hi); (try clear ho0)) | ((with_reducible refine gate_callee (f := 95) rfl ?_); refine goesL_ (some 29) rfl rfl Try.func95 (by kernel_rfl) rfl #[.int .i64 t149] rfl (by (try simp only [List.map_toArray, List.map_cons, List.map_nil]); first | done | rfl | (simp only [List.length_drop, List.length_take]; rfl)) ?_; (with_reducible refine (impl_size.calls t149 t150 _ A7.out).mono ?_); rintro e w15 ⟨rfl, hb⟩; refine ⟨_, rfl, ?_⟩; have n0_ := Aside0.mk (Kd.R_below (by (with_reducible repeat (first | apply Kd.R_alloc | apply Kd.R_drewN | apply Kd.R_drew)); exact HO148.out) hb); have n1_ := Aside0.mk (blk_below (g := gb143) (o := .cells #[.slice A0_0 l0_0.length c0_0] 30 (0, 0)) (by (with_reducible repeat (first | refine blk_drewN ?_ _ | refine blk_drew ?_ | refine blk_alloc ?_ _)); exact BK143.out) hb); have n2_ := Aside0.mk (blk_below (g := gb144) (o := .cells #[.int .i64 0, .int .i64 0] 27 (0, 0)) (by (with_reducible repeat (first | refine blk_drewN ?_ _ | refine blk_drew ?_ | refine blk_alloc ?_ _)); exact BK144.out) hb); have n3_ := Aside0.mk (below_step (by repeat (first | (with_reducible first | exact HB.out | apply below_alloc | apply pw_below_drewN | apply below_drew1 | refine below_set ?_ GE143.out | refine below_set ?_ GE144.out) | exact HB.out)) hb); clear HO148; clear BK143; clear BK144; clear HB; have HO148 := n0_; have BK143 := n1_; have BK144 := n2_; have HB := n3_; clear n0_ n1_ n2_ n3_; (try clear hb); (try clear hb2); (try clear hk); (try clear hi); have hcz16_0 : w15.cell? ⟨gb143, 0, none⟩ = some (.slice A0_0 l0_0.length c0_0) := (blk_cell BK143.out 0).trans rfl; have hfz16_0 := blk_frozen BK143.out 0))
    go_loopg [10, 33] k (fun kq v10 v33 w' => ∃ (x10_1 : Int) (x33_1 : Int), v10 = .int .i64 x10_1 ∧ v33 = .int .i64 x33_1 ∧ Aside0 (impl_HitBound.l0 kq a1 a2 t146 t149 x10_1 l0_0 (l0_0.length : Int) x33_1 = some (r1, r2, r3)) ∧ Aside0 (kq ≤ k) ∧ Aside0 (Kd.R (Kd.int .i64) 3 w' w.heap.size (fun _ => True) v147 t146) ∧ Aside0 (w'.heap[gb143]? = some (.cells #[(.slice A0_0 l0_0.length c0_0)] 30 (0, 0))) ∧ Aside0 (w'.heap[gb144]? = some (.cells #[.int .i64 0, .int .i64 0] 27 (0, 0))) ∧ Aside0 (Below w.heap.size w w'))
    case atStart => exact ⟨(t150), (0), (by first | rfl | (simp; done) | (simp [*]; done)), (by first | rfl | (simp; done) | (simp [*]; done)), H', ⟨Nat.le_refl _⟩, ⟨by (with_reducible repeat (first | apply Kd.R_alloc | apply Kd.R_drewN | apply Kd.R_drew)); exact HO148.out⟩, ⟨by (with_reducible repeat (first | refine blk_drewN ?_ _ | refine blk_drew ?_ | refine blk_alloc ?_ _)); exact BK143.out⟩, ⟨by (with_reducible repeat (first | refine blk_drewN ?_ _ | refine blk_drew ?_ | refine blk_alloc ?_ _)); exact BK144.out⟩, ⟨by repeat (first | (with_reducible first | exact HB.out | apply below_alloc | apply pw_below_drewN | apply below_drew1 | refine below_set ?_ GE143.out | refine below_set ?_ GE144.out) | exact HB.out)⟩⟩
    case round =>
      clear H'
      try clear c1
      try clear p2
      try clear c4
      try clear c5
      try clear c8
      try clear c9
      try clear c10
      try clear hcz11_0
      try clear hcz13_0
      try clear hcz16_0
      try clear hfz11_0
      try clear hfz13_0
      try clear hfz16_0
      obtain ⟨x10_1, x33_1, rfl, rfl, HA, HK1, HO_8, BK143, BK144, HB⟩ := hrel
      cases gk with
      | zero => exact absurd HA.out (by simp [impl_HitBound.l0])
      | succ k1 =>
        have H := HA.out
        clear HA
        simp only [impl_HitBound.l0] at H
        by_cases c17 : x33_1 < (l0_0.length : Int)
        · rw [if_pos c17] at H
          have c17b0 : decide (x33_1 < (l0_0.length : Int)) = true := decide_eq_true c17
          clear c17
          by_cases c18 : 0 ≤ x33_1
          · rw [if_pos c18] at H
            have c18b0 : decide (0 ≤ x33_1) = true := decide_eq_true c18
            clear c18
            by_cases c19 : x33_1 < (l0_0.length : Int)
            · rw [if_pos c19] at H
              have c19b0 : decide (x33_1 < (l0_0.length : Int)) = true := decide_eq_true c19
              clear c19
              have H' := Aside0.mk H
              clear H
              have p154 : 0 ≤ (x33_1 : Int) := of_decide_eq_true (by first | (with_reducible assumption) | assumption)
              have q154 : x33_1 < (l0_0.length : Int) := of_decide_eq_true (by first | (with_reducible assumption) | assumption)
              obtain ⟨ad154, A154_0, c154_0, e154, hx154_0, hl154_0, hi154_0⟩ := at_L1 HR0_0.out x33_1 p154 q154
              cases e154
              replace hx154_0 := (HB.out.cell (World.block_lt_of_cell? w _ hx154_0)).trans hx154_0
              have HR154_0 := Aside0.mk hi154_0
              have HC154_0 := Aside0.mk hl154_0
              clear hi154_0 hl154_0
              replace p154 := eq_true p154
              replace q154 := eq_true q154
              go_wp2
              go_loopg [10, 40] k1 (fun kq v10 v40 w' => ∃ (x10_2 : Int) (x40_2 : Int), v10 = .int .i64 x10_2 ∧ v40 = .int .i64 x40_2 ∧ Aside0 (impl_HitBound.l1 kq a1 a2 t146 t149 x10_2 x33_1 l0_0 (l0_0.length : Int) x33_1 (rd_L1 l0_0 x33_1) ((rd_L1 l0_0 x33_1).length : Int) x40_2 = some (r1, r2, r3)) ∧ Aside0 (kq ≤ k1) ∧ Aside0 (Kd.R (Kd.int .i64) 3 w' w.heap.size (fun _ => True) v147 t146) ∧ Aside0 (w'.heap[gb143]? = some (.cells #[(.slice (some ad154) l0_0.length c0_0)] 30 (0, 0))) ∧ Aside0 (w'.heap[gb144]? = some (.cells #[.int .i64 0, .int .i64 0] 27 (0, 0))) ∧ Aside0 (Below w.heap.size w w'))
              case atStart => exact ⟨(x10_1), (0), (by first | rfl | (simp; done) | (simp [*]; done)), (by first | rfl | (simp; done) | (simp [*]; done)), H', ⟨Nat.le_refl _⟩, ⟨by (with_reducible repeat (first | apply Kd.R_alloc | apply Kd.R_drewN | apply Kd.R_drew)); exact HO_8.out⟩, ⟨by (with_reducible repeat (first | refine blk_drewN ?_ _ | refine blk_drew ?_ | refine blk_alloc ?_ _)); exact BK143.out⟩, ⟨by (with_reducible repeat (first | refine blk_drewN ?_ _ | refine blk_drew ?_ | refine blk_alloc ?_ _)); exact BK144.out⟩, ⟨by repeat (first | (with_reducible first | exact HB.out | apply below_alloc | apply pw_below_drewN | apply below_drew1 | refine below_set ?_ GE143.out | refine below_set ?_ GE144.out) | exact HB.out)⟩⟩
              case round =>
                clear H'
                try clear c1
                try clear p1
                try clear q1
                try clear hx1
                try clear p2
                try clear c4
                try clear c5
                try clear c8
                try clear c9
                try clear c10
                try clear c15
                try clear p15
                try clear q15
                try clear hx15
                try clear c17
                try clear c17b0
                try clear c18
                try clear c18b0
                try clear c19
                try clear c19b0
                try clear hcz11_0
                try clear hcz13_0
                try clear hcz16_0
                try clear hfz11_0
                try clear hfz13_0
                try clear hfz16_0
                try clear hx154_0
                try clear p154
                try clear p2
                try clear q154
                obtain ⟨x10_2, x40_2, rfl, rfl, HA, HK2, HO_8, BK143, BK144, HB⟩ := hrel
                cases gk with
                | zero => exact absurd HA.out (by simp [impl_HitBound.l1])
                | succ k2 =>
                  have H := HA.out
                  clear HA
                  simp only [impl_HitBound.l1] at H
                  by_cases c20 : x40_2 < ((rd_L1 l0_0 x33_1).length : Int)
                  · rw [if_pos c20] at H
                    have c20b0 : decide (x40_2 < ((rd_L1 l0_0 x33_1).length : Int)) = true := decide_eq_true c20
                    clear c20
                    by_cases c21 : 0 ≤ x40_2
                    · rw [if_pos c21] at H
                      have c21b0 : decide (0 ≤ x40_2) = true := decide_eq_true c21
                      clear c21
                      by_cases c22 : x40_2 < ((rd_L1 l0_0 x33_1).length : Int)
                      · rw [if_pos c22] at H
                        have c22b0 : decide (x40_2 < ((rd_L1 l0_0 x33_1).length : Int)) = true := decide_eq_true c22
                        clear c22
                        by_cases c23 : x33_1 = a1
                        · rw [if_pos c23] at H
                          have c23b0 : (x33_1 == a1) = true := beq_iff_eq.mpr c23
                          have c23b1 : (x33_1 != a1) = false := bne_eq_false_iff_eq.mpr c23
                          clear c23
                          have H' := Aside0.mk H
                          clear H
                          have p155 : 0 ≤ (x40_2 : Int) := of_decide_eq_true (by first | (with_reducible assumption) | assumption)
                          have q155 : x40_2 < ((rd_L1 l0_0 x33_1).length : Int) := of_decide_eq_true (by first | (with_reducible assumption) | assumption)
                          obtain ⟨ad155, e155, hx155_0⟩ := Kd.at_int HR154_0.out x40_2 p155 q155
                          cases e155
                          replace hx155_0 := (HB.out.cell (World.block_lt_of_cell? w _ hx155_0)).trans hx155_0
                          replace p155 := eq_true p155
                          replace q155 := eq_true q155
                          go_wp2
                          go_roundg k2
                          case measure => have := HK1.out; have := HK2.out; omega
                          case rel => exact ⟨(x10_2), (wrap64 (x40_2 + 1)), (by first | rfl | (simp; done) | (simp [*]; done)), (by first | rfl | (simp; done) | (simp [*]; done)), H', ⟨by have := HK1.out; have := HK2.out; omega⟩, ⟨by (with_reducible repeat (first | apply Kd.R_alloc | apply Kd.R_drewN | apply Kd.R_drew)); exact HO_8.out⟩, ⟨by (with_reducible repeat (first | refine blk_drewN ?_ _ | refine blk_drew ?_ | refine blk_alloc ?_ _)); exact BK143.out⟩, ⟨by (with_reducible repeat (first | refine blk_drewN ?_ _ | refine blk_drew ?_ | refine blk_alloc ?_ _)); exact BK144.out⟩, ⟨by repeat (first | (with_reducible first | exact HB.out | apply below_alloc | apply pw_below_drewN | apply below_drew1 | refine below_set ?_ GE143.out | refine below_set ?_ GE144.out) | exact HB.out)⟩⟩
                        · rw [if_neg c23] at H
                          have c23b0 : (x33_1 == a1) = false := beq_eq_false_iff_ne.mpr c23
                          have c23b1 : (x33_1 != a1) = true := bne_iff_ne.mpr c23
                          by_cases c24 : x33_1 = a2
                          · rw [if_pos c24] at H
                            have c24b0 : (x33_1 == a2) = true := beq_iff_eq.mpr c24
                            have c24b1 : (x33_1 != a2) = false := bne_eq_false_iff_eq.mpr c24
                            clear c24
                            have H' := Aside0.mk H
                            clear H
                            have p155 : 0 ≤ (x40_2 : Int) := of_decide_eq_true (by first | (with_reducible assumption) | assumption)
                            have q155 : x40_2 < ((rd_L1 l0_0 x33_1).length : Int) := of_decide_eq_true (by first | (with_reducible assumption) | assumption)
                            obtain ⟨ad155, e155, hx155_0⟩ := Kd.at_int HR154_0.out x40_2 p155 q155
                            cases e155
                            replace hx155_0 := (HB.out.cell (World.block_lt_of_cell? w _ hx155_0)).trans hx155_0
                            replace p155 := eq_true p155
                            replace q155 := eq_true q155
                            go_wp2
                            go_roundg k2
                            case measure => have := HK1.out; have := HK2.out; omega
                            case rel => exact ⟨(x10_2), (wrap64 (x40_2 + 1)), (by first | rfl | (simp; done) | (simp [*]; done)), (by first | rfl | (simp; done) | (simp [*]; done)), H', ⟨by have := HK1.out; have := HK2.out; omega⟩, ⟨by (with_reducible repeat (first | apply Kd.R_alloc | apply Kd.R_drewN | apply Kd.R_drew)); exact HO_8.out⟩, ⟨by (with_reducible repeat (first | refine blk_drewN ?_ _ | refine blk_drew ?_ | refine blk_alloc ?_ _)); exact BK143.out⟩, ⟨by (with_reducible repeat (first | refine blk_drewN ?_ _ | refine blk_drew ?_ | refine blk_alloc ?_ _)); exact BK144.out⟩, ⟨by repeat (first | (with_reducible first | exact HB.out | apply below_alloc | apply pw_below_drewN | apply below_drew1 | refine below_set ?_ GE143.out | refine below_set ?_ GE144.out) | exact HB.out)⟩⟩
                          · rw [if_neg c24] at H
                            have c24b0 : (x33_1 == a2) = false := beq_eq_false_iff_ne.mpr c24
                            have c24b1 : (x33_1 != a2) = true := bne_iff_ne.mpr c24
                            by_cases c25 : 0 ≤ x33_1
                            · rw [if_pos c25] at H
                              have c25b0 : decide (0 ≤ x33_1) = true := decide_eq_true c25
                              clear c25
                              by_cases c26 : x33_1 < (t146.length : Int)
                              · rw [if_pos c26] at H
                                have c26b0 : decide (x33_1 < (t146.length : Int)) = true := decide_eq_true c26
                                clear c26
                                by_cases c27 : 0 ≤ (rd (rd_L1 l0_0 x33_1) x40_2)
                                · rw [if_pos c27] at H
                                  have c27b0 : decide (0 ≤ (rd (rd_L1 l0_0 x33_1) x40_2)) = true := decide_eq_true c27
                                  clear c27
                                  by_cases c28 : (rd (rd_L1 l0_0 x33_1) x40_2) < (t146.length : Int)
                                  · rw [if_pos c28] at H
                                    have c28b0 : decide ((rd (rd_L1 l0_0 x33_1) x40_2) < (t146.length : Int)) = true := decide_eq_true c28
                                    clear c28
                                    replace H := Option.bind_eq_some_iff.mp H
                                    obtain ⟨t158, A290, H⟩ := H
                                    replace H : (impl_HitBound.l1 k2 a1 a2 t146 t149 (wrap64 (x10_2 + t158)) x33_1 l0_0 (l0_0.length : Int) x33_1 (rd_L1 l0_0 x33_1) ((rd_L1 l0_0 x33_1).length : Int) (wrap64 (x40_2 + 1))) = some (r1, r2, r3) := H
                                    have A29 := Aside0.mk A290
                                    clear A290
                                    have H' := Aside0.mk H
                                    clear H
                                    have p155 : 0 ≤ (x40_2 : Int) := of_decide_eq_true (by first | (with_reducible assumption) | assumption)
                                    have q155 : x40_2 < ((rd_L1 l0_0 x33_1).length : Int) := of_decide_eq_true (by first | (with_reducible assumption) | assumption)
                                    obtain ⟨ad155, e155, hx155_0⟩ := Kd.at_int HR154_0.out x40_2 p155 q155
                                    cases e155
                                    replace hx155_0 := (HB.out.cell (World.block_lt_of_cell? w _ hx155_0)).trans hx155_0
                                    replace p155 := eq_true p155
                                    replace q155 := eq_true q155
                                    try go_wp2
                                    have n0_ := Aside0.mk (Kd.R_drew HO_8.out)
                                    have n1_ := Aside0.mk (blk_drew BK143.out)
                                    have n2_ := Aside0.mk (blk_drew BK144.out)
                                    have n3_ := Aside0.mk (below_drew1 HB.out)
                                    clear HO_8
                                    clear BK143
                                    clear BK144
                                    clear HB
                                    have HO_8 := n0_
                                    have BK143 := n1_
                                    have BK144 := n2_
                                    have HB := n3_
                                    clear n0_ n1_ n2_ n3_
                                    obtain ⟨Ao31, co31, eo31⟩ := Kd.R_slice HO_8.out
                                    (first | subst eo31 | (injection eo31 with f1_ f2_ f3_; have f4_ := f1_.symm; have f5_ := f3_.symm; clear f1_ f2_ f3_; subst f4_; subst f5_))
                                    have p156 : 0 ≤ (x33_1 : Int) := of_decide_eq_true (by first | (with_reducible assumption) | assumption)
                                    have q156 : x33_1 < (t146.length : Int) := of_decide_eq_true (by first | (with_reducible assumption) | assumption)
                                    obtain ⟨ad156, e156, hx156_0⟩ := Kd.at_int (Kd.R_reads' HO_8.out).2.2 x33_1 p156 q156
                                    cases e156
                                    replace p156 := eq_true p156
                                    replace q156 := eq_true q156
                                    have p157 : 0 ≤ ((rd (rd_L1 l0_0 x33_1) x40_2) : Int) := of_decide_eq_true (by first | (with_reducible assumption) | assumption)
                                    have q157 : (rd (rd_L1 l0_0 x33_1) x40_2) < (t146.length : Int) := of_decide_eq_true (by first | (with_reducible assumption) | assumption)
                                    obtain ⟨ad157, e157, hx157_0⟩ := Kd.at_int (Kd.R_reads' HO_8.out).2.2 (rd (rd_L1 l0_0 x33_1) x40_2) p157 q157
                                    obtain rfl : ad156 = ad157 := (by injection e157)
                                    replace p157 := eq_true p157
                                    replace q157 := eq_true q157
                                    refine start_ (n := 13) (S := fun w' => w'.cell? (ad156.add (x33_1).toNat) = some (.int .i64 (rd t146 x33_1)) ∧ w'.cell? (ad156.add ((rd (rd_L1 l0_0 x33_1) x40_2)).toNat) = some (.int .i64 (rd t146 (rd (rd_L1 l0_0 x33_1) x40_2)))) (ds := []) #[false, false, false, false, false, false, false, false, false, false, false, false, false] (by kernel_rfl) rfl rfl ⟨hx156_0, hx157_0⟩ (fun hHeld => ?_); refine with_tabW impl_HitBound.tab12 impl_HitBound.bits12 (fun HT_ HW_ => ?_)
                                    generalize wr.drew = w30 at HO_8 BK143 BK144 HB hx156_0 hx157_0 hHeld ⊢
                                    refine pure_ (i := 0) (N := some 52) (v := ?_) (a' := ?_) #[true, false, false, false, false, false, false, false, false, false, false, false, false] rfl rfl (any_of HT_.out (by kernel_rfl)) (fun _ _ _ h => h) (Or.inl ⟨by rfl, ?_⟩) ?_ ?_
                                    rotate_left
                                    · intro w'
                                      go_simp
                                      with_reducible rfl
                                    rotate_left
                                    · simp only [Act.put, List.setIfInBounds_toArray, List.set_cons_zero, List.set_cons_succ, i64_w, i32_w]
                                      rfl
                                    refine pure_ (i := 1) (N := some 53) (v := ?_) (a' := ?_) #[true, true, false, false, false, false, false, false, false, false, false, false, false] rfl rfl (any_of HT_.out (by kernel_rfl)) (fun _ _ _ h => h) (Or.inl ⟨by rfl, ?_⟩) ?_ ?_
                                    rotate_left
                                    · intro w'
                                      go_simp
                                      with_reducible rfl
                                    rotate_left
                                    · simp only [Act.put, List.setIfInBounds_toArray, List.set_cons_zero, List.set_cons_succ, i64_w, i32_w]
                                      rfl
                                    refine pure_ (i := 2) (N := some 54) (v := ?_) (a' := ?_) #[true, true, true, false, false, false, false, false, false, false, false, false, false] rfl rfl (any_of HT_.out (by kernel_rfl)) (fun _ _ _ h => h) (Or.inl ⟨by rfl, ?_⟩) ?_ ?_
                                    rotate_left
                                    · intro w'
                                      go_simp
                                      with_reducible rfl
                                    rotate_left
                                    · simp only [Act.put, List.setIfInBounds_toArray, List.set_cons_zero, List.set_cons_succ, i64_w, i32_w]
                                      rfl
                                    refine pure_ (i := 3) (N := some 55) (v := ?_) (a' := ?_) #[true, true, true, true, false, false, false, false, false, false, false, false, false] rfl rfl (any_of HT_.out (by kernel_rfl)) (fun _ _ _ h => h) (Or.inl ⟨by rfl, ?_⟩) ?_ ?_
                                    rotate_left
                                    · intro w'
                                      go_simp
                                      with_reducible rfl
                                    rotate_left
                                    · simp only [Act.put, List.setIfInBounds_toArray, List.set_cons_zero, List.set_cons_succ, i64_w, i32_w]
                                      rfl
                                    refine pure_ (i := 5) (N := some 57) (v := ?_) (a' := ?_) #[true, true, true, true, false, true, false, false, false, false, false, false, false] rfl rfl (any_of HT_.out (by kernel_rfl)) (fun _ _ _ h => h) (Or.inl ⟨by rfl, ?_⟩) ?_ ?_
                                    rotate_left
                                    · intro w'
                                      go_simp
                                      with_reducible rfl
                                    rotate_left
                                    · simp only [Act.put, List.setIfInBounds_toArray, List.set_cons_zero, List.set_cons_succ, i64_w, i32_w]
                                      rfl
                                    refine pure_ (i := 6) (N := some 58) (v := ?_) (a' := ?_) #[true, true, true, true, false, true, true, false, false, false, false, false, false] rfl rfl (any_of HT_.out (by kernel_rfl)) (fun _ _ _ h => h) (Or.inl ⟨by rfl, ?_⟩) ?_ ?_
                                    rotate_left
                                    · intro w'
                                      go_simp
                                      with_reducible rfl
                                    rotate_left
                                    · simp only [Act.put, List.setIfInBounds_toArray, List.set_cons_zero, List.set_cons_succ, i64_w, i32_w]
                                      rfl
                                    refine pure_ (i := 7) (N := some 59) (v := ?_) (a' := ?_) #[true, true, true, true, false, true, true, true, false, false, false, false, false] rfl rfl (any_of HT_.out (by kernel_rfl)) (fun _ _ _ h => h) (Or.inl ⟨by rfl, ?_⟩) ?_ ?_
                                    rotate_left
                                    · intro w'
                                      go_simp
                                      with_reducible rfl
                                    rotate_left
                                    · simp only [Act.put, List.setIfInBounds_toArray, List.set_cons_zero, List.set_cons_succ, i64_w, i32_w]
                                      rfl
                                    refine take_ (i := 4) (N := some 56) (v := ?_) (a' := ?_) #[true, true, true, true, true, true, true, true, false, false, false, false, false] rfl rfl (take_ofW HT_.out HW_.out (by kernel_rfl)) (fun _ _ _ h => h) (Or.inl ⟨by rfl, ?_⟩) hHeld ?_ ?_
                                    rotate_left
                                    · rintro w' ⟨s0, s1⟩
                                      go_simp
                                      with_reducible rfl
                                    rotate_left
                                    · simp only [Act.put, List.setIfInBounds_toArray, List.set_cons_zero, List.set_cons_succ, i64_w, i32_w]
                                      rfl
                                    refine take_ (i := 8) (N := some 60) (v := ?_) (a' := ?_) #[true, true, true, true, true, true, true, true, true, false, false, false, false] rfl rfl (take_ofW HT_.out HW_.out (by kernel_rfl)) (fun _ _ _ h => h) (Or.inl ⟨by rfl, ?_⟩) hHeld ?_ ?_
                                    rotate_left
                                    · rintro w' ⟨s0, s1⟩
                                      go_simp
                                      with_reducible rfl
                                    rotate_left
                                    · simp only [Act.put, List.setIfInBounds_toArray, List.set_cons_zero, List.set_cons_succ, i64_w, i32_w]
                                      rfl
                                    refine pure_ (i := 9) (N := some 61) (v := ?_) (a' := ?_) #[true, true, true, true, true, true, true, true, true, true, false, false, false] rfl rfl (any_of HT_.out (by kernel_rfl)) (fun _ _ _ h => h) (Or.inl ⟨by rfl, ?_⟩) ?_ ?_
                                    rotate_left
                                    · intro w'
                                      go_simp
                                      with_reducible rfl
                                    rotate_left
                                    · simp only [Act.put, List.setIfInBounds_toArray, List.set_cons_zero, List.set_cons_succ, i64_w, i32_w]
                                      rfl
                                    refine one_ (i := 10) (N := some 62) #[true, true, true, true, true, true, true, true, true, true, true, false, false] rfl rfl (one_of HT_.out (by kernel_rfl)) (by decide) (fun K hK => ?_)
                                    refine goes_ Try.func95 (by kernel_rfl) rfl #[.int .i64 (wrap64 ((rd t146 x33_1) - (rd t146 (rd (rd_L1 l0_0 x33_1) x40_2))))] (by rfl) rfl rfl (by (try simp only [List.map_toArray, List.map_cons, List.map_nil]); first | done | rfl | (simp only [List.length_drop, List.length_take]; rfl)) ?_
                                    with_reducible refine (impl_size.calls (wrap64 ((rd t146 x33_1) - (rd t146 (rd (rd_L1 l0_0 x33_1) x40_2)))) t158 _ A29.out).mono ?_
                                    rintro e w32 ⟨rfl, hb⟩
                                    have HS0_ := (hb.cell (World.block_lt_of_cell? _ _ (hHeld.1))).trans (hHeld.1)
                                    have HS1_ := (hb.cell (World.block_lt_of_cell? _ _ (hHeld.2))).trans (hHeld.2)
                                    refine ⟨_, rfl, ?_⟩
                                    have n0_ := Aside0.mk (Kd.R_below (by (with_reducible repeat (first | apply Kd.R_alloc | apply Kd.R_drewN | apply Kd.R_drew)); exact HO_8.out) hb)
                                    have n1_ := Aside0.mk (blk_below (g := gb143) (o := .cells #[.slice (some ad154) l0_0.length c0_0] 30 (0, 0)) (by (with_reducible repeat (first | refine blk_drewN ?_ _ | refine blk_drew ?_ | refine blk_alloc ?_ _)); exact BK143.out) hb)
                                    have n2_ := Aside0.mk (blk_below (g := gb144) (o := .cells #[.int .i64 0, .int .i64 0] 27 (0, 0)) (by (with_reducible repeat (first | refine blk_drewN ?_ _ | refine blk_drew ?_ | refine blk_alloc ?_ _)); exact BK144.out) hb)
                                    have n3_ := Aside0.mk (below_step (by repeat (first | (with_reducible first | exact HB.out | apply below_alloc | apply pw_below_drewN | apply below_drew1 | refine below_set ?_ GE143.out | refine below_set ?_ GE144.out) | exact HB.out)) hb)
                                    clear HO_8
                                    clear BK143
                                    clear BK144
                                    clear HB
                                    have HO_8 := n0_
                                    have BK143 := n1_
                                    have BK144 := n2_
                                    have HB := n3_
                                    clear n0_ n1_ n2_ n3_
                                    (try clear hb)
                                    (try clear hb2)
                                    (try clear hk)
                                    (try clear hi)
                                    refine hK.out _ _ ⟨HS0_, HS1_⟩ (fun hHeld => ?_)
                                    clear hK K
                                    refine norm_ (a' := ?_) ?_ ?_
                                    rotate_left
                                    · show Act.put _ (some 62) _ = _
                                      simp only [Act.put, List.setIfInBounds_toArray, List.set_cons_zero, List.set_cons_succ, i64_w, i32_w]
                                      rfl
                                    refine pure_ (i := 11) (N := some 63) (v := ?_) (a' := ?_) #[true, true, true, true, true, true, true, true, true, true, true, true, false] rfl rfl (any_of HT_.out (by kernel_rfl)) (fun _ _ _ h => h) (Or.inl ⟨by rfl, ?_⟩) ?_ ?_
                                    rotate_left
                                    · intro w'
                                      go_simp
                                      with_reducible rfl
                                    rotate_left
                                    · simp only [Act.put, List.setIfInBounds_toArray, List.set_cons_zero, List.set_cons_succ, i64_w, i32_w]
                                      rfl
                                    refine pure_ (i := 12) (N := some 10) (v := ?_) (a' := ?_) #[true, true, true, true, true, true, true, true, true, true, true, true, true] rfl rfl (any_of HT_.out (by kernel_rfl)) (fun _ _ _ h => h) (Or.inl ⟨by rfl, ?_⟩) ?_ ?_
                                    rotate_left
                                    · intro w'
                                      go_simp
                                      with_reducible rfl
                                    rotate_left
                                    · simp only [Act.put, List.setIfInBounds_toArray, List.set_cons_zero, List.set_cons_succ, i64_w, i32_w]
                                      rfl
                                    refine done_ (done_of HT_.out (by kernel_rfl)) ?_
                                    try go_wp2
                                    go_roundg k2
                                    case measure => have := HK1.out; have := HK2.out; omega
                                    case rel => exact ⟨(wrap64 (x10_2 + t158)), (wrap64 (x40_2 + 1)), (by first | rfl | (simp; done) | (simp [*]; done)), (by first | rfl | (simp; done) | (simp [*]; done)), H', ⟨by have := HK1.out; have := HK2.out; omega⟩, ⟨by (with_reducible repeat (first | apply Kd.R_alloc | apply Kd.R_drewN | apply Kd.R_drew)); exact HO_8.out⟩, ⟨by (with_reducible repeat (first | refine blk_drewN ?_ _ | refine blk_drew ?_ | refine blk_alloc ?_ _)); exact BK143.out⟩, ⟨by (with_reducible repeat (first | refine blk_drewN ?_ _ | refine blk_drew ?_ | refine blk_alloc ?_ _)); exact BK144.out⟩, ⟨by repeat (first | (with_reducible first | exact HB.out | apply below_alloc | apply pw_below_drewN | apply below_drew1 | refine below_set ?_ GE143.out | refine below_set ?_ GE144.out) | exact HB.out)⟩⟩
                                  · rw [if_neg c28] at H
                                    exact absurd H (by simp)
                                · rw [if_neg c27] at H
                                  exact absurd H (by simp)
                              · rw [if_neg c26] at H
                                exact absurd H (by simp)
                            · rw [if_neg c25] at H
                              exact absurd H (by simp)
                      · rw [if_neg c22] at H
                        exact absurd H (by simp)
                    · rw [if_neg c21] at H
                      exact absurd H (by simp)
                  · rw [if_neg c20] at H
                    have c20b0 : decide (x40_2 < ((rd_L1 l0_0 x33_1).length : Int)) = false := decide_eq_false c20
                    clear c20
                    have H' := Aside0.mk H
                    clear H
                    go_wp2
                    go_roundg k2
                    case measure => have := HK1.out; have := HK2.out; omega
                    case rel => exact ⟨(x10_2), (wrap64 (x33_1 + 1)), (by first | rfl | (simp; done) | (simp [*]; done)), (by first | rfl | (simp; done) | (simp [*]; done)), H', ⟨by have := HK1.out; have := HK2.out; omega⟩, ⟨by (with_reducible repeat (first | apply Kd.R_alloc | apply Kd.R_drewN | apply Kd.R_drew)); exact HO_8.out⟩, ⟨by (with_reducible repeat (first | refine blk_drewN ?_ _ | refine blk_drew ?_ | refine blk_alloc ?_ _)); exact BK143.out⟩, ⟨by (with_reducible repeat (first | refine blk_drewN ?_ _ | refine blk_drew ?_ | refine blk_alloc ?_ _)); exact BK144.out⟩, ⟨by repeat (first | (with_reducible first | exact HB.out | apply below_alloc | apply pw_below_drewN | apply below_drew1 | refine below_set ?_ GE143.out | refine below_set ?_ GE144.out) | exact HB.out)⟩⟩
            · rw [if_neg c19] at H
              exact absurd H (by simp)
          · rw [if_neg c18] at H
            exact absurd H (by simp)
        · rw [if_neg c17] at H
          have c17b0 : decide (x33_1 < (l0_0.length : Int)) = false := decide_eq_false c17
          clear c17
          replace H := Option.bind_eq_some_iff.mp H
          obtain ⟨t151, A330, H⟩ := H
          replace H : ((impl_ratio.f k1 x10_1 t151).bind fun bt152 => (some (bt152.1, bt152.2, true))) = some (r1, r2, r3) := H
          have A33 := Aside0.mk A330
          clear A330
          replace H := Option.bind_eq_some_iff.mp H
          obtain ⟨⟨t152, t153⟩, A340, H⟩ := H
          replace H : (some (t152, t153, true)) = some (r1, r2, r3) := H
          have A34 := Aside0.mk A340
          clear A340
          simp only [Option.some.injEq, Prod.mk.injEq] at H
          obtain ⟨rfl, rfl, rfl⟩ := H
          go_wp2_with (first | ((with_reducible refine gate_callee (f := 95) rfl ?_); refine goesL_ (some 68) rfl rfl Try.func95 (by kernel_rfl) rfl #[.int .i64 t149] rfl (by (try simp only [List.map_toArray, List.map_cons, List.map_nil]); first | done | rfl | (simp only [List.length_drop, List.length_take]; rfl)) ?_; (with_reducible refine (impl_size.calls t149 t151 _ A33.out).mono ?_); rintro e w35 ⟨rfl, hb⟩; refine ⟨_, rfl, ?_⟩; have n0_ := Aside0.mk (Kd.R_below (by (with_reducible repeat (first | apply Kd.R_alloc | apply Kd.R_drewN | apply Kd.R_drew)); exact HO_8.out) hb); have n1_ := Aside0.mk (blk_below (g := gb143) (o := .cells #[.slice A0_0 l0_0.length c0_0] 30 (0, 0)) (by (with_reducible repeat (first | refine blk_drewN ?_ _ | refine blk_drew ?_ | refine blk_alloc ?_ _)); exact BK143.out) hb); have n2_ := Aside0.mk (blk_below (g := gb144) (o := .cells #[.int .i64 0, .int .i64 0] 27 (0, 0)) (by (with_reducible repeat (first | refine blk_drewN ?_ _ | refine blk_drew ?_ | refine blk_alloc ?_ _)); exact BK144.out) hb); have n3_ := Aside0.mk (below_step (by repeat (first | (with_reducible first | exact HB.out | apply below_alloc | apply pw_below_drewN | apply below_drew1 | refine below_set ?_ GE143.out | refine below_set ?_ GE144.out) | exact HB.out)) hb); clear HO_8; clear BK143; clear BK144; clear HB; have HO_8 := n0_; have BK143 := n1_; have BK144 := n2_; have HB := n3_; clear n0_ n1_ n2_ n3_; (try clear hb); (try clear hb2); (try clear hk); (try clear hi)) | ((with_reducible refine gate_callee (f := 78) rfl ?_); refine goesL_ (some 69) rfl rfl Try.func78 (by kernel_rfl) rfl #[.int .i64 x10_1, .int .i64 t151] rfl (by (try simp only [List.map_toArray, List.map_cons, List.map_nil]); first | done | rfl | (simp only [List.length_drop, List.length_take]; rfl)) ?_; (with_reducible refine (impl_ratio.calls k1 x10_1 t151 t152 t153 _ A34.out).mono ?_); rintro e w36 ⟨rfl, hb⟩; refine ⟨_, rfl, ?_⟩; have n0_ := Aside0.mk (Kd.R_below (by (with_reducible repeat (first | apply Kd.R_alloc | apply Kd.R_drewN | apply Kd.R_drew)); exact HO_8.out) hb); have n1_ := Aside0.mk (blk_below (g := gb143) (o := .cells #[.slice A0_0 l0_0.length c0_0] 30 (0, 0)) (by (with_reducible repeat (first | refine blk_drewN ?_ _ | refine blk_drew ?_ | refine blk_alloc ?_ _)); exact BK143.out) hb); have n2_ := Aside0.mk (blk_below (g := gb144) (o := .cells #[.int .i64 0, .int .i64 0] 27 (0, 0)) (by (with_reducible repeat (first | refine blk_drewN ?_ _ | refine blk_drew ?_ | refine blk_alloc ?_ _)); exact BK144.out) hb); have n3_ := Aside0.mk (below_step (by repeat (first | (with_reducible first | exact HB.out | apply below_alloc | apply pw_below_drewN | apply below_drew1 | refine below_set ?_ GE143.out | refine below_set ?_ GE144.out) | exact HB.out)) hb); clear HO_8; clear BK143; clear BK144; clear HB; have HO_8 := n0_; have BK143 := n1_; have BK144 := n2_; have HB := n3_; clear n0_ n1_ n2_ n3_; (try clear hb); (try clear hb2); (try clear hk); (try clear hi); have hnb37 := NB144_143.out; have hnc37 := NB143_144.out; have hcz38_0 : w36.cell? ⟨gb144, 0, none⟩ = some (.int .i64 0) := (blk_cell BK144.out 0).trans rfl; have hcz38_1 : w36.cell? ⟨gb144, 1, none⟩ = some (.int .i64 0) := (blk_cell BK144.out 1).trans rfl; have hfz38_0 := blk_frozen BK144.out 0; have hfz38_1 := blk_frozen BK144.out 1))
          refine bodyPost_ret (results_ct rfl _ _ gb144 27 #[.int .i64 t152, .int .i64 t153] (0, 0) _ rfl (by (with_reducible repeat (first | refine blk_drewN ?_ _ | refine blk_drew ?_ | refine blk_alloc ?_ _)); refine blk_put (cs := #[.int .i64 t152, .int .i64 0]) ?_ 1 _ rfl; (with_reducible repeat (first | refine blk_drewN ?_ _ | refine blk_drew ?_ | refine blk_alloc ?_ _)); refine blk_put (cs := #[.int .i64 0, .int .i64 0]) ?_ 0 _ rfl; (with_reducible repeat (first | refine blk_drewN ?_ _ | refine blk_drew ?_ | refine blk_alloc ?_ _)); exact BK144.out) Try.underlying27 rfl (by kernel_rfl)) rfl ?_
          exact ⟨by first | rfl | (simp [errW_none, errW_some] <;> rfl) | (simp [*, errW_none, errW_some] <;> rfl), by repeat (first | (with_reducible first | exact HB.out | apply below_alloc | apply pw_below_drewN | apply below_drew1 | refine below_set ?_ GE143.out | refine below_set ?_ GE144.out) | exact HB.out)⟩
  · replace c5 := Bool.eq_false_iff.mpr c5
    subst c5
    have H1 : (some (0, 0, false)) = some (r1, r2, r3) := by rw [if_neg (show ¬ (false = true) by decide)] at H; exact H
    clear H
    have H := H1
    clear H1
    simp only [Option.some.injEq, Prod.mk.injEq] at H
    obtain ⟨rfl, rfl, rfl⟩ := H
    go_enter Try.func45, Try.ntmps45
    go_wp2_with (first | ((with_reducible refine gate_dst (N := 3) rfl ?_); refine box_event ?hg (N := 3) ?hd (cs := #[.slice A0_0 l0_0.length c0_0]) (t := 30) ?hr ?_; (case hd => rfl); (case hg => rfl); (case hr => first | (go_simp; done) | (go_simp; rfl)); intro gb143 hg w39 hbox hb; have n0_ := Aside0.mk (below_step (by repeat (first | (with_reducible first | exact HB.out | apply below_alloc | apply pw_below_drewN | apply below_drew1) | exact HB.out)) hb); have n1_ := Aside0.mk (hbox); have n2_ := Aside0.mk ((by rw [hg]; exact (below_size (by repeat (first | (with_reducible first | exact HB.out | apply below_alloc | apply pw_below_drewN | apply below_drew1) | exact HB.out))) : w.heap.size ≤ gb143)); have n3_ := Aside0.mk ((by rw [hg]; exact (below_size (by repeat (first | (with_reducible first | exact HB.out | apply below_alloc | apply pw_below_drewN | apply below_drew1) | exact HB.out))) : w.heap.size ≤ gb143)); clear HB; have HB := n0_; have BK143 := n1_; have GW143 := n2_; have GE143 := n3_; clear n0_ n1_ n2_ n3_; clear hb hbox hg) | ((with_reducible refine gate_dst (N := 6) rfl ?_); refine box_event ?hg (N := 6) ?hd (cs := #[.int .i64 0, .int .i64 0]) (t := 27) ?hr ?_; (case hd => rfl); (case hg => rfl); (case hr => first | (go_simp; done) | (go_simp; rfl)); intro gb144 hg w40 hbox hb; have n0_ := Aside0.mk (blk_below (g := gb143) (o := .cells #[.slice A0_0 l0_0.length c0_0] 30 (0, 0)) (by (with_reducible repeat (first | refine blk_drewN ?_ _ | refine blk_drew ?_ | refine blk_alloc ?_ _)); exact BK143.out) hb); have n1_ := Aside0.mk (below_step (by repeat (first | (with_reducible first | exact HB.out | apply below_alloc | apply pw_below_drewN | apply below_drew1 | refine below_set ?_ GE143.out) | exact HB.out)) hb); have n2_ := Aside0.mk (hbox); have n3_ := Aside0.mk ((by rw [hg]; exact (below_size (by repeat (first | (with_reducible first | exact HB.out | apply below_alloc | apply pw_below_drewN | apply below_drew1 | refine below_set ?_ GE143.out) | exact HB.out))) : w.heap.size ≤ gb144)); have n4_ := Aside0.mk ((by rw [hg]; exact (below_size (by repeat (first | (with_reducible first | exact HB.out | apply below_alloc | apply pw_below_drewN | apply below_drew1 | refine below_set ?_ GE143.out) | exact HB.out))) : w.heap.size ≤ gb144)); have n5_ := Aside0.mk ((by rw [hg]; exact Nat.ne_of_lt (blk_lt (g := gb143) (o := .cells #[.slice A0_0 l0_0.length c0_0] 30 (0, 0)) (by (with_reducible repeat (first | refine blk_drewN ?_ _ | refine blk_drew ?_ | refine blk_alloc ?_ _)); exact BK143.out)) : gb143 ≠ gb144)); have n6_ := Aside0.mk ((by rw [hg]; exact Nat.ne_of_gt (blk_lt (g := gb143) (o := .cells #[.slice A0_0 l0_0.length c0_0] 30 (0, 0)) (by (with_reducible repeat (first | refine blk_drewN ?_ _ | refine blk_drew ?_ | refine blk_alloc ?_ _)); exact BK143.out)) : gb144 ≠ gb143)); clear BK143; clear HB; have BK143 := n0_; have HB := n1_; have BK144 := n2_; have GW144 := n3_; have GE144 := n4_; have NB143_144 := n5_; have NB144_143 := n6_; clear n0_ n1_ n2_ n3_ n4_ n5_ n6_; clear hb hbox hg; have hnb41 := NB143_144.out; have hnc41 := NB144_143.out; have hcz42_0 : w40.cell? ⟨gb143, 0, none⟩ = some (.slice A0_0 l0_0.length c0_0) := (blk_cell BK143.out 0).trans rfl; have hfz42_0 := blk_frozen BK143.out 0) | ((with_reducible refine gate_callee (f := 81) rfl ?_); refine goesL_ (some 18) rfl rfl Try.func81 (by kernel_rfl) rfl #[.agg #[.slice A0_0 l0_0.length c0_0], .int .i64 a1, .int .i64 a2] rfl (by (try simp only [List.map_toArray, List.map_cons, List.map_nil]); first | done | rfl | (simp only [List.length_drop, List.length_take]; rfl)) ?_; (with_reducible refine (impl_goodEnd.calls _ _ l0_0 a1 a2 false _ ?side1 ?side2 A4.out).mono ?_); (case side1 => repeat (first | exact (Kd.C_below HR0_0.out HB.out) | (with_reducible refine Kd.C_alloc ?_ _) | (with_reducible refine Kd.C_drewN ?_ _) | (with_reducible refine Kd.C_drew ?_))); (case side2 => exact HC0_0.out); rintro e w43 ⟨rfl, hb⟩; refine ⟨_, rfl, ?_⟩; have n0_ := Aside0.mk (blk_below (g := gb143) (o := .cells #[.slice A0_0 l0_0.length c0_0] 30 (0, 0)) (by (with_reducible repeat (first | refine blk_drewN ?_ _ | refine blk_drew ?_ | refine blk_alloc ?_ _)); exact BK143.out) hb); have n1_ := Aside0.mk (blk_below (g := gb144) (o := .cells #[.int .i64 0, .int .i64 0] 27 (0, 0)) (by (with_reducible repeat (first | refine blk_drewN ?_ _ | refine blk_drew ?_ | refine blk_alloc ?_ _)); exact BK144.out) hb); have n2_ := Aside0.mk (below_step (by repeat (first | (with_reducible first | exact HB.out | apply below_alloc | apply pw_below_drewN | apply below_drew1 | refine below_set ?_ GE143.out | refine below_set ?_ GE144.out) | exact HB.out)) hb); clear BK143; clear BK144; clear HB; have BK143 := n0_; have BK144 := n1_; have HB := n2_; clear n0_ n1_ n2_; (try clear hb); (try clear hb2); (try clear hk); (try clear hi); have hcz44_0 : w43.cell? ⟨gb144, 0, none⟩ = some (.int .i64 0) := (blk_cell BK144.out 0).trans rfl; have hcz44_1 : w43.cell? ⟨gb144, 1, none⟩ = some (.int .i64 0) := (blk_cell BK144.out 1).trans rfl; have hfz44_0 := blk_frozen BK144.out 0; have hfz44_1 := blk_frozen BK144.out 1))
    refine bodyPost_ret (results_ct rfl _ _ gb144 27 #[.int .i64 0, .int .i64 0] (0, 0) _ rfl (by (with_reducible repeat (first | refine blk_drewN ?_ _ | refine blk_drew ?_ | refine blk_alloc ?_ _)); refine blk_put (cs := #[.int .i64 0, .int .i64 0]) ?_ 1 _ rfl; (with_reducible repeat (first | refine blk_drewN ?_ _ | refine blk_drew ?_ | refine blk_alloc ?_ _)); refine blk_put (cs := #[.int .i64 0, .int .i64 0]) ?_ 0 _ rfl; (with_reducible repeat (first | refine blk_drewN ?_ _ | refine blk_drew ?_ | refine blk_alloc ?_ _)); exact BK144.out) Try.underlying27 rfl (by kernel_rfl)) rfl ?_
    exact ⟨by first | rfl | (simp [errW_none, errW_some] <;> rfl) | (simp [*, errW_none, errW_some] <;> rfl), by repeat (first | (with_reducible first | exact HB.out | apply below_alloc | apply pw_below_drewN | apply below_drew1 | refine below_set ?_ GE143.out | refine below_set ?_ GE144.out) | exact HB.out)⟩
end Go.Proofs.Ytnbnalbomflafaa.GV
/-! ## Ds -/
namespace Go.Proofs.Ytnbnalbomflafaa.DT
open Go.RowKit Go.Proofs.YtnbnalbomflafaaW.PrintWords Go.Proofs.YtnbnalbomflafaaW.PrintLast Go.Proofs.YtnbnalbomflafaaW.PrintMore
open Go.Proofs.Ytnbnalbomflafaa.GA hiding info37
open Go.Proofs.Ytnbnalbomflafaa.GR hiding rd_L1 at_L1
open Go.Proofs.Ytnbnalbomflafaa.RA
set_option linter.unusedVariables false
set_option linter.unusedSimpArgs false
def zeroOwn : Int → Int := fun _ => 0
theorem chance_right (l : List (List Int)) (a b : Int) : rightL l zeroOwn 1 0 a b (innerL l a b) = (innerL l a b).map fun p => (cntL a (rd_L1 l p) : Int) := by
  unfold rightL
  refine List.map_congr_left fun p _ => ?_
  simp only [sumF, zeroOwn]
  rw [List.take_of_length_le (Nat.le_refl _)]
  omega
/-- A list of ratios, told at its places. -/
structure RatK (l : List (List Int)) (a b : Int) (K : Nat) (x : List GT.S27) : Prop where
  len : x.length = l.length
  atA : GT.rd_T27 x a = ⟨1, 1⟩
  atB : GT.rd_T27 x b = ⟨0, 1⟩
  at_ : ∀ k : Nat, k < K → GT.rd_T27 x (rd (innerL l a b) (k : Int)) = ⟨(ratV (numOf l zeroOwn 1 0 a b k) (denOf l a b)).1, (ratV (numOf l zeroOwn 1 0 a b k) (denOf l a b)).2⟩
theorem rdT_same {x : List GT.S27} {q : Int} (y : GT.S27) (h0 : 0 ≤ q) (h1 : q < x.length) : GT.rd_T27 (x.set q.toNat y) q = y := by
  unfold GT.rd_T27
  rw [List.getD_eq_getElem?_getD, List.getElem?_set_self (by omega)]
  rfl
theorem rdT_other {x : List GT.S27} {q v : Int} (y : GT.S27) (h0 : 0 ≤ q) (h1 : 0 ≤ v) (hne : v ≠ q) : GT.rd_T27 (x.set q.toNat y) v = GT.rd_T27 x v := by
  unfold GT.rd_T27
  rw [List.getD_eq_getElem?_getD, List.getElem?_set_ne (by omega), ← List.getD_eq_getElem?_getD]
theorem ratK_start {l : List (List Int)} {a b : Int} (a0 : 0 ≤ a) (a1 : a < l.length) (b0 : 0 ≤ b) (b1 : b < l.length) (hab : a ≠ b) : RatK l a b 0 (((List.replicate l.length GT.z27).set a.toNat ⟨1, 1⟩).set b.toNat ⟨0, 1⟩) :=
  ⟨by simp, by rw [rdT_other _ b0 a0 hab, rdT_same _ a0 (by simpa using a1)], by rw [rdT_same _ b0 (by simpa using b1)], fun k hk => by omega⟩
theorem ratK_more {l : List (List Int)} {a b : Int} {K : Nat} {x : List GT.S27} (h : RatK l a b K x) (hK : K < (innerL l a b).length) (a0 : 0 ≤ a) (b0 : 0 ≤ b) : RatK l a b (K + 1) (x.set (rd (innerL l a b) (K : Int)).toNat ⟨(ratV (numOf l zeroOwn 1 0 a b K) (denOf l a b)).1, (ratV (numOf l zeroOwn 1 0 a b K) (denOf l a b)).2⟩) := by
  have hm := inner_mem (l := l) (a := a) (b := b) (p := rd (innerL l a b) (K : Int)) (by rw [rd_at _ K hK]; exact List.getElem_mem _)
  have hl := h.len
  refine ⟨by rw [List.length_set]; exact hl, ?_, ?_, fun k hk => ?_⟩
  · rw [rdT_other _ hm.1 a0 (fun e => hm.2.2.1 e.symm)]
    exact h.atA
  · rw [rdT_other _ hm.1 b0 (fun e => hm.2.2.2 e.symm)]
    exact h.atB
  · by_cases hkK : k = K
    · subst hkK
      rw [rdT_same _ hm.1 (by omega)]
    · have hm2 := inner_mem (l := l) (a := a) (b := b) (p := rd (innerL l a b) (k : Int)) (by rw [rd_at _ k (by omega)]; exact List.getElem_mem _)
      rw [rdT_other _ hm.1 hm2.1 (fun e => hkK (rd_inj (inner_nodup l a b) (by omega) hK e))]
      exact h.at_ k (by omega)
theorem chance_l2 {l : List (List Int)} {a b : Int} (h : Eqs l zeroOwn 1 a b) (hd : 0 < denOf l a b) (a0 : 0 ≤ a) (b0 : 0 ≤ b) (d : Nat) : ∀ (k i : Nat) (x : List GT.S27), i + d = (innerL l a b).length → 100000000 + d < k → RatK l a b i x →
    ∃ y, GT.spec_hiChances.l2 k (numsL (innerL l a b).length (matM l a b) (rightL l zeroOwn 1 0 a b (innerL l a b))) (denOf l a b) x (innerL l a b) ((innerL l a b).length : Int) (i : Int) = some y ∧ RatK l a b (innerL l a b).length y := by
  have hn : (numsL (innerL l a b).length (matM l a b) (rightL l zeroOwn 1 0 a b (innerL l a b))).length = (innerL l a b).length := by simp [numsL]
  have hdb := den_bound h
  have hm6 := h.m6
  induction d with
  | zero =>
    intro k i x hi hk hx
    obtain ⟨k, rfl⟩ := KA.succ_of (show 0 < k by omega)
    obtain rfl : i = (innerL l a b).length := by omega
    refine ⟨x, ?_, hx⟩
    unfold GT.spec_hiChances.l2
    rw [if_neg (by omega)]
  | succ d ih =>
    intro k i x hi hk hx
    obtain ⟨k, rfl⟩ := KA.succ_of (show 0 < k by omega)
    have him : i < (innerL l a b).length := by omega
    have hm := inner_mem (l := l) (a := a) (b := b) (p := rd (innerL l a b) (i : Int)) (by rw [rd_at _ i him]; exact List.getElem_mem _)
    have hl := hx.len
    have hnb := num_bound h him
    have hnx := ratK_more hx him a0 b0
    unfold GT.spec_hiChances.l2
    rw [if_pos (by omega), if_pos (by omega), if_pos (by omega), if_pos (by omega), nums_at l zeroOwn 1 a b him, spec_ratio (by omega) hd (by omega) k (by omega), Option.bind_some, if_pos hm.1, if_pos (by omega), KA.wrap_up him (by omega)]
    exact ih k (i + 1) _ (by omega) (by omega) hnx
theorem chance_l1 {l : List (List Int)} {a b : Int} (pl : List Int) (M : List (List Int)) (rs xs : List Int) (n i : Int) {p : Int} (h5 : (rd_L1 l p).length ≤ 5) (hrs : rs.length < 1000) (d : Nat) : ∀ (k x : Nat), x + d = (rd_L1 l p).length →
    GT.spec_hiChances.l1 (k + d + 1) a b pl M rs (cntL a ((rd_L1 l p).take x) : Int) xs n i (rd_L1 l p) ((rd_L1 l p).length : Int) (x : Int) l = GT.spec_hiChances.l0 k a b pl M (rs ++ [(cntL a (rd_L1 l p) : Int)]) xs n (wrap64 (i + 1)) l := by
  induction d with
  | zero =>
    intro k x hx
    unfold GT.spec_hiChances.l1
    rw [if_neg (by omega), if_pos (by omega), List.take_of_length_le (by omega)]
  | succ d ih =>
    intro k x hx
    have hxl : x < (rd_L1 l p).length := by omega
    have hc : cntL a ((rd_L1 l p).take x) ≤ 5 := Nat.le_trans (cntL_le _ _) (by rw [List.length_take]; omega)
    have hst := cntL_step (q := a) hxl
    rw [show k + (d + 1) + 1 = (k + d + 1) + 1 by omega]
    unfold GT.spec_hiChances.l1
    rw [if_pos (by omega), if_pos (by omega), if_pos (by omega), rd_at _ x hxl, KA.wrap_up hxl (by omega)]
    by_cases hq : (rd_L1 l p)[x] = a
    · rw [if_pos hq]
      rw [if_pos hq] at hst
      have e : wrap64 ((cntL a ((rd_L1 l p).take x) : Int) + 1) = (cntL a ((rd_L1 l p).take (x + 1)) : Int) := by
        rw [hst, wrap_id (by omega) (by omega)]
        omega
      rw [e]
      exact ih k (x + 1) (by omega)
    · rw [if_neg hq]
      rw [if_neg hq, Nat.add_zero] at hst
      have := ih k (x + 1) (by omega)
      rw [hst] at this
      exact this
theorem chance_l0 {l : List (List Int)} {a b : Int} (hg : goodB l a b = true) (h : Eqs l zeroOwn 1 a b) (d : Nat) : ∀ (k i : Nat), i + d = (innerL l a b).length → 100000100 + d * 10 < k →
    ∃ y, GT.spec_hiChances.l0 k a b (innerL l a b) (matM l a b) ((rightL l zeroOwn 1 0 a b (innerL l a b)).take i) (innerL l a b) ((innerL l a b).length : Int) (i : Int) l = some y ∧ RatK l a b (innerL l a b).length y := by
  obtain ⟨hab, a0, a1, b0, b1, h8, h5, _, _⟩ := good_facts hg
  have hlR := h.lR
  have hm6 := h.m6
  induction d with
  | zero =>
    intro k i hi hk
    obtain ⟨k, rfl⟩ := KA.succ_of (show 0 < k by omega)
    obtain ⟨y, hy, hR⟩ := chance_l2 h (den_pos hg) a0 b0 (innerL l a b).length k 0 _ (by omega) (by omega) (ratK_start a0 a1 b0 b1 hab)
    refine ⟨y, ?_, hR⟩
    unfold GT.spec_hiChances.l0
    rw [if_neg (by omega), List.take_of_length_le (by omega), eqs_solve h k (by omega), Option.bind_some, if_pos (by omega), if_pos (by omega), Option.bind_some, Int.toNat_natCast, if_pos a0, if_pos (by simpa using a1), if_pos b0, if_pos (by simpa using b1)]
    exact hy
  | succ d ih =>
    intro k i hi hk
    have him : i < (innerL l a b).length := by omega
    have hm := inner_mem (l := l) (a := a) (b := b) (p := rd (innerL l a b) (i : Int)) (by rw [rd_at _ i him]; exact List.getElem_mem _)
    have hdg := h5 _ hm.1 hm.2.1
    obtain ⟨k2, rfl⟩ : ∃ k2, k = k2 + (rd_L1 l (rd (innerL l a b) (i : Int))).length + 1 + 1 := ⟨k - (rd_L1 l (rd (innerL l a b) (i : Int))).length - 2, by omega⟩
    have e : (rightL l zeroOwn 1 0 a b (innerL l a b)).take i ++ [(cntL a (rd_L1 l (rd (innerL l a b) (i : Int))) : Int)] = (rightL l zeroOwn 1 0 a b (innerL l a b)).take (i + 1) := by
      rw [List.take_succ_eq_append_getElem (by omega)]
      congr 2
      have := chance_right l a b
      simp only [this, List.getElem_map]
      rw [rd_at _ i him]
    obtain ⟨y, hy, hR⟩ := ih k2 (i + 1) (by omega) (by omega)
    refine ⟨y, ?_, hR⟩
    unfold GT.spec_hiChances.l0
    rw [if_pos (by omega), if_pos (by omega), if_pos (by omega), if_pos hm.1, if_pos hm.2.1]
    have e1 := chance_l1 (l := l) (a := a) (b := b) (innerL l a b) (matM l a b) ((rightL l zeroOwn 1 0 a b (innerL l a b)).take i) (innerL l a b) ((innerL l a b).length : Int) (i : Int) hdg (by simp; omega) (rd_L1 l (rd (innerL l a b) (i : Int))).length k2 0 (by omega)
    rw [List.take_zero] at e1
    refine Eq.trans e1 ?_
    rw [e, KA.wrap_up him (by omega)]
    exact hy
theorem hiChances_f {l : List (List Int)} {a b : Int} (hg : goodB l a b = true) (k : Nat) (hk : 150000000 ≤ k) : ∃ y, GT.spec_hiChances.f k l a b = some y ∧ RatK l a b (innerL l a b).length y := by
  obtain ⟨_, _, _, _, _, _, h5, _, _⟩ := good_facts hg
  have h : Eqs l zeroOwn 1 a b := eqs_of hg (sum_chances h5)
  have hm6 := h.m6
  obtain ⟨y, hy, hR⟩ := chance_l0 hg h (innerL l a b).length k 0 (by omega) (by omega)
  refine ⟨y, ?_, hR⟩
  unfold GT.spec_hiChances.f
  have hM : spec_hiMatrix.f l a b = some (innerL l a b, matM l a b) := by unfold spec_hiMatrix.f; rw [if_pos (good_graph hg)]
  rw [hM, Option.bind_some]
  rw [List.take_zero] at hy
  exact hy
/-- A chance, as both sides tell it. -/
theorem ratK_at {l : List (List Int)} {a b : Int} (hg : goodB l a b = true) {y : List GT.S27} (h : RatK l a b (innerL l a b).length y) {p : Int} (p0 : 0 ≤ p) (p1 : p < l.length) : GT.rd_T27 y p = ⟨(ratV (rd (chL l a b) p) (denOf l a b)).1, (ratV (rd (chL l a b) p) (denOf l a b)).2⟩ := by
  have hd := den_pos hg
  unfold chL
  rw [show (fun _ : Int => (0 : Int)) = zeroOwn from rfl, outL_at p0 p1]
  by_cases hpa : p = a
  · rw [if_pos hpa, Int.one_mul, ratV_same hd, hpa, h.atA]
  · rw [if_neg hpa]
    by_cases hpb : p = b
    · rw [if_pos hpb, Int.zero_mul, ratV_zero hd, hpb, h.atB]
    · rw [if_neg hpb]
      have hm := mem_inner p0 p1 hpa hpb
      have hlt := List.idxOf_lt_length_iff.2 hm
      have := h.at_ _ hlt
      rw [rd_at _ _ hlt, List.getElem_idxOf hlt] at this
      exact this
end Go.Proofs.Ytnbnalbomflafaa.DT
namespace Go.Proofs.Ytnbnalbomflafaa.RA
open Go.RowKit Go.Proofs.YtnbnalbomflafaaW.PrintWords Go.Proofs.YtnbnalbomflafaaW.PrintLast Go.Proofs.YtnbnalbomflafaaW.PrintMore
open Go.Proofs.Ytnbnalbomflafaa.DT
end Go.Proofs.Ytnbnalbomflafaa.RA
/-! ## Dt -/
namespace Go.Proofs.Ytnbnalbomflafaa.DT
open Go.RowKit Go.Proofs.YtnbnalbomflafaaW.PrintWords Go.Proofs.YtnbnalbomflafaaW.PrintLast Go.Proofs.YtnbnalbomflafaaW.PrintMore
open Go.Proofs.Ytnbnalbomflafaa.GA hiding info37
open Go.Proofs.Ytnbnalbomflafaa.GR hiding rd_L1 at_L1
open Go.Proofs.Ytnbnalbomflafaa.RA
set_option linter.unusedVariables false
set_option linter.unusedSimpArgs false
theorem gcd_facts {x d : Int} (hd : 0 < d) : ∃ g : Int, 0 < g ∧ (ratV x d).1 * g = x ∧ (ratV x d).2 * g = d ∧ Int.tdiv d (ratV x d).2 = g ∧ 0 < (ratV x d).2 := by
  have hg : 0 < Nat.gcd x.natAbs d.natAbs := Nat.gcd_pos_of_pos_right _ (by omega)
  have h1 : ((Nat.gcd x.natAbs d.natAbs : Nat) : Int) ∣ x := Int.dvd_natAbs.1 (Int.natCast_dvd_natCast.2 (Nat.gcd_dvd_left _ _))
  have h2 : ((Nat.gcd x.natAbs d.natAbs : Nat) : Int) ∣ d := Int.dvd_natAbs.1 (Int.natCast_dvd_natCast.2 (Nat.gcd_dvd_right _ _))
  unfold ratV
  generalize Nat.gcd x.natAbs d.natAbs = g at *
  have e1 : Int.tdiv x (g : Int) * (g : Int) = x := Int.tdiv_mul_cancel h1
  have e2 : Int.tdiv d (g : Int) * (g : Int) = d := Int.tdiv_mul_cancel h2
  have hp : 0 < Int.tdiv d (g : Int) := by
    by_cases q : 0 < Int.tdiv d (g : Int)
    · exact q
    · have : Int.tdiv d (g : Int) * (g : Int) ≤ 0 := Int.mul_nonpos_of_nonpos_of_nonneg (by omega) (by omega)
      omega
  refine ⟨(g : Int), by omega, e1, e2, ?_, hp⟩
  show Int.tdiv d (Int.tdiv d (g : Int)) = (g : Int)
  generalize Int.tdiv d (g : Int) = u at *
  rw [← e2, Int.mul_tdiv_cancel_left _ (by omega)]
theorem back_value {x d : Int} (hx : x.natAbs ≤ 11250000) (hd : 0 < d) (hd2 : d ≤ 11250000) : wrap64 ((ratV x d).1 * wrap64 (Int.tdiv d (ratV x d).2)) = x := by
  obtain ⟨g, g0, e1, e2, e3, hp⟩ := gcd_facts (x := x) hd
  have hg : g ≤ d := by
    have : 1 * g ≤ (ratV x d).2 * g := Int.mul_le_mul_of_nonneg_right (by omega) (by omega)
    omega
  rw [e3, show wrap64 g = g from wrap_id (by omega) (by omega), e1]
  exact wrap_id (by omega) (by omega)
def dif (v : List Int) (p q : Int) : Int := ((rd v p - rd v q).natAbs : Int)
def difs (v : List Int) (p : Int) (ex : List Int) : Int := lsum (ex.map fun q => dif v p q)
theorem lsum_app (a b : List Int) : lsum (a ++ b) = lsum a + lsum b := by
  induction a with
  | nil => simp [lsum]
  | cons x t ih => simp only [List.cons_append, lsum, ih]; omega
theorem lsum_le {K : Int} (hK : 0 ≤ K) : ∀ l : List Int, (∀ x ∈ l, 0 ≤ x ∧ x ≤ K) → 0 ≤ lsum l ∧ lsum l ≤ (l.length : Int) * K
  | [], _ => by simp [lsum]
  | x :: t, h => by
    have ih := lsum_le hK t fun y hy => h y (List.mem_cons_of_mem _ hy)
    have hx := h x List.mem_cons_self
    simp only [lsum, List.length_cons]
    rw [Int.natCast_add, Int.add_mul]
    simp
    omega
/-- What is known of the list of values. -/
structure Vals (l : List (List Int)) (a b : Int) (v : List Int) (den : Int) : Prop where
  len : v.length = l.length
  bnd : ∀ p : Int, 0 ≤ p → p < l.length → (rd v p).natAbs ≤ 11250000
  d0 : 0 < den
  d1 : den ≤ 11250000
  l8 : l.length ≤ 8
  deg : ∀ p : Int, 0 ≤ p → p < l.length → (rd_L1 l p).length ≤ 5
  ex : ∀ p : Int, 0 ≤ p → p < l.length → ∀ q ∈ rd_L1 l p, 0 ≤ q ∧ q < l.length
theorem difs_le {l : List (List Int)} {a b : Int} {v : List Int} {den : Int} (h : Vals l a b v den) {p : Int} (p0 : 0 ≤ p) (p1 : p < l.length) (x : Nat) : 0 ≤ difs v p ((rd_L1 l p).take x) ∧ difs v p ((rd_L1 l p).take x) ≤ 112500000 := by
  have hd := h.deg p p0 p1
  have := lsum_le (K := 22500000) (by omega) (((rd_L1 l p).take x).map fun q => dif v p q) fun y hy => by
    obtain ⟨q, hq, rfl⟩ := List.mem_map.1 hy
    have hqq := h.ex p p0 p1 q (List.mem_of_mem_take hq)
    have h1 := h.bnd p p0 p1
    have h2 := h.bnd q hqq.1 hqq.2
    unfold dif
    omega
  have hl : ((((rd_L1 l p).take x).map fun q => dif v p q).length : Int) ≤ 5 := by simp; omega
  have h3 : ((((rd_L1 l p).take x).map fun q => dif v p q).length : Int) * 22500000 ≤ 5 * 22500000 := Int.mul_le_mul_of_nonneg_right hl (by omega)
  unfold difs
  omega
theorem difs_step {v : List Int} {p : Int} {ex : List Int} {x : Nat} (hx : x < ex.length) : difs v p (ex.take (x + 1)) = difs v p (ex.take x) + dif v p ex[x] := by
  unfold difs
  rw [List.take_succ_eq_append_getElem hx, List.map_append, lsum_app]
  simp [lsum]
def bound (l : List (List Int)) (v : List Int) (pl : List Int) : Int := lsum (pl.map fun p => difs v p (rd_L1 l p))
theorem bound_le {l : List (List Int)} {a b : Int} {v : List Int} {den : Int} (h : Vals l a b v den) (pl : List Int) (hp : ∀ p ∈ pl, 0 ≤ p ∧ p < l.length) (hn : pl.length ≤ 8) : 0 ≤ bound l v pl ∧ bound l v pl ≤ 900000000 := by
  have := lsum_le (K := 112500000) (by omega) (pl.map fun p => difs v p (rd_L1 l p)) fun y hy => by
    obtain ⟨p, hpm, rfl⟩ := List.mem_map.1 hy
    obtain ⟨q0, q1⟩ := hp p hpm
    have := difs_le h q0 q1 (rd_L1 l p).length
    rwa [List.take_of_length_le (Nat.le_refl _)] at this
  have hl : ((pl.map fun p => difs v p (rd_L1 l p)).length : Int) ≤ 8 := by simp; omega
  have h3 : ((pl.map fun p => difs v p (rd_L1 l p)).length : Int) * 112500000 ≤ 8 * 112500000 := Int.mul_le_mul_of_nonneg_right hl (by omega)
  unfold bound
  omega
theorem bound_app (l : List (List Int)) (v pl : List Int) (p : Int) : bound l v (pl ++ [p]) = bound l v pl + difs v p (rd_L1 l p) := by
  unfold bound
  rw [List.map_append, lsum_app]
  simp [lsum]
theorem abs_f {x : Int} (h : x.natAbs ≤ 1000000000000000) : spec_l1Abs.f x = some ((x.natAbs : Nat) : Int) := by
  unfold spec_l1Abs.f spec_l1Most.f
  rw [show wrap64 (-x) = -x from wrap_id (by omega) (by omega)]
  split
  · rw [show ((x.natAbs : Nat) : Int) = x by omega]; rfl
  · rw [show ((x.natAbs : Nat) : Int) = -x by omega]; rfl
theorem size_f {x : Int} (h : x.natAbs ≤ 1000000000000000) : GV.impl_size.f x = some ((x.natAbs : Nat) : Int) := by
  unfold GV.impl_size.f
  rw [abs_max x h]
theorem impl_bound_l1 {l : List (List Int)} {a b : Int} {v : List Int} {den : Int} (h : Vals l a b v den) (n i : Int) {p : Int} (p0 : 0 ≤ p) (p1 : p < l.length) (pa : p ≠ a) (pb : p ≠ b) {acc : Int} (ha : 0 ≤ acc ∧ acc ≤ 1000000000) (d : Nat) : ∀ (k x : Nat), x + d = (rd_L1 l p).length →
    GV.impl_HitBound.l1 (k + d + 1) a b v den (acc + difs v p ((rd_L1 l p).take x)) p l n i (rd_L1 l p) ((rd_L1 l p).length : Int) (x : Int) = GV.impl_HitBound.l0 k a b v den (acc + difs v p (rd_L1 l p)) l n (wrap64 (i + 1)) := by
  have hdg := h.deg p p0 p1
  have hvl := h.len
  induction d with
  | zero =>
    intro k x hx
    unfold GV.impl_HitBound.l1
    rw [if_neg (by omega), List.take_of_length_le (by omega)]
  | succ d ih =>
    intro k x hx
    have hxl : x < (rd_L1 l p).length := by omega
    have hq := h.ex p p0 p1 _ (List.getElem_mem hxl)
    have b1 := h.bnd p p0 p1
    have b2 := h.bnd _ hq.1 hq.2
    have hs := difs_step (v := v) (p := p) hxl
    have hb := difs_le h p0 p1 (x + 1)
    rw [show k + (d + 1) + 1 = (k + d + 1) + 1 by omega]
    unfold GV.impl_HitBound.l1
    rw [if_pos (by omega), if_pos (by omega), if_pos (by omega), if_neg pa, if_neg pb, if_pos p0, if_pos (by omega), rd_at _ x hxl, if_pos hq.1, if_pos (by omega), show wrap64 (rd v p - rd v (rd_L1 l p)[x]) = rd v p - rd v (rd_L1 l p)[x] from wrap_id (by omega) (by omega), size_f (by omega), Option.bind_some, KA.wrap_up hxl (by omega)]
    have e : wrap64 (acc + difs v p ((rd_L1 l p).take x) + (((rd v p - rd v (rd_L1 l p)[x]).natAbs : Nat) : Int)) = acc + difs v p ((rd_L1 l p).take (x + 1)) := by
      rw [hs]
      unfold dif at hs ⊢
      rw [wrap_id (by omega) (by omega)]
      omega
    rw [e]
    exact ih k (x + 1) (by omega)
theorem impl_bound_skip {l : List (List Int)} {a b : Int} {v : List Int} {den : Int} (n i : Int) {p : Int} (hp : p = a ∨ p = b) {ex : List Int} (hx5 : ex.length ≤ 1000) (acc : Int) (d : Nat) : ∀ (k x : Nat), x + d = ex.length →
    GV.impl_HitBound.l1 (k + d + 1) a b v den acc p l n i ex (ex.length : Int) (x : Int) = GV.impl_HitBound.l0 k a b v den acc l n (wrap64 (i + 1)) := by
  induction d with
  | zero =>
    intro k x hx
    unfold GV.impl_HitBound.l1
    rw [if_neg (by omega)]
  | succ d ih =>
    intro k x hx
    rw [show k + (d + 1) + 1 = (k + d + 1) + 1 by omega]
    unfold GV.impl_HitBound.l1
    rw [if_pos (by omega), if_pos (by omega), if_pos (by omega), KA.wrap_up (show x < ex.length by omega) (by omega)]
    by_cases pa : p = a
    · rw [if_pos pa]
      exact ih k (x + 1) (by omega)
    · rw [if_neg pa, if_pos (hp.resolve_left pa)]
      exact ih k (x + 1) (by omega)
theorem impl_bound_l0 {l : List (List Int)} {a b : Int} {v : List Int} {den : Int} (h : Vals l a b v den) (d : Nat) : ∀ (k i : Nat), i + d = l.length → 100000100 + d * 10 < k →
    GV.impl_HitBound.l0 k a b v den (den + bound l v (innerT a b i)) l (l.length : Int) (i : Int) = some ((ratV (den + bound l v (innerL l a b)) den).1, (ratV (den + bound l v (innerL l a b)) den).2, true) := by
  have h8 := h.l8
  have hd0 := h.d0
  have hd1 := h.d1
  have hmem : ∀ i : Nat, i ≤ l.length → ∀ p ∈ innerT a b i, 0 ≤ p ∧ p < l.length := fun i hi p hp => by
    unfold innerT at hp
    rw [List.mem_filter, List.mem_map] at hp
    obtain ⟨⟨j, hj, rfl⟩, _⟩ := hp
    simp at hj
    omega
  induction d with
  | zero =>
    intro k i hi hk
    obtain rfl : i = l.length := by omega
    obtain ⟨k, rfl⟩ := KA.succ_of (show 0 < k by omega)
    have hb := bound_le h (innerT a b l.length) (hmem _ (Nat.le_refl _)) (Nat.le_trans (innerT_len a b _) (by omega))
    unfold GV.impl_HitBound.l0
    rw [if_neg (by omega), size_f (by omega), Option.bind_some, show ((den.natAbs : Nat) : Int) = den by omega, impl_ratio_f (by omega) hd0 (by omega) k (by omega)]
    rfl
  | succ d ih =>
    intro k i hi hk
    have hil : i < l.length := by omega
    have hdg := h.deg (i : Int) (by omega) (by omega)
    have hb := bound_le h (innerT a b i) (hmem _ (by omega)) (Nat.le_trans (innerT_len a b _) (by omega))
    obtain ⟨k2, rfl⟩ : ∃ k2, k = k2 + (rd_L1 l (i : Int)).length + 1 + 1 := ⟨k - (rd_L1 l (i : Int)).length - 2, by omega⟩
    have hrec := ih k2 (i + 1) (by omega) (by omega)
    unfold GV.impl_HitBound.l0
    rw [if_pos (by omega), if_pos (by omega), if_pos (by omega)]
    by_cases hab : (i : Int) ≠ a ∧ (i : Int) ≠ b
    · have e1 := impl_bound_l1 h (l.length : Int) (i : Int) (p := (i : Int)) (by omega) (by omega) hab.1 hab.2 (acc := den + bound l v (innerT a b i)) (by omega) (rd_L1 l (i : Int)).length k2 0 (by omega)
      rw [List.take_zero, show difs v (i : Int) [] = 0 from rfl, Int.add_zero] at e1
      refine Eq.trans e1 ?_
      rw [KA.wrap_up hil (by omega), Int.add_assoc, ← bound_app, ← innerT_succ_in hab]
      exact hrec
    · have e1 := impl_bound_skip (l := l) (a := a) (b := b) (v := v) (den := den) (l.length : Int) (i : Int) (p := (i : Int)) (by
        by_cases q : (i : Int) = a
        · exact .inl q
        · exact .inr (by
            by_cases q2 : (i : Int) = b
            · exact q2
            · exact absurd ⟨q, q2⟩ hab)) (ex := rd_L1 l (i : Int)) (by omega) (den + bound l v (innerT a b i)) (rd_L1 l (i : Int)).length k2 0 (by omega)
      refine Eq.trans e1 ?_
      rw [KA.wrap_up hil (by omega), ← innerT_succ_out hab]
      exact hrec
end Go.Proofs.Ytnbnalbomflafaa.DT
/-! ## Du -/
namespace Go.Proofs.Ytnbnalbomflafaa.DT
open Go.RowKit Go.Proofs.YtnbnalbomflafaaW.PrintWords Go.Proofs.YtnbnalbomflafaaW.PrintLast Go.Proofs.YtnbnalbomflafaaW.PrintMore
open Go.Proofs.Ytnbnalbomflafaa.GA hiding info37
open Go.Proofs.Ytnbnalbomflafaa.GR hiding rd_L1 at_L1
open Go.Proofs.Ytnbnalbomflafaa.RA
set_option linter.unusedVariables false
set_option linter.unusedSimpArgs false
theorem vals_of {l : List (List Int)} {a b : Int} (hg : goodB l a b = true) : Vals l a b (chL l a b) (denOf l a b) := by
  obtain ⟨_, _, _, _, _, h8, h5, hq, _⟩ := good_facts hg
  have h : Eqs l zeroOwn 1 a b := eqs_of hg (sum_chances h5)
  have hd := den_pos hg
  have hb := den_bound h
  exact ⟨by simp [chL, outL], fun p p0 p1 => out_bound h (by omega) p0 p1, hd, by omega, h8, h5, hq⟩
theorem spec_bound_l1 {l : List (List Int)} {a b : Int} {den : Int} {v : List Int} {y : List GT.S27} (h : Vals l a b v den) (hyl : y.length = l.length) (hy : ∀ p : Int, 0 ≤ p → p < l.length → GT.rd_T27 y p = ⟨(ratV (rd v p) den).1, (ratV (rd v p) den).2⟩) (pl : List Int) (m i : Int) {p : Int} (p0 : 0 ≤ p) (p1 : p < l.length) {acc : Int} (ha : 0 ≤ acc ∧ acc ≤ 1000000000) (d : Nat) : ∀ (k x : Nat), x + d = (rd_L1 l p).length →
    GT.spec_hiBound.l1 (k + d + 1) den y (acc + difs v p ((rd_L1 l p).take x)) p pl m i (rd_L1 l p) ((rd_L1 l p).length : Int) (x : Int) l = GT.spec_hiBound.l0 k den y (acc + difs v p (rd_L1 l p)) pl m (wrap64 (i + 1)) l := by
  have hdg := h.deg p p0 p1
  have hd0 := h.d0
  have hd1 := h.d1
  induction d with
  | zero =>
    intro k x hx
    unfold GT.spec_hiBound.l1
    rw [if_neg (by omega), List.take_of_length_le (by omega)]
  | succ d ih =>
    intro k x hx
    have hxl : x < (rd_L1 l p).length := by omega
    have hq := h.ex p p0 p1 _ (List.getElem_mem hxl)
    have b1 := h.bnd p p0 p1
    have b2 := h.bnd _ hq.1 hq.2
    have hs := difs_step (v := v) (p := p) hxl
    have hb := difs_le h p0 p1 (x + 1)
    have n1 : ¬ ((ratV (rd v p) den).2 = 0) := by obtain ⟨_, _, _, _, _, q⟩ := gcd_facts (x := rd v p) hd0; omega
    have n2 : ¬ ((ratV (rd v (rd_L1 l p)[x]) den).2 = 0) := by obtain ⟨_, _, _, _, _, q⟩ := gcd_facts (x := rd v (rd_L1 l p)[x]) hd0; omega
    rw [show k + (d + 1) + 1 = (k + d + 1) + 1 by omega]
    unfold GT.spec_hiBound.l1
    rw [if_pos (by omega), if_pos (by omega), if_pos (by omega), if_pos p0, if_pos (by omega), hy p p0 p1, rd_at _ x hxl, if_neg n1, if_pos hq.1, if_pos (by omega), hy _ hq.1 hq.2, if_neg n2, back_value b1 hd0 hd1, back_value b2 hd0 hd1, show wrap64 (rd v p - rd v (rd_L1 l p)[x]) = rd v p - rd v (rd_L1 l p)[x] from wrap_id (by omega) (by omega), abs_f (by omega), Option.bind_some, KA.wrap_up hxl (by omega)]
    have e : wrap64 (acc + difs v p ((rd_L1 l p).take x) + (((rd v p - rd v (rd_L1 l p)[x]).natAbs : Nat) : Int)) = acc + difs v p ((rd_L1 l p).take (x + 1)) := by
      rw [hs]
      unfold dif at hs ⊢
      rw [wrap_id (by omega) (by omega)]
      omega
    rw [e]
    exact ih k (x + 1) (by omega)
theorem spec_bound_l0 {l : List (List Int)} {a b : Int} {den : Int} {v : List Int} {y : List GT.S27} (h : Vals l a b v den) (hyl : y.length = l.length) (hy : ∀ p : Int, 0 ≤ p → p < l.length → GT.rd_T27 y p = ⟨(ratV (rd v p) den).1, (ratV (rd v p) den).2⟩) (d : Nat) : ∀ (k i : Nat), i + d = (innerL l a b).length → 100000100 + d * 10 < k →
    GT.spec_hiBound.l0 k den y (den + bound l v ((innerL l a b).take i)) (innerL l a b) ((innerL l a b).length : Int) (i : Int) l = some (ratV (den + bound l v (innerL l a b)) den) := by
  have h8 := h.l8
  have hd0 := h.d0
  have hd1 := h.d1
  have hin : (innerL l a b).length ≤ 8 := Nat.le_trans (innerT_len a b _) h8
  have hmem : ∀ i : Nat, ∀ p ∈ (innerL l a b).take i, 0 ≤ p ∧ p < l.length := fun i p hp => by
    have := inner_mem (List.mem_of_mem_take hp)
    omega
  induction d with
  | zero =>
    intro k i hi hk
    obtain ⟨k, rfl⟩ := KA.succ_of (show 0 < k by omega)
    have hb := bound_le h ((innerL l a b).take i) (hmem i) (by simp; omega)
    unfold GT.spec_hiBound.l0
    rw [if_neg (by omega)]
    rw [List.take_of_length_le (by omega)] at hb ⊢
    rw [spec_ratio (by omega) hd0 (by omega) k (by omega)]
    rfl
  | succ d ih =>
    intro k i hi hk
    have him : i < (innerL l a b).length := by omega
    have hm := inner_mem (l := l) (a := a) (b := b) (p := rd (innerL l a b) (i : Int)) (by rw [rd_at _ i him]; exact List.getElem_mem _)
    have hdg := h.deg _ hm.1 hm.2.1
    have hb := bound_le h ((innerL l a b).take i) (hmem i) (by simp; omega)
    obtain ⟨k2, rfl⟩ : ∃ k2, k = k2 + (rd_L1 l (rd (innerL l a b) (i : Int))).length + 1 + 1 := ⟨k - (rd_L1 l (rd (innerL l a b) (i : Int))).length - 2, by omega⟩
    have hrec := ih k2 (i + 1) (by omega) (by omega)
    have e1 := spec_bound_l1 h hyl hy (innerL l a b) ((innerL l a b).length : Int) (i : Int) hm.1 hm.2.1 (acc := den + bound l v ((innerL l a b).take i)) (by omega) (rd_L1 l (rd (innerL l a b) (i : Int))).length k2 0 (by omega)
    rw [List.take_zero, show difs v (rd (innerL l a b) (i : Int)) [] = 0 from rfl, Int.add_zero] at e1
    unfold GT.spec_hiBound.l0
    rw [if_pos (by omega), if_pos (by omega), if_pos (by omega), if_pos hm.1, if_pos hm.2.1]
    refine Eq.trans e1 ?_
    have e2 : (innerL l a b).take (i + 1) = (innerL l a b).take i ++ [rd (innerL l a b) (i : Int)] := by
      rw [List.take_succ_eq_append_getElem him, rd_at _ i him]
    rw [KA.wrap_up him (by omega), Int.add_assoc, ← bound_app, ← e2]
    exact hrec
noncomputable def boundA (l : List (List Int)) (a b : Int) : Int × Int := if goodB l a b = true then ratV (denOf l a b + bound l (chL l a b) (innerL l a b)) (denOf l a b) else (0, 0)
theorem spec_bound_f (l : List (List Int)) (a b : Int) : GT.spec_HitBound.f 200000000 l a b = some ((boundA l a b).1, (boundA l a b).2, goodB l a b) := by
  unfold GT.spec_HitBound.f
  rw [((goodB_is l a b).1 200000000 (by omega)).1, Option.bind_some]
  cases hg : goodB l a b with
  | false =>
    unfold boundA
    rw [hg]
    rfl
  | true =>
    have h := vals_of hg
    obtain ⟨_, _, _, _, _, _, h5, _, _⟩ := good_facts hg
    have hE : Eqs l zeroOwn 1 a b := eqs_of hg (sum_chances h5)
    obtain ⟨y, hy, hR⟩ := hiChances_f hg 200000000 (by omega)
    have hd0 := h.d0
    have hd1 := h.d1
    have hM : spec_hiMatrix.f l a b = some (innerL l a b, matM l a b) := by unfold spec_hiMatrix.f; rw [if_pos (good_graph hg)]
    have hT : spec_trDet.f 200000000 (matM l a b) = some (denOf l a b) := trDet_five hE.m6 hE.sq hE.bM _ (by omega)
    have hm6 := hE.m6
    have := spec_bound_l0 h hR.len (fun p p0 p1 => ratK_at hg hR p0 p1) (innerL l a b).length 200000000 0 (by omega) (by omega)
    rw [List.take_zero, show bound l (chL l a b) [] = 0 from rfl, Int.add_zero] at this
    have hbd : GT.spec_hiBound.f 200000000 l a b = some (ratV (denOf l a b + bound l (chL l a b) (innerL l a b)) (denOf l a b)) := by
      unfold GT.spec_hiBound.f
      rw [hM, Option.bind_some]
      show ((spec_trDet.f 200000000 (matM l a b)).bind _) = _
      rw [hT, Option.bind_some, abs_f (by omega), Option.bind_some, hy, Option.bind_some, show ((denOf l a b).natAbs : Int) = denOf l a b by omega]
      exact this
    have ho : boundA l a b = ratV (denOf l a b + bound l (chL l a b) (innerL l a b)) (denOf l a b) := by unfold boundA; rw [if_pos hg]
    rw [if_pos rfl, hbd, Option.bind_some, ho]
theorem impl_bound_f (l : List (List Int)) (a b : Int) : GV.impl_HitBound.f 200000000 l a b = some ((boundA l a b).1, (boundA l a b).2, goodB l a b) := by
  unfold GV.impl_HitBound.f impl_goodEnd.f
  rw [Option.bind_some]
  cases hg : goodB l a b with
  | false =>
    unfold boundA
    rw [hg]
    rfl
  | true =>
    have h := vals_of hg
    have hd0 := h.d0
    have hd1 := h.d1
    have h8 := h.l8
    have hch : impl_chances.f l a b = some (chL l a b, denOf l a b) := by unfold impl_chances.f; rw [if_pos hg]
    have := impl_bound_l0 h l.length 200000000 0 (by omega) (by omega)
    rw [show bound l (chL l a b) (innerT a b 0) = 0 from rfl, Int.add_zero] at this
    have ho : boundA l a b = ratV (denOf l a b + bound l (chL l a b) (innerL l a b)) (denOf l a b) := by unfold boundA; rw [if_pos hg]
    rw [if_pos rfl, hch, Option.bind_some]
    show ((GV.impl_size.f (denOf l a b)).bind fun t150 => (GV.impl_HitBound.l0 200000000 a b (chL l a b) (denOf l a b) t150 l (l.length : Int) 0)) = _
    rw [size_f (by omega), Option.bind_some, show ((denOf l a b).natAbs : Int) = denOf l a b by omega, ho]
    exact this
end Go.Proofs.Ytnbnalbomflafaa.DT
namespace Go.Proofs.Ytnbnalbomflafaa.RA
open Go.RowKit Go.Proofs.YtnbnalbomflafaaW.PrintWords Go.Proofs.YtnbnalbomflafaaW.PrintLast Go.Proofs.YtnbnalbomflafaaW.PrintMore
open Go.Proofs.Ytnbnalbomflafaa.DT
theorem spec_HitBound_c (l : List (List Int)) (a b : Int) (W : World) (v : Value) (hv : RowsC W v l) : Calls Try.prog 44 #[.agg #[v], .int .i64 a, .int .i64 b] W (RatC W (boundA l a b) (goodB l a b)) := by
  obtain ⟨A, c, rfl, hc, hC⟩ := hv
  exact GT.spec_HitBound.calls 200000000 A c l a b _ _ _ W hC hc (spec_bound_f l a b)
theorem impl_HitBound_c (l : List (List Int)) (a b : Int) (W : World) (v : Value) (hv : RowsC W v l) : Calls Try.prog 45 #[.agg #[v], .int .i64 a, .int .i64 b] W (RatC W (boundA l a b) (goodB l a b)) := by
  obtain ⟨A, c, rfl, hc, hC⟩ := hv
  exact GV.impl_HitBound.calls 200000000 A c l a b _ _ _ W hC hc (impl_bound_f l a b)
end Go.Proofs.Ytnbnalbomflafaa.RA
/-! ## Rp -/
namespace Go.Proofs.Ytnbnalbomflafaa.RA
open Go.RowKit Go.Proofs.YtnbnalbomflafaaW.PrintWords Go.Proofs.YtnbnalbomflafaaW.PrintLast Go.Proofs.YtnbnalbomflafaaW.PrintMore
open Go.Proofs.Ytnbnalbomflafaa.DT
set_option linter.unusedVariables false
set_option linter.unusedSimpArgs false
def T11_10 : Bool × List (List Nat × List Nat) := (true, [([], []), ([], []), ([1], [1]), ([0, 2, 2], [0, 2]), ([3], [3])])
def B11_10 : List Nat := [0, 0, 2, 7, 15]
theorem tabT11_10 : rtab .any (opsOf Try.f11 10) = T11_10 := by kernel_rfl
theorem bitsB11_10 : waitsOk T11_10.2 B11_10 = true := by kernel_rfl
set_option maxHeartbeats 4000000 in
set_option maxRecDepth 100000 in
theorem law_HitBound.walk (v0 : Value) (l0 : List (List Int)) (a1 : Int) (a2 : Int) (w : World) (hv0 : RowsC w v0 l0)  : Calls Try.prog 11 #[.agg #[v0], .int .i64 a1, .int .i64 a2] w fun e w' => e = .returned (.bool true) ∧ Below w.heap.size w w' := by
  have HS0 := Aside0.mk hv0
  clear hv0
  obtain ⟨z0, hz0⟩ : ∃ z, z = szZ l0 1048576 := ⟨_, rfl⟩
  rcases szZ_is l0 1048576 (by omega) with hq0 | ⟨hp0, hr0, hs0⟩
  · rw [← hz0] at hq0
    have hn0 : z0 < 0 := by omega
    replace hz0 := Aside0.mk hz0
    go_enter Try.func11, Try.ntmps11
    have HZ0 := Aside0.mk hz0.out
    go_upto_region 1 with (fail)
    have HBw : Aside0 (Below w.heap.size w (w.alloc (.cells #[v0] 24))) := ⟨(Below.refl w.heap.size w).alloc (by simp) _⟩
    have hzb : w.heap.size + 1 ≤ (w.alloc (.cells #[v0] 24)).heap.size := by simp
    have cx_0 : (w.alloc (.cells #[v0] 24)).cell? ⟨w.heap.size, 0, none⟩ = some v0 := box_10 w v0 24
    generalize (w.alloc (.cells #[v0] 24)) = Wb at *
    go_wp2_with (first | (go_at_call 19; refine (szG_c _ v0 l0 (HS0.out.below HBw.out) 1048576 (by omega)).mono ?_; rintro e W1 ⟨rfl, hB1⟩; rw [← HZ0.out]; have hz2 := hB1.size; have HB3 : Aside0 (Below w.heap.size w W1) := ⟨HBw.out.trans (hB1.mono (by omega))⟩; have cx4 : W1.cell? ⟨w.heap.size, 0, none⟩ = some v0 := (hB1.cell (p := ⟨w.heap.size, 0, none⟩) (show w.heap.size < Wb.heap.size by omega)).trans cx_0; clear cx_0; clear HBw; clear hB1))
    go_ret
    exact ⟨by first | rfl | trivial, HB3.out⟩
  · rw [← hz0] at hp0 hr0
    have hg0 : ¬ (z0 < 0) := by omega
    have HM : Aside0 (Small l0) := ⟨hs0⟩
    have ht0 : 0 ≤ tot l0 ∧ tot l0 ≤ 1048576 := ⟨tot_pos _, HM.out.2.1⟩
    have hk : ¬ (1 + tot l0 < 0) := by omega
    have HK0 : Aside0 (0 ≤ 1 + tot l0 ∧ 1 + tot l0 ≤ 100000000) := ⟨by omega⟩
    clear ht0
    obtain ⟨R, hR⟩ : ∃ R, R = boundA l0 a1 a2 := ⟨_, rfl⟩
    obtain ⟨ok, hok⟩ : ∃ ok, ok = goodB l0 a1 a2 := ⟨_, rfl⟩
    have spec0 := fun W v hv => spec_HitBound_c l0 a1 a2 W v hv
    have impl0 := fun W v hv => impl_HitBound_c l0 a1 a2 W v hv
    rw [← hR, ← hok] at spec0 impl0
    have SP := Aside0.mk spec0
    have IM := Aside0.mk impl0
    clear hR hok spec0 impl0
    have HZ0 := Aside0.mk hz0
    clear hz0
    clear hs0
    go_enter Try.func11, Try.ntmps11
    go_upto_region 1 with (fail)
    have HBw : Aside0 (Below w.heap.size w (w.alloc (.cells #[v0] 24))) := ⟨(Below.refl w.heap.size w).alloc (by simp) _⟩
    have hzb : w.heap.size + 1 ≤ (w.alloc (.cells #[v0] 24)).heap.size := by simp
    have cx_0 : (w.alloc (.cells #[v0] 24)).cell? ⟨w.heap.size, 0, none⟩ = some v0 := box_10 w v0 24
    generalize (w.alloc (.cells #[v0] 24)) = Wb at *
    go_upto_region 5 with (first | (go_at_call 19; refine (szG_c _ v0 l0 (HS0.out.below HBw.out) 1048576 (by omega)).mono ?_; rintro e W1 ⟨rfl, hB5⟩; rw [← HZ0.out]; have hz6 := hB5.size; have HB7 : Aside0 (Below w.heap.size w W1) := ⟨HBw.out.trans (hB5.mono (by omega))⟩; have cx8 : W1.cell? ⟨w.heap.size, 0, none⟩ = some v0 := (hB5.cell (p := ⟨w.heap.size, 0, none⟩) (show w.heap.size < Wb.heap.size by omega)).trans cx_0; clear cx_0; clear HBw; clear hB5))
    clear HZ0
    go_upto_region 6 with (first | (go_at_call 21; refine (toG_c _ v0 l0 (HS0.out.below HB7.out) HM.out).mono ?_; rintro e W2 ⟨v9, rfl, hB10, hD11⟩; have hz12 := hB10.size; have HB13 : Aside0 (Below w.heap.size w W2) := ⟨HB7.out.trans (hB10.mono (by omega))⟩; have cx14 : W2.cell? ⟨w.heap.size, 0, none⟩ = some v0 := (hB10.cell (p := ⟨w.heap.size, 0, none⟩) (show w.heap.size < W1.heap.size by omega)).trans cx8; clear cx8; clear HB7; have HD15 := Aside0.mk hD11.out.toU; clear hD11) | (go_at_call 44; refine (SP.out _ v9 HD15.out.reads).mono ?_; rintro e W3 ⟨rfl, hB16⟩; have hz17 := hB16.size; have HB18 : Aside0 (Below w.heap.size w W3) := ⟨HB13.out.trans (hB16.mono (by omega))⟩; have HD19 := Aside0.mk (HD15.out.below (by omega) hB16); have cx20 : W3.cell? ⟨w.heap.size, 0, none⟩ = some v0 := (hB16.cell (p := ⟨w.heap.size, 0, none⟩) (show w.heap.size < W2.heap.size by omega)).trans cx14; clear cx14; clear HB13 HD15; clear hB16))
    have hB21 : Below W3.heap.size W3 (W3.alloc (.cells #[.int .i64 R.1, .int .i64 R.2] 27)) := (Below.refl _ _).alloc (Nat.le_refl _) _
    have cx22 : (W3.alloc (.cells #[.int .i64 R.1, .int .i64 R.2] 27)).cell? ⟨W3.heap.size, 0, none⟩ = some (.int .i64 R.1) := (blk_cell (blk_new _ _) 0).trans rfl
    have cx23 : (W3.alloc (.cells #[.int .i64 R.1, .int .i64 R.2] 27)).cell? ⟨W3.heap.size, 1, none⟩ = some (.int .i64 R.2) := (blk_cell (blk_new _ _) 1).trans rfl
    have hz24 : W3.heap.size < (W3.alloc (.cells #[.int .i64 R.1, .int .i64 R.2] 27)).heap.size := by simp
    generalize (W3.alloc (.cells #[.int .i64 R.1, .int .i64 R.2] 27)) = W4 at *
    have hz25 := hB21.size
    have HB26 : Aside0 (Below w.heap.size w W4) := ⟨HB18.out.trans (hB21.mono (by omega))⟩
    have HD27 := Aside0.mk (HD19.out.below (by omega) hB21)
    have cx28 : W4.cell? ⟨w.heap.size, 0, none⟩ = some v0 := (hB21.cell (p := ⟨w.heap.size, 0, none⟩) (show w.heap.size < W3.heap.size by omega)).trans cx20
    clear cx20
    clear HB18 HD19
    clear HD27
    go_upto_region 7 with (first | (go_at_call 21; refine (toG_c _ v0 l0 (HS0.out.below HB26.out) HM.out).mono ?_; rintro e W5 ⟨v29, rfl, hB30, hD31⟩; obtain ⟨A32, c33, hv_, _⟩ := hD31.out.slice; subst hv_; have hz34 := hB30.size; have HB35 : Aside0 (Below w.heap.size w W5) := ⟨HB26.out.trans (hB30.mono (by omega))⟩; have cx36 : W5.cell? ⟨w.heap.size, 0, none⟩ = some v0 := (hB30.cell (p := ⟨w.heap.size, 0, none⟩) (show w.heap.size < W4.heap.size by omega)).trans cx28; have cx37 : W5.cell? ⟨W3.heap.size, 0, none⟩ = some (.int .i64 R.1) := (hB30.cell (p := ⟨W3.heap.size, 0, none⟩) (show W3.heap.size < W4.heap.size by omega)).trans cx22; have cx38 : W5.cell? ⟨W3.heap.size, 1, none⟩ = some (.int .i64 R.2) := (hB30.cell (p := ⟨W3.heap.size, 1, none⟩) (show W3.heap.size < W4.heap.size by omega)).trans cx23; clear cx28 cx22 cx23; clear HB26; have HD39 := Aside0.mk hD31.out.toU; clear hD31))
    have hB40 : Below W5.heap.size W5 (W5.alloc (.cells #[(.slice A32 l0.length c33)] 30)) := (Below.refl _ _).alloc (Nat.le_refl _) _
    have cx41 : (W5.alloc (.cells #[(.slice A32 l0.length c33)] 30)).cell? ⟨W5.heap.size, 0, none⟩ = some (.slice A32 l0.length c33) := (blk_cell (blk_new _ _) 0).trans rfl
    have hz42 : W5.heap.size < (W5.alloc (.cells #[(.slice A32 l0.length c33)] 30)).heap.size := by simp
    generalize (W5.alloc (.cells #[(.slice A32 l0.length c33)] 30)) = W6 at *
    have hz43 := hB40.size
    have HB44 : Aside0 (Below w.heap.size w W6) := ⟨HB35.out.trans (hB40.mono (by omega))⟩
    have HD45 := Aside0.mk (HD39.out.below (by omega) hB40)
    have cx46 : W6.cell? ⟨w.heap.size, 0, none⟩ = some v0 := (hB40.cell (p := ⟨w.heap.size, 0, none⟩) (show w.heap.size < W5.heap.size by omega)).trans cx36
    have cx47 : W6.cell? ⟨W3.heap.size, 0, none⟩ = some (.int .i64 R.1) := (hB40.cell (p := ⟨W3.heap.size, 0, none⟩) (show W3.heap.size < W5.heap.size by omega)).trans cx37
    have cx48 : W6.cell? ⟨W3.heap.size, 1, none⟩ = some (.int .i64 R.2) := (hB40.cell (p := ⟨W3.heap.size, 1, none⟩) (show W3.heap.size < W5.heap.size by omega)).trans cx38
    clear cx36 cx37 cx38
    clear HB35 HD39
    go_upto_region 8 with (first | (go_at_call 45; refine (IM.out _ (.slice A32 l0.length c33) HD45.out.reads).mono ?_; rintro e W7 ⟨rfl, hB49⟩; have hz50 := hB49.size; have HB51 : Aside0 (Below w.heap.size w W7) := ⟨HB44.out.trans (hB49.mono (by omega))⟩; have HD52 := Aside0.mk (HD45.out.below (by omega) hB49); have cx53 : W7.cell? ⟨w.heap.size, 0, none⟩ = some v0 := (hB49.cell (p := ⟨w.heap.size, 0, none⟩) (show w.heap.size < W6.heap.size by omega)).trans cx46; have cx54 : W7.cell? ⟨W3.heap.size, 0, none⟩ = some (.int .i64 R.1) := (hB49.cell (p := ⟨W3.heap.size, 0, none⟩) (show W3.heap.size < W6.heap.size by omega)).trans cx47; have cx55 : W7.cell? ⟨W3.heap.size, 1, none⟩ = some (.int .i64 R.2) := (hB49.cell (p := ⟨W3.heap.size, 1, none⟩) (show W3.heap.size < W6.heap.size by omega)).trans cx48; have cx56 : W7.cell? ⟨W5.heap.size, 0, none⟩ = some (.slice A32 l0.length c33) := (hB49.cell (p := ⟨W5.heap.size, 0, none⟩) (show W5.heap.size < W6.heap.size by omega)).trans cx41; clear cx46 cx47 cx48 cx41; clear HB44 HD45; clear hB49))
    have hB57 : Below W7.heap.size W7 (W7.alloc (.cells #[.int .i64 R.1, .int .i64 R.2] 27)) := (Below.refl _ _).alloc (Nat.le_refl _) _
    have cx58 : (W7.alloc (.cells #[.int .i64 R.1, .int .i64 R.2] 27)).cell? ⟨W7.heap.size, 0, none⟩ = some (.int .i64 R.1) := (blk_cell (blk_new _ _) 0).trans rfl
    have cx59 : (W7.alloc (.cells #[.int .i64 R.1, .int .i64 R.2] 27)).cell? ⟨W7.heap.size, 1, none⟩ = some (.int .i64 R.2) := (blk_cell (blk_new _ _) 1).trans rfl
    have hz60 : W7.heap.size < (W7.alloc (.cells #[.int .i64 R.1, .int .i64 R.2] 27)).heap.size := by simp
    generalize (W7.alloc (.cells #[.int .i64 R.1, .int .i64 R.2] 27)) = W8 at *
    have hz61 := hB57.size
    have HB62 : Aside0 (Below w.heap.size w W8) := ⟨HB51.out.trans (hB57.mono (by omega))⟩
    have HD63 := Aside0.mk (HD52.out.below (by omega) hB57)
    have cx64 : W8.cell? ⟨w.heap.size, 0, none⟩ = some v0 := (hB57.cell (p := ⟨w.heap.size, 0, none⟩) (show w.heap.size < W7.heap.size by omega)).trans cx53
    have cx65 : W8.cell? ⟨W3.heap.size, 0, none⟩ = some (.int .i64 R.1) := (hB57.cell (p := ⟨W3.heap.size, 0, none⟩) (show W3.heap.size < W7.heap.size by omega)).trans cx54
    have cx66 : W8.cell? ⟨W3.heap.size, 1, none⟩ = some (.int .i64 R.2) := (hB57.cell (p := ⟨W3.heap.size, 1, none⟩) (show W3.heap.size < W7.heap.size by omega)).trans cx55
    have cx67 : W8.cell? ⟨W5.heap.size, 0, none⟩ = some (.slice A32 l0.length c33) := (hB57.cell (p := ⟨W5.heap.size, 0, none⟩) (show W5.heap.size < W7.heap.size by omega)).trans cx56
    clear cx53 cx54 cx55 cx56
    clear HB51 HD52
    go_upto_region 10 with (first | (go_at_call 23; refine (eqRat_c _ R.1 R.2).mono ?_; rintro e W9 ⟨rfl, hB68⟩; have hz69 := hB68.size; have HB70 : Aside0 (Below w.heap.size w W9) := ⟨HB62.out.trans (hB68.mono (by omega))⟩; have HD71 := Aside0.mk (HD63.out.below (by omega) hB68); have cx72 : W9.cell? ⟨w.heap.size, 0, none⟩ = some v0 := (hB68.cell (p := ⟨w.heap.size, 0, none⟩) (show w.heap.size < W8.heap.size by omega)).trans cx64; have cx73 : W9.cell? ⟨W3.heap.size, 0, none⟩ = some (.int .i64 R.1) := (hB68.cell (p := ⟨W3.heap.size, 0, none⟩) (show W3.heap.size < W8.heap.size by omega)).trans cx65; have cx74 : W9.cell? ⟨W3.heap.size, 1, none⟩ = some (.int .i64 R.2) := (hB68.cell (p := ⟨W3.heap.size, 1, none⟩) (show W3.heap.size < W8.heap.size by omega)).trans cx66; have cx75 : W9.cell? ⟨W5.heap.size, 0, none⟩ = some (.slice A32 l0.length c33) := (hB68.cell (p := ⟨W5.heap.size, 0, none⟩) (show W5.heap.size < W8.heap.size by omega)).trans cx67; have cx76 : W9.cell? ⟨W7.heap.size, 0, none⟩ = some (.int .i64 R.1) := (hB68.cell (p := ⟨W7.heap.size, 0, none⟩) (show W7.heap.size < W8.heap.size by omega)).trans cx58; have cx77 : W9.cell? ⟨W7.heap.size, 1, none⟩ = some (.int .i64 R.2) := (hB68.cell (p := ⟨W7.heap.size, 1, none⟩) (show W7.heap.size < W8.heap.size by omega)).trans cx59; clear cx64 cx65 cx66 cx67 cx58 cx59; clear HB62 HD63; clear hB68))
    go_upto_region 10 with (fail)
    have HB78 : Aside0 (Below w.heap.size w W9.drew) := ⟨pw_below_drewN HB70.out 1⟩
    have HD79 : Aside0 (RowsU W9.drew W4.heap.size W5.heap.size (.slice A32 l0.length c33) l0) := ⟨HD71.out.drewN 1⟩
    clear HD71
    have cx80 : W9.drew.cell? ⟨w.heap.size, 0, none⟩ = some v0 := cx72
    have cx81 : W9.drew.cell? ⟨W3.heap.size, 0, none⟩ = some (.int .i64 R.1) := cx73
    have cx82 : W9.drew.cell? ⟨W3.heap.size, 1, none⟩ = some (.int .i64 R.2) := cx74
    have cx83 : W9.drew.cell? ⟨W5.heap.size, 0, none⟩ = some (.slice A32 l0.length c33) := cx75
    have cx84 : W9.drew.cell? ⟨W7.heap.size, 0, none⟩ = some (.int .i64 R.1) := cx76
    have cx85 : W9.drew.cell? ⟨W7.heap.size, 1, none⟩ = some (.int .i64 R.2) := cx77
    clear cx72 cx73 cx74 cx75 cx76 cx77
    have hz86 : W9.heap.size ≤ W9.drew.heap.size := by simp
    refine start_ (n := 5) (S := fun w' => w'.cell? ⟨w.heap.size, 0, none⟩ = some v0 ∧ w'.cell? ⟨W3.heap.size, 0, none⟩ = some (.int .i64 R.1) ∧ w'.cell? ⟨W3.heap.size, 1, none⟩ = some (.int .i64 R.2) ∧ w'.cell? ⟨W5.heap.size, 0, none⟩ = some (.slice A32 l0.length c33) ∧ w'.cell? ⟨W7.heap.size, 0, none⟩ = some (.int .i64 R.1) ∧ w'.cell? ⟨W7.heap.size, 1, none⟩ = some (.int .i64 R.2)) (ds := []) #[false, false, false, false, false] (by kernel_rfl) rfl rfl ⟨cx80, cx81, cx82, cx83, cx84, cx85⟩ (fun hHeld => ?_)
    refine with_tabW tabT11_10 bitsB11_10 (fun HT_ HW_ => ?_)
    generalize W9.drew = W10 at *
    refine take_ (i := 0) (N := some 44) (v := ?_) (a' := ?_) #[true, false, false, false, false] rfl rfl (take_ofW HT_.out HW_.out (by kernel_rfl)) (fun _ _ _ h => h) (Or.inl ⟨by rfl, ?_⟩) hHeld ?_ ?_
    rotate_left
    · rintro w' ⟨s0, s1, s2, s3, s4, s5⟩
      go_simp
      with_reducible rfl
    rotate_left
    · simp only [Act.put, List.setIfInBounds_toArray, List.set_cons_zero, List.set_cons_succ, i64_w, i32_w]
      rfl
    refine take_ (i := 1) (N := some 45) (v := ?_) (a' := ?_) #[true, true, false, false, false] rfl rfl (take_ofW HT_.out HW_.out (by kernel_rfl)) (fun _ _ _ h => h) (Or.inl ⟨by rfl, ?_⟩) hHeld ?_ ?_
    rotate_left
    · rintro w' ⟨s0, s1, s2, s3, s4, s5⟩
      go_simp
      with_reducible rfl
    rotate_left
    · simp only [Act.put, List.setIfInBounds_toArray, List.set_cons_zero, List.set_cons_succ, i64_w, i32_w]
      rfl
    refine one_ (i := 2) (N := some 46) #[true, true, true, false, false] rfl rfl (one_of HT_.out (by kernel_rfl)) (by decide) (fun K hK => ?_)
    refine goes_ Try.func21 (by kernel_rfl) rfl #[.agg #[v0]] (by rfl) rfl rfl (by (try simp only [List.map_toArray, List.map_cons, List.map_nil]); first | done | rfl) ?_
    (with_reducible refine (toG_c _ v0 l0 (HS0.out.below HB78.out) HM.out).mono ?_; rintro e W11 ⟨v87, rfl, hB88, hD89⟩; have hz90 := hB88.size; have HB91 : Aside0 (Below w.heap.size w W11) := ⟨HB78.out.trans (hB88.mono (by omega))⟩; have HD92 := Aside0.mk (HD79.out.below (by omega) hB88); have cx93 : W11.cell? ⟨w.heap.size, 0, none⟩ = some v0 := (hB88.cell (p := ⟨w.heap.size, 0, none⟩) (show w.heap.size < W10.heap.size by omega)).trans cx80; have cx94 : W11.cell? ⟨W3.heap.size, 0, none⟩ = some (.int .i64 R.1) := (hB88.cell (p := ⟨W3.heap.size, 0, none⟩) (show W3.heap.size < W10.heap.size by omega)).trans cx81; have cx95 : W11.cell? ⟨W3.heap.size, 1, none⟩ = some (.int .i64 R.2) := (hB88.cell (p := ⟨W3.heap.size, 1, none⟩) (show W3.heap.size < W10.heap.size by omega)).trans cx82; have cx96 : W11.cell? ⟨W5.heap.size, 0, none⟩ = some (.slice A32 l0.length c33) := (hB88.cell (p := ⟨W5.heap.size, 0, none⟩) (show W5.heap.size < W10.heap.size by omega)).trans cx83; have cx97 : W11.cell? ⟨W7.heap.size, 0, none⟩ = some (.int .i64 R.1) := (hB88.cell (p := ⟨W7.heap.size, 0, none⟩) (show W7.heap.size < W10.heap.size by omega)).trans cx84; have cx98 : W11.cell? ⟨W7.heap.size, 1, none⟩ = some (.int .i64 R.2) := (hB88.cell (p := ⟨W7.heap.size, 1, none⟩) (show W7.heap.size < W10.heap.size by omega)).trans cx85; clear cx80 cx81 cx82 cx83 cx84 cx85; clear HB78 HD79; have HD99 := Aside0.mk hD89.out.toU; clear hD89)
    refine ⟨_, rfl, ?_⟩
    refine hK.out _ _ ⟨cx93, cx94, cx95, cx96, cx97, cx98⟩ (fun hHeld => ?_)
    clear hK K
    refine norm_ (a' := ?_) ?_ ?_
    rotate_left
    · show Act.put _ (some 46) _ = _
      simp only [Act.put, List.setIfInBounds_toArray, List.set_cons_zero, List.set_cons_succ, i64_w, i32_w]
      rfl
    refine one_ (i := 3) (N := some 47) #[true, true, true, true, false] rfl rfl (one_of HT_.out (by kernel_rfl)) (by decide) (fun K hK => ?_)
    refine goes_ Try.func24 (by kernel_rfl) rfl #[.agg #[(.slice A32 l0.length c33)], .agg #[v87]] (by rfl) rfl rfl (by (try simp only [List.map_toArray, List.map_cons, List.map_nil]); first | done | rfl) ?_
    (with_reducible refine (eqG_c _ (.slice A32 l0.length c33) v87 l0 HD92.out.reads HD99.out.reads HM.out).mono ?_; rintro e W12 ⟨rfl, hB100⟩; have hz101 := hB100.size; have HB102 : Aside0 (Below w.heap.size w W12) := ⟨HB91.out.trans (hB100.mono (by omega))⟩; have HD103 := Aside0.mk (HD92.out.below (by omega) hB100); have HD104 := Aside0.mk (HD99.out.below (by omega) hB100); have cx105 : W12.cell? ⟨w.heap.size, 0, none⟩ = some v0 := (hB100.cell (p := ⟨w.heap.size, 0, none⟩) (show w.heap.size < W11.heap.size by omega)).trans cx93; have cx106 : W12.cell? ⟨W3.heap.size, 0, none⟩ = some (.int .i64 R.1) := (hB100.cell (p := ⟨W3.heap.size, 0, none⟩) (show W3.heap.size < W11.heap.size by omega)).trans cx94; have cx107 : W12.cell? ⟨W3.heap.size, 1, none⟩ = some (.int .i64 R.2) := (hB100.cell (p := ⟨W3.heap.size, 1, none⟩) (show W3.heap.size < W11.heap.size by omega)).trans cx95; have cx108 : W12.cell? ⟨W5.heap.size, 0, none⟩ = some (.slice A32 l0.length c33) := (hB100.cell (p := ⟨W5.heap.size, 0, none⟩) (show W5.heap.size < W11.heap.size by omega)).trans cx96; have cx109 : W12.cell? ⟨W7.heap.size, 0, none⟩ = some (.int .i64 R.1) := (hB100.cell (p := ⟨W7.heap.size, 0, none⟩) (show W7.heap.size < W11.heap.size by omega)).trans cx97; have cx110 : W12.cell? ⟨W7.heap.size, 1, none⟩ = some (.int .i64 R.2) := (hB100.cell (p := ⟨W7.heap.size, 1, none⟩) (show W7.heap.size < W11.heap.size by omega)).trans cx98; clear cx93 cx94 cx95 cx96 cx97 cx98; clear HB91 HD92 HD99; clear hB100)
    refine ⟨_, rfl, ?_⟩
    refine hK.out _ _ ⟨cx105, cx106, cx107, cx108, cx109, cx110⟩ (fun hHeld => ?_)
    clear hK K
    refine norm_ (a' := ?_) ?_ ?_
    rotate_left
    · show Act.put _ (some 47) _ = _
      simp only [Act.put, List.setIfInBounds_toArray, List.set_cons_zero, List.set_cons_succ, i64_w, i32_w]
      rfl
    refine pure_ (i := 4) (N := some 48) (v := ?_) (a' := ?_) #[true, true, true, true, true] rfl rfl (any_of HT_.out (by kernel_rfl)) (fun _ _ _ h => h) (Or.inl ⟨by rfl, ?_⟩) ?_ ?_
    rotate_left
    · intro w'
      go_simp
      with_reducible rfl
    rotate_left
    · simp only [Act.put, List.setIfInBounds_toArray, List.set_cons_zero, List.set_cons_succ, i64_w, i32_w]
      rfl
    refine done_ (done_of HT_.out (by kernel_rfl)) ?_
    clear HT_ HW_ hHeld
    clear HD104
    go_wp2_with (fail)
    go_ret
    exact ⟨by first | rfl | trivial, HB102.out⟩
end Go.Proofs.Ytnbnalbomflafaa.RA
/-! ## Kr -/
namespace Go.Proofs.Ytnbnalbomflafaa.KR
open Go.RowKit Go.Proofs.YtnbnalbomflafaaW.PrintWords
open Go.ChangeShapes Go.WideShapes Go.Deep
set_option linter.unusedVariables false
structure RowsIn (W : World) (A : Option Addr) (n c : Nat) (l : List (List Int)) : Prop where
  len : n = l.length
  le : l.length ≤ c
  reads : Kd.C (Kd.slice 3 (Kd.int .i64)) W A l.length l
  wf : ∀ r ∈ l, ∀ x ∈ r, (Lit.int .i64 x).wf = true
  small : ∀ r ∈ l, r.length ≤ 9223372036854775807
theorem reads_of {W : World} {a' : Option Addr} {n c : Nat} {zs : List Int} (hl : n ≤ c) (hm : c ≤ maxLen) (hz : zs.length = c) (hn : a' = none → c = 0)
    (hc : ∀ ad, a' = some ad → ∀ j, j < c → W.cell? (ad.add j) = some (.int .i64 (zs.getD j 0))) : Kd.C (Kd.int .i64) W a' (zs.take n).length (zs.take n) := by
  have hln : (zs.take n).length = n := by rw [List.length_take]; omega
  rw [hln]
  refine Kd.C_of_reads (d := 0) ⟨hln, by unfold maxLen at hm; omega, fun h0 => ?_⟩
  cases a' with
  | none => have := hn rfl; omega
  | some ad =>
    refine ⟨ad, rfl, fun j hj => ?_⟩
    rw [hc ad rfl j (by omega)]
    simp [List.getD_eq_getElem?_getD, hj]
theorem array1 {α : Type} {cs : Array α} (h : cs.size = 1) : ∃ c0, cs = #[c0] := by
  obtain ⟨l⟩ := cs
  match l, h with
  | [c0], _ => exact ⟨c0, rfl⟩
section
variable {H : Type} {enc : TypeId × Value → H} {W : World} {base : Nat} {held : Bool}
theorem rows_of {fuel : Nat} {cs : List Value} {x : DataW H × List MemPlace} (h : DataW.trod enc Try.prog W base (fun _ => true) held fuel 22 cs = some x) : ∃ A n c l, cs = [.slice A n c] ∧ RowsIn W A n c l := by
  rcases open_int_rows Try.underlying22 Try.underlying37 Try.underlying3 (by kernel_rfl) (by kernel_rfl) h with ⟨rfl, _⟩ | ⟨a, len, cap, A, L, C, Z, rfl, hb, hl, hm, hx, hr⟩
  · exact ⟨none, 0, 0, [], rfl, rfl, Nat.le_refl _, Kd.C_nil _ _, by simp, by simp⟩
  · refine ⟨some a, len, cap, (List.range len).map fun r => (Z r).take (L r), rfl, by simp, by simpa using hl, ?_, ?_, ?_⟩
    · refine ⟨by simp, by simp; unfold maxLen at hm; omega, fun h0 => ⟨a, rfl, fun j p hj => ?_⟩⟩
      have hjl : j < len := by
        have := (List.getElem?_eq_some_iff.1 hj).1
        simpa using this
      obtain ⟨hc, h1, h2, h3, h4, h5, h6⟩ := hr j (by omega)
      have hp : p = (Z j).take (L j) := by
        rw [List.getElem?_map, List.getElem?_range hjl] at hj
        exact (Option.some.inj hj).symm
      have hpl : p.length = L j := by rw [hp, List.length_take]; omega
      refine ⟨[.slice (A j) p.length (C j)], rfl, ⟨A j, C j, rfl, by omega, ?_⟩, fun i u hu => ?_⟩
      · rw [hp]
        exact reads_of h1 h2 h3 h5 (fun ad e i hi => (h6 ad e).2 i hi)
      · have hi : i = 0 := by
          have := (List.getElem?_eq_some_iff.1 hu).1
          simp at this
          exact this
        subst hi
        simp at hu
        rw [← hu, hpl]
        have e : j * (Kd.slice 3 (Kd.int .i64)).sz + 0 = j := by show j * 1 + 0 = j; omega
        rw [e]
        exact hc
    · intro r hr' x hx'
      obtain ⟨j, hj, rfl⟩ := List.mem_map.1 hr'
      have := List.mem_range.1 hj
      exact (hr j (by omega)).2.2.2.2.1 x (List.mem_of_mem_take hx')
    · intro r hr'
      obtain ⟨j, hj, rfl⟩ := List.mem_map.1 hr'
      have hj := List.mem_range.1 hj
      have h1 := (hr j (by omega)).2.1
      have h2 := (hr j (by omega)).2.2.1
      unfold maxLen at h2
      rw [List.length_take]
      omega
set_option maxRecDepth 100000 in
theorem open_graph {r : Reach} {b0 t : Nat} {f0 : Field} {v : Value} {d : DataW H} {p : List MemPlace} (hs : Try.prog.underlying t = some (.struct #[f0])) (hC : Try.prog.cellsOf t = 1) (hf : f0.type = 22) (ho : f0.offset = 0)
    (hv : Value.okWide Try.prog W r b0 t v) (h : DataW.Trod enc Try.prog W base (fun _ => true) held t v d p) : ∃ A n c l, v = .agg #[.slice A n c] ∧ RowsIn W A n c l := by
  obtain ⟨cs, rfl, hsz⟩ := okWide_struct hs hv
  obtain ⟨c0, rfl⟩ := array1 (hsz.trans hC)
  obtain ⟨fuel, hfu⟩ := h
  obtain ⟨y0, n, hx, _, h0⟩ := trod_struct1 hs hfu
  have hc22 : Try.prog.cellsOf 22 = 1 := by kernel_rfl
  rw [hf, ho, hc22] at h0
  obtain ⟨A, m, c, l, hcs, hR⟩ := rows_of h0
  have e : c0 = .slice A m c := by simpa [Value.cells] using hcs
  subst e
  exact ⟨A, m, c, l, rfl, hR⟩
end
end Go.Proofs.Ytnbnalbomflafaa.KR
