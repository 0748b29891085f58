/-
  Texts of the seat, merged (part 5).
-/
import Derived.Test.YtnbnalbomflafaaProg
import Derived.Below
import Derived.Deep.Draws
import Derived.Deep.AppendLies
import Derived.Maps.AppendAt
import Derived.OwnWalk
import Derived.Laws.BytesArg
import Derived.Laws.MakeOwn
import Derived.Laws.OwnMore
import Derived.Deep.OwnRows
import Derived.Tactics
import Derived.Lib.ConvBytes
import Derived.Laws.Slices
import Derived.WalkKit
import Derived.KernelRfl
import Derived.RowKit3
import Derived.Deep.LoopGhost
import Derived.Deep.QuietTactic
import Derived.BigQuiet
import Derived.WideLaws
import Derived.Deep.DeepCutAuto
import Derived.Deep.CutBlock
import Derived.Deep.RegionHeld3
import Derived.Laws.Rows
import Derived.Lib.AppendStr
import Derived.ArgAppend
import Derived.Laws.IdiomCopy
import Derived.OrdersHeld
import Derived.Laws.BitsLemmas
import Derived.RowKit
import Derived.Test.YtnbnalbomflafaaX12WWords
import Derived.Test.YtnbnalbomflafaaX12WLast
import Derived.Test.YtnbnalbomflafaaX12WTab
import Derived.Test.YtnbnalbomflafaaX12WFour
import Derived.Test.YtnbnalbomflafaaX12WQPut
import Derived.Test.YtnbnalbomflafaaX12WApart
import Derived.Test.YtnbnalbomflafaaX12WArr
import Derived.Test.YtnbnalbomflafaaX12WZeros
import Derived.Test.YtnbnalbomflafaaX12WFoot
import Derived.Test.YtnbnalbomflafaaX12WKept
import Derived.Test.YtnbnalbomflafaaX12WShare
import Derived.Test.YtnbnalbomflafaaX12WN
import Derived.Test.YtnbnalbomflafaaX12WFootNe
import Derived.Test.YtnbnalbomflafaaX12WAt
import Derived.Test.YtnbnalbomflafaaX12WEqStruct
import Derived.Test.YtnbnalbomflafaaX12WRepsOne
import Derived.Test.YtnbnalbomflafaaX12WInv
import Derived.Test.YtnbnalbomflafaaX12WInvWords
import Derived.Test.YtnbnalbomflafaaX12WGuard
import Derived.Test.YtnbnalbomflafaaX12WNEv
import Derived.Test.YtnbnalbomflafaaX12WMore
import Derived.Deep.Matrix
import Derived.Lib.SmallJoins
import Derived.ProofKit
import Derived.OpenShut
import Derived.ChangeSame
import Derived.Test.YtnbnalbomflafaaX124
set_option linter.unusedVariables false
set_option linter.unusedSimpArgs false
namespace Go.Proofs.Ytnbnalbomflafaa.GT
open Go.RowKit YtnbnalbomflafaaW.PrintWords YtnbnalbomflafaaW.PrintLast YtnbnalbomflafaaW.PrintMore
open GA GB GD KA GR GQ DT
attribute [local go_sem] RA.field80_0 RA.field80_1 RA.field80_2 max2_int min2_int max_two min_two max_three min_three max_four min_four
mutual
def spec_hiChances.l0 : Nat → Int → Int → List Int → List (List Int) → List Int → List Int → Int → Int → List (List Int) → Option ((List (S27)))
 | 0, _, _, _, _, _, _, _, _, _ => none
 | k + 1, x1, x2, x7, x8, x9, x27, x28, x29, x208000 => if x29 < x28 then (if 0 ≤ x29 then (if x29 < (x27.length : Int) then (if 0 ≤ (rd x27 x29) then (if (rd x27 x29) < (x208000.length : Int) then (spec_hiChances.l1 k x1 x2 x7 x8 x9 0 x27 x28 x29 (rd_L1 x208000 (rd x27 x29)) ((rd_L1 x208000 (rd x27 x29)).length : Int) 0 x208000) else (none)) else (none)) else (none)) else (none)) else ((spec_hiSolve.f k x8 x9).bind fun bt220 => (if 0 ≤ (x208000.length : Int) then (if ((x208000.length : Int) : Int).toNat ≤ 17592186044416 then ((some (List.replicate ((x208000.length : Int) : Int).toNat z27 : List (S27))).bind fun y224 => (if 0 ≤ x1 then (if x1 < (y224.length : Int) then (if 0 ≤ x2 then (if x2 < (y224.length : Int) then (spec_hiChances.l2 k bt220.1 bt220.2 ((y224.set (x1 : Int).toNat (⟨1, 1⟩ : S27)).set (x2 : Int).toNat (⟨0, 1⟩ : S27)) x7 (x7.length : Int) 0) else (none)) else (none)) else (none)) else (none))) else (none)) else (none)))
def spec_hiChances.l1 : Nat → Int → Int → List Int → List (List Int) → List Int → Int → List Int → Int → Int → List Int → Int → Int → List (List Int) → Option ((List (S27)))
 | 0, _, _, _, _, _, _, _, _, _, _, _, _, _ => none
 | k + 1, x1, x2, x7, x8, x9, x12, x27, x28, x29, x37, x38, x39, x208000 => if x39 < x38 then (if 0 ≤ x39 then (if x39 < (x37.length : Int) then (if (rd x37 x39) = x1 then (spec_hiChances.l1 k x1 x2 x7 x8 x9 (wrap64 (x12 + 1)) x27 x28 x29 x37 x38 (wrap64 (x39 + 1)) x208000) else (spec_hiChances.l1 k x1 x2 x7 x8 x9 x12 x27 x28 x29 x37 x38 (wrap64 (x39 + 1)) x208000)) else (none)) else (none)) else (if x9.length < 17592186044416 then (spec_hiChances.l0 k x1 x2 x7 x8 (x9 ++ [x12]) x27 x28 (wrap64 (x29 + 1)) x208000) else (none))
def spec_hiChances.l2 : Nat → List Int → Int → List (S27) → List Int → Int → Int → Option ((List (S27)))
 | 0, _, _, _, _, _, _ => none
 | k + 1, x15, x16, x17, x72, x73, x74 => if x74 < x73 then (if 0 ≤ x74 then (if x74 < (x72.length : Int) then (if x74 < (x15.length : Int) then ((spec_hiRatio.f k (rd x15 x74) x16).bind fun bt231 => (if 0 ≤ (rd x72 x74) then (if (rd x72 x74) < (x17.length : Int) then (spec_hiChances.l2 k x15 x16 (x17.set ((rd x72 x74) : Int).toNat (⟨bt231.1, bt231.2⟩ : S27)) x72 x73 (wrap64 (x74 + 1))) else (none)) else (none))) else (none)) else (none)) else (none)) else (some x17)
end
def spec_hiChances.f (k : Nat) (l0_0 : List (List Int)) (a1 : Int) (a2 : Int) : Option ((List (S27))) := (spec_hiMatrix.f l0_0 a1 a2).bind fun bt208 => (spec_hiChances.l0 k a1 a2 bt208.1 bt208.2 ([] : List Int) bt208.1 (bt208.1.length : Int) 0 l0_0)
set_option maxHeartbeats 8000000 in
set_option maxRecDepth 100000 in
theorem spec_hiChances.calls (k : Nat) (A0_0 : Option Addr) (c0_0 : Nat) (l0_0 : List (List Int)) (a1 : Int) (a2 : Int) (r : List (S27)) (w : World) (hr0_0 : Kd.C (Kd.slice 3 (Kd.int .i64)) w A0_0 l0_0.length l0_0) (hc0_0 : l0_0.length ≤ c0_0) (h : spec_hiChances.f k l0_0 a1 a2 = some r) :
  Calls Try.prog 92 #[.agg #[.slice A0_0 l0_0.length c0_0], .int .i64 a1, .int .i64 a2] w fun e w' => ∃ v0_ : Value, e = .returned (v0_) ∧ Kd.R k27 27 w' w.heap.size (fun _ => True) v0_ r ∧ Below w.heap.size w w' := by
 have hu30 := Try.underlying30
 have hu27 := Try.underlying27
 have HR0_0 := Aside0.mk hr0_0
 have HC0_0 := Aside0.mk hc0_0
 clear hr0_0 hc0_0
 have HB := Aside0.mk (Below.refl w.heap.size w)
 have H : ((spec_hiMatrix.f l0_0 a1 a2).bind fun bt208 => (spec_hiChances.l0 k a1 a2 bt208.1 bt208.2 ([] : List Int) bt208.1 (bt208.1.length : Int) 0 l0_0)) = some r := h
 clear h
 replace H := Option.bind_eq_some_iff.mp H
 obtain ⟨⟨t208, t211⟩, A40, H⟩ := H
 replace H : (spec_hiChances.l0 k a1 a2 t208 t211 ([] : List Int) t208 (t208.length : Int) 0 l0_0) = some r := H
 have A4 := Aside0.mk A40
 clear A40
 have H' := Aside0.mk H
 clear H
 go_enter Try.func92, Try.ntmps92
 go_wp2_with (first | ((with_reducible refine gate_dst (N := 3) rfl ?_); refine box_event ?hg (N := 3) ?hd (cs := #[.slice A0_0 l0_0.length c0_0]) (t := 30) ?hr ?_; (case hd => rfl); (case hg => rfl); (case hr => first | (go_simp; done) | (go_simp; rfl)); intro gb207 hg w5 hbox hb; have n0_ := Aside0.mk (bP_ (by repeat (first | (with_reducible first | exact HB.out | apply bA_ | apply bN_ | apply bD_) | exact HB.out)) hb); have n1_ := Aside0.mk (hbox); have n2_ := Aside0.mk ((by rw [hg]; exact (bZ_ (by repeat (first | (with_reducible first | exact HB.out | apply bA_ | apply bN_ | apply bD_) | exact HB.out))) : w.heap.size ≤ gb207)); have n3_ := Aside0.mk ((by rw [hg]; exact (bZ_ (by repeat (first | (with_reducible first | exact HB.out | apply bA_ | apply bN_ | apply bD_) | exact HB.out))) : w.heap.size ≤ gb207)); clear HB; have HB := n0_; have BK207 := n1_; have GW207 := n2_; have GE207 := n3_; clear n0_ n1_ n2_ n3_; clear hb hbox hg; have hcz6_0 : w5.cell? ⟨gb207, 0, none⟩ = some (.slice A0_0 l0_0.length c0_0) := (blk_cell BK207.out 0).trans rfl; have hfz6_0 := kF_ BK207.out 0) | ((with_reducible refine gate_callee (f := 88) rfl ?_); refine goesL_ (some 24) rfl rfl Try.func88 (by kernel_rfl) rfl #[.agg #[.slice A0_0 l0_0.length c0_0], .int .i64 a1, .int .i64 a2] rfl (by (try simp only [List.map_toArray, List.map_cons, List.map_nil]); first | done | rfl | (simp only [List.length_drop, List.length_take]; rfl)) ?_; (with_reducible refine (spec_hiMatrix.calls _ _ l0_0 a1 a2 t208 t211 _ ?side1 ?side2 A4.out).mono ?_); (case side1 => repeat (first | exact (Kd.C_below HR0_0.out HB.out) | (with_reducible refine Kd.C_alloc ?_ _) | (with_reducible refine Kd.C_drewN ?_ _) | (with_reducible refine Kd.C_drew ?_))); (case side2 => exact HC0_0.out); rintro e w7 ⟨v209, v212, rfl, ho0, ho1, hb⟩; refine ⟨_, rfl, ?_⟩; have n0_ := Aside0.mk (Kd.R_lower ho0 (bZ_ (by repeat (first | (with_reducible first | exact HB.out | apply bA_ | apply bN_ | apply bD_ | refine bS_ ?_ GE207.out) | exact HB.out)))); have n1_ := Aside0.mk (Kd.S_lower ho1 (bZ_ (by repeat (first | (with_reducible first | exact HB.out | apply bA_ | apply bN_ | apply bD_ | refine bS_ ?_ GE207.out) | exact HB.out)))); have n2_ := Aside0.mk (blk_below (g := gb207) (o := .cells #[.slice A0_0 l0_0.length c0_0] 30 (0, 0)) (by (with_reducible repeat (first | refine kN_ ?_ _ | refine kD_ ?_ | refine kA_ ?_ _)); exact BK207.out) hb); have n3_ := Aside0.mk (bP_ (by repeat (first | (with_reducible first | exact HB.out | apply bA_ | apply bN_ | apply bD_ | refine bS_ ?_ GE207.out) | exact HB.out)) hb); clear BK207; clear HB; have HO210 := n0_; have HO213 := n1_; have BK207 := n2_; have HB := n3_; clear n0_ n1_ n2_ n3_; (try clear hb); (try clear hb2); (try clear hk); (try clear hi); (try clear ho0); (try clear ho1); obtain ⟨Ao8, co8, eo8⟩ := Kd.R_slice HO210.out; subst eo8))
 go_loopg [9, 29] k (fun kq v9 v29 w' => ∃ (x9_1 : List Int) (x29_1 : Int), v29 = .int .i64 x29_1 ∧ Aside0 (spec_hiChances.l0 kq a1 a2 t208 t211 x9_1 t208 (t208.length : Int) x29_1 l0_0 = some r) ∧ Aside0 (kq ≤ k) ∧ Aside0 (Kd.R (Kd.int .i64) 3 w' w.heap.size (fun k_ => some k_ ≠ (v9 : Value).ownBlock) (.slice Ao8 t208.length co8) t208) ∧ Aside0 (Kd.S (Kd.slice 3 (Kd.int .i64)) 37 w' w.heap.size (fun k_ => some k_ ≠ ((.slice Ao8 t208.length co8) : Value).ownBlock ∧ some k_ ≠ (v9 : Value).ownBlock ∧ some k_ ≠ ((.slice Ao8 t208.length co8) : Value).ownBlock) v212 t211) ∧ Aside0 (Kd.R (Kd.int .i64) 3 w' w.heap.size (fun k_ => some k_ ≠ ((.slice Ao8 t208.length co8) : Value).ownBlock ∧ some k_ ≠ ((.slice Ao8 t208.length co8) : Value).ownBlock) v9 x9_1) ∧ Aside0 (Kd.R (Kd.int .i64) 3 w' w.heap.size (fun k_ => some k_ ≠ (v9 : Value).ownBlock) (.slice Ao8 t208.length co8) t208) ∧ Aside0 (w'.heap[gb207]? = some (.cells #[(.slice A0_0 l0_0.length c0_0)] 30 (0, 0))) ∧ Aside0 (Below w.heap.size w w'))
 case atStart => exact ⟨(([] : List Int)), (0), (by first | rfl | (simp; done) | (simp [*]; done)), H', ⟨Nat.le_refl _⟩, ⟨by (with_reducible repeat (first | apply Kd.R_alloc | apply Kd.R_drewN | apply Kd.R_drew)); exact Kd.R_mono HO210.out (fun _ hk => (by simp [Value.ownBlock]))⟩, ⟨by (with_reducible repeat (first | apply Kd.S_alloc | apply Kd.S_drewN | apply Kd.S_drew)); exact Kd.S_mono HO213.out (fun _ hk => ⟨hk, ⟨(by simp [Value.ownBlock]), hk⟩⟩)⟩, ⟨by first | exact Kd.R_nil _ _ _ _ _ | exact Kd.N_nil _ _ _ _ _ | exact Kd.V_nil _ _ _ _ _ | exact Kd.Q_nil _ _ _ _ _ | exact Kd.S_nil _ _ _ _ _⟩, ⟨by (with_reducible repeat (first | apply Kd.R_alloc | apply Kd.R_drewN | apply Kd.R_drew)); exact Kd.R_mono HO210.out (fun _ hk => (by simp [Value.ownBlock]))⟩, ⟨by (with_reducible repeat (first | refine kN_ ?_ _ | refine kD_ ?_ | refine kA_ ?_ _)); exact BK207.out⟩, ⟨by repeat (first | (with_reducible first | exact HB.out | apply bA_ | apply bN_ | apply bD_ | refine bS_ ?_ GE207.out) | exact HB.out)⟩⟩
 case round =>
  clear H'
  try clear p2
  try clear c8
  try clear hcz6_0
  try clear hfz6_0
  obtain ⟨x9_1, x29_1, rfl, HA, HK1, HO_7, HO_8, HO_9, HO_27, BK207, HB⟩ := hrel
  cases gk with
  | zero => exact absurd HA.out (by simp [spec_hiChances.l0])
  | succ k1 =>
   have H := HA.out
   clear HA
   simp only [spec_hiChances.l0] at H
   by_cases c9 : x29_1 < (t208.length : Int)
   ·rw [if_pos c9] at H
    have c9b0 : decide (x29_1 < (t208.length : Int)) = true := decide_eq_true c9
    clear c9
    by_cases c10 : 0 ≤ x29_1
    ·rw [if_pos c10] at H
     have c10b0 : decide (0 ≤ x29_1) = true := decide_eq_true c10
     clear c10
     by_cases c11 : x29_1 < (t208.length : Int)
     ·rw [if_pos c11] at H
      have c11b0 : decide (x29_1 < (t208.length : Int)) = true := decide_eq_true c11
      clear c11
      by_cases c12 : 0 ≤ (rd t208 x29_1)
      ·rw [if_pos c12] at H
       have c12b0 : decide (0 ≤ (rd t208 x29_1)) = true := decide_eq_true c12
       clear c12
       by_cases c13 : (rd t208 x29_1) < (l0_0.length : Int)
       ·rw [if_pos c13] at H
        have c13b0 : decide ((rd t208 x29_1) < (l0_0.length : Int)) = true := decide_eq_true c13
        clear c13
        have H' := Aside0.mk H
        clear H
        have p214 : 0 ≤ (x29_1 : Int) := of_decide_eq_true (by first | (with_reducible assumption) | assumption)
        have q214 : x29_1 < (t208.length : Int) := of_decide_eq_true (by first | (with_reducible assumption) | assumption)
        obtain ⟨ad214, e214, hx214_0⟩ := Kd.at_int (Kd.R_reads' HO_27.out).2.2 x29_1 p214 q214
        cases e214
        replace p214 := eq_true p214
        replace q214 := eq_true q214
        have hcz14_0 : wr.cell? ⟨gb207, 0, none⟩ = some (.slice A0_0 l0_0.length c0_0) := (blk_cell BK207.out 0).trans rfl
        have hfz14_0 := kF_ BK207.out 0
        have p215 : 0 ≤ ((rd t208 x29_1) : Int) := of_decide_eq_true (by first | (with_reducible assumption) | assumption)
        have q215 : (rd t208 x29_1) < (l0_0.length : Int) := of_decide_eq_true (by first | (with_reducible assumption) | assumption)
        obtain ⟨ad215, A215_0, c215_0, e215, hx215_0, hl215_0, hi215_0⟩ := at_L1 HR0_0.out (rd t208 x29_1) p215 q215
        cases e215
        replace hx215_0 := (HB.out.cell (World.block_lt_of_cell? w _ hx215_0)).trans hx215_0
        have HR215_0 := Aside0.mk hi215_0
        have HC215_0 := Aside0.mk hl215_0
        clear hi215_0 hl215_0
        replace p215 := eq_true p215
        replace q215 := eq_true q215
        go_wp2
        go_loopg [12, 39] k1 (fun kq v12 v39 w' => ∃ (x12_2 : Int) (x39_2 : Int), v12 = .int .i64 x12_2 ∧ v39 = .int .i64 x39_2 ∧ Aside0 (spec_hiChances.l1 kq a1 a2 t208 t211 x9_1 x12_2 t208 (t208.length : Int) x29_1 (rd_L1 l0_0 (rd t208 x29_1)) ((rd_L1 l0_0 (rd t208 x29_1)).length : Int) x39_2 l0_0 = some r) ∧ Aside0 (kq ≤ k1) ∧ Aside0 (Kd.R (Kd.int .i64) 3 w' w.heap.size (fun k_ => some k_ ≠ (u9 : Value).ownBlock) (.slice (some ad214) t208.length co8) t208) ∧ Aside0 (Kd.S (Kd.slice 3 (Kd.int .i64)) 37 w' w.heap.size (fun k_ => some k_ ≠ ((.slice (some ad214) t208.length co8) : Value).ownBlock ∧ some k_ ≠ (u9 : Value).ownBlock ∧ some k_ ≠ ((.slice (some ad214) t208.length co8) : Value).ownBlock) v212 t211) ∧ Aside0 (Kd.R (Kd.int .i64) 3 w' w.heap.size (fun k_ => some k_ ≠ ((.slice (some ad214) t208.length co8) : Value).ownBlock ∧ some k_ ≠ ((.slice (some ad214) t208.length co8) : Value).ownBlock) u9 x9_1) ∧ Aside0 (Kd.R (Kd.int .i64) 3 w' w.heap.size (fun k_ => some k_ ≠ (u9 : Value).ownBlock) (.slice (some ad214) t208.length co8) t208) ∧ Aside0 (w'.heap[gb207]? = some (.cells #[(.slice (some ad215) l0_0.length c0_0)] 30 (0, 0))) ∧ Aside0 (Below w.heap.size w w'))
        case atStart => exact ⟨(0), (0), (by first | rfl | (simp; done) | (simp [*]; done)), (by first | rfl | (simp; done) | (simp [*]; done)), H', ⟨Nat.le_refl _⟩, ⟨by (with_reducible repeat (first | apply Kd.R_alloc | apply Kd.R_drewN | apply Kd.R_drew)); exact HO_7.out⟩, ⟨by (with_reducible repeat (first | apply Kd.S_alloc | apply Kd.S_drewN | apply Kd.S_drew)); exact HO_8.out⟩, ⟨by (with_reducible repeat (first | apply Kd.R_alloc | apply Kd.R_drewN | apply Kd.R_drew)); exact HO_9.out⟩, ⟨by (with_reducible repeat (first | apply Kd.R_alloc | apply Kd.R_drewN | apply Kd.R_drew)); exact HO_27.out⟩, ⟨by (with_reducible repeat (first | refine kN_ ?_ _ | refine kD_ ?_ | refine kA_ ?_ _)); exact BK207.out⟩, ⟨by repeat (first | (with_reducible first | exact HB.out | apply bA_ | apply bN_ | apply bD_ | refine bS_ ?_ GE207.out) | exact HB.out)⟩⟩
        case round =>
         clear H'
         try clear c1
         try clear c2
         try clear p2
         try clear q2
         try clear hx2
         try clear c8
         try clear c9
         try clear c9b0
         try clear c10
         try clear c10b0
         try clear c11
         try clear c11b0
         try clear c12
         try clear c12b0
         try clear c13
         try clear c13b0
         try clear hcz14_0
         try clear hcz6_0
         try clear hfz14_0
         try clear hfz6_0
         try clear hx214_0
         try clear hx215_0
         try clear p2
         try clear p214
         try clear p215
         try clear q214
         try clear q215
         obtain ⟨x12_2, x39_2, rfl, rfl, HA, HK2, HO_7, HO_8, HO_9, HO_27, BK207, HB⟩ := hrel
         cases gk with
         | zero => exact absurd HA.out (by simp [spec_hiChances.l1])
         | succ k2 =>
          have H := HA.out
          clear HA
          simp only [spec_hiChances.l1] at H
          by_cases c15 : x39_2 < ((rd_L1 l0_0 (rd t208 x29_1)).length : Int)
          ·rw [if_pos c15] at H
           have c15b0 : decide (x39_2 < ((rd_L1 l0_0 (rd t208 x29_1)).length : Int)) = true := decide_eq_true c15
           clear c15
           by_cases c16 : 0 ≤ x39_2
           ·rw [if_pos c16] at H
            have c16b0 : decide (0 ≤ x39_2) = true := decide_eq_true c16
            clear c16
            by_cases c17 : x39_2 < ((rd_L1 l0_0 (rd t208 x29_1)).length : Int)
            ·rw [if_pos c17] at H
             have c17b0 : decide (x39_2 < ((rd_L1 l0_0 (rd t208 x29_1)).length : Int)) = true := decide_eq_true c17
             clear c17
             by_cases c18 : (rd (rd_L1 l0_0 (rd t208 x29_1)) x39_2) = a1
             ·rw [if_pos c18] at H
              have c18b0 : ((rd (rd_L1 l0_0 (rd t208 x29_1)) x39_2) == a1) = true := beq_iff_eq.mpr c18
              have c18b1 : ((rd (rd_L1 l0_0 (rd t208 x29_1)) x39_2) != a1) = false := bne_eq_false_iff_eq.mpr c18
              clear c18
              have H' := Aside0.mk H
              clear H
              have p216 : 0 ≤ (x39_2 : Int) := of_decide_eq_true (by first | (with_reducible assumption) | assumption)
              have q216 : x39_2 < ((rd_L1 l0_0 (rd t208 x29_1)).length : Int) := of_decide_eq_true (by first | (with_reducible assumption) | assumption)
              obtain ⟨ad216, e216, hx216_0⟩ := Kd.at_int HR215_0.out x39_2 p216 q216
              cases e216
              replace hx216_0 := (HB.out.cell (World.block_lt_of_cell? w _ hx216_0)).trans hx216_0
              replace p216 := eq_true p216
              replace q216 := eq_true q216
              go_wp2
              go_roundg k2
              case measure => have := HK1.out; have := HK2.out; omega
              case rel => exact ⟨(wrap64 (x12_2 + 1)), (wrap64 (x39_2 + 1)), (by first | rfl | (simp; done) | (simp [*]; done)), (by first | rfl | (simp; done) | (simp [*]; done)), H', ⟨by have := HK1.out; have := HK2.out; omega⟩, ⟨by (with_reducible repeat (first | apply Kd.R_alloc | apply Kd.R_drewN | apply Kd.R_drew)); exact HO_7.out⟩, ⟨by (with_reducible repeat (first | apply Kd.S_alloc | apply Kd.S_drewN | apply Kd.S_drew)); exact HO_8.out⟩, ⟨by (with_reducible repeat (first | apply Kd.R_alloc | apply Kd.R_drewN | apply Kd.R_drew)); exact HO_9.out⟩, ⟨by (with_reducible repeat (first | apply Kd.R_alloc | apply Kd.R_drewN | apply Kd.R_drew)); exact HO_27.out⟩, ⟨by (with_reducible repeat (first | refine kN_ ?_ _ | refine kD_ ?_ | refine kA_ ?_ _)); exact BK207.out⟩, ⟨by repeat (first | (with_reducible first | exact HB.out | apply bA_ | apply bN_ | apply bD_ | refine bS_ ?_ GE207.out) | exact HB.out)⟩⟩
             ·rw [if_neg c18] at H
              have c18b0 : ((rd (rd_L1 l0_0 (rd t208 x29_1)) x39_2) == a1) = false := beq_eq_false_iff_ne.mpr c18
              have c18b1 : ((rd (rd_L1 l0_0 (rd t208 x29_1)) x39_2) != a1) = true := bne_iff_ne.mpr c18
              have H' := Aside0.mk H
              clear H
              have p216 : 0 ≤ (x39_2 : Int) := of_decide_eq_true (by first | (with_reducible assumption) | assumption)
              have q216 : x39_2 < ((rd_L1 l0_0 (rd t208 x29_1)).length : Int) := of_decide_eq_true (by first | (with_reducible assumption) | assumption)
              obtain ⟨ad216, e216, hx216_0⟩ := Kd.at_int HR215_0.out x39_2 p216 q216
              cases e216
              replace hx216_0 := (HB.out.cell (World.block_lt_of_cell? w _ hx216_0)).trans hx216_0
              replace p216 := eq_true p216
              replace q216 := eq_true q216
              go_wp2
              go_roundg k2
              case measure => have := HK1.out; have := HK2.out; omega
              case rel => exact ⟨(x12_2), (wrap64 (x39_2 + 1)), (by first | rfl | (simp; done) | (simp [*]; done)), (by first | rfl | (simp; done) | (simp [*]; done)), H', ⟨by have := HK1.out; have := HK2.out; omega⟩, ⟨by (with_reducible repeat (first | apply Kd.R_alloc | apply Kd.R_drewN | apply Kd.R_drew)); exact HO_7.out⟩, ⟨by (with_reducible repeat (first | apply Kd.S_alloc | apply Kd.S_drewN | apply Kd.S_drew)); exact HO_8.out⟩, ⟨by (with_reducible repeat (first | apply Kd.R_alloc | apply Kd.R_drewN | apply Kd.R_drew)); exact HO_9.out⟩, ⟨by (with_reducible repeat (first | apply Kd.R_alloc | apply Kd.R_drewN | apply Kd.R_drew)); exact HO_27.out⟩, ⟨by (with_reducible repeat (first | refine kN_ ?_ _ | refine kD_ ?_ | refine kA_ ?_ _)); exact BK207.out⟩, ⟨by repeat (first | (with_reducible first | exact HB.out | apply bA_ | apply bN_ | apply bD_ | refine bS_ ?_ GE207.out) | exact HB.out)⟩⟩
            ·rw [if_neg c17] at H
             exact absurd H (by simp)
           ·rw [if_neg c16] at H
            exact absurd H (by simp)
          ·rw [if_neg c15] at H
           have c15b0 : decide (x39_2 < ((rd_L1 l0_0 (rd t208 x29_1)).length : Int)) = false := decide_eq_false c15
           clear c15
           by_cases c19 : x9_1.length < 17592186044416
           ·rw [if_pos c19] at H
            have LMc19 := Aside0.mk c19
            clear c19
            obtain ⟨y217, hy217⟩ : ∃ y_ : List Int, y_ = (x9_1 ++ [x12_2]) := ⟨_, rfl⟩
            replace H : (spec_hiChances.l0 k2 a1 a2 t208 t211 y217 t208 (t208.length : Int) (wrap64 (x29_1 + 1)) l0_0) = some r := by first | (rw [hy217]; with_reducible exact H) | (have H2_ := (Option.bind_some _ _).symm.trans H; rw [hy217]; with_reducible exact H2_) | (have H2_ := (Option.bind_some _ _).symm.trans H; with_reducible exact H2_) | with_reducible exact H | (rw [hy217]; exact H) | exact H
            have Ny217 := Aside0.mk hy217
            clear hy217
            have H' := Aside0.mk H
            clear H
            go_wp2_with (first | ((with_reducible refine gate_builtin (b := .append) (xs := #[.tmp 49, .tmp 51]) rfl ?_); at_builtin; refine Kd.R_append (Kd.int .i64) (w0 := w) w.heap.size rfl (.tmp 49) (.tmp 51) 37 3 (.int .i64 0) 8 rfl Try.underlying37 info3 rfl (by decide) (by omega) u9 x9_1 x12_2 [.int .i64 x12_2] (fun k_ => some k_ ≠ (.slice (some ad214) t208.length co8 : Value).ownBlock ∧ some k_ ≠ (.slice (some ad214) t208.length co8 : Value).ownBlock) (fun _ => False) rfl rfl ?aP (fun _ hk => hk.elim) ?aF ?aO ?aB ?aS ?aL ?_; (case aP => exact rfl); (case aB => exact (by repeat (first | (with_reducible first | exact HB.out | apply bA_ | apply bN_ | apply bD_ | refine bS_ ?_ GE207.out) | exact HB.out))); (case aF => exact (fun k_ hk => ⟨Kd.fresh' (Kd.R_lt (by (with_reducible repeat (first | apply Kd.R_alloc | apply Kd.R_drewN | apply Kd.R_drew)); exact HO_7.out)) k_ hk, Kd.fresh' (Kd.R_lt (by (with_reducible repeat (first | apply Kd.R_alloc | apply Kd.R_drewN | apply Kd.R_drew)); exact HO_27.out)) k_ hk⟩)); (case aO => exact (by (with_reducible repeat (first | apply Kd.R_alloc | apply Kd.R_drewN | apply Kd.R_drew)); exact HO_9.out)); (case aS => exact (bZ_ (by repeat (first | (with_reducible first | exact HB.out | apply bA_ | apply bN_ | apply bD_ | refine bS_ ?_ GE207.out) | exact HB.out)))); (case aL => have := LMc19.out; omega); intro v218 w20 ho hb hg hat; rw [← Ny217.out] at ho; have n0_ := Aside0.mk (Kd.R_after (ok := (fun _ => True)) (by (with_reducible repeat (first | apply Kd.R_alloc | apply Kd.R_drewN | apply Kd.R_drew)); exact Kd.R_mono HO_7.out (fun _ hk => ⟨trivial, hk⟩)) hg hat); have n1_ := Aside0.mk (Kd.S_after (ok := (fun k_ => some k_ ≠ (.slice (some ad214) t208.length co8 : Value).ownBlock ∧ some k_ ≠ (.slice (some ad214) t208.length co8 : Value).ownBlock)) (by (with_reducible repeat (first | apply Kd.S_alloc | apply Kd.S_drewN | apply Kd.S_drew)); exact Kd.S_mono HO_8.out (fun _ hk => ⟨⟨hk.1, hk.2.2⟩, hk.2.1⟩)) hg hat); have n2_ := Aside0.mk (Kd.R_after (ok := (fun _ => True)) (by (with_reducible repeat (first | apply Kd.R_alloc | apply Kd.R_drewN | apply Kd.R_drew)); exact Kd.R_mono HO_27.out (fun _ hk => ⟨trivial, hk⟩)) hg hat); have n3_ := Aside0.mk (blk_grown (g := gb207) (o := .cells #[.slice (some ad215) l0_0.length c0_0] 30 (0, 0)) (by (with_reducible repeat (first | refine kN_ ?_ _ | refine kD_ ?_ | refine kA_ ?_ _)); exact BK207.out) hg (Kd.R_ne HO_9.out BK207.out (by decide))); have n4_ := Aside0.mk (hb); have n5_ := Aside0.mk (ho); clear HO_7; clear HO_8; clear HO_27; clear BK207; clear HB; clear HO_9; have HO_7 := n0_; have HO_8 := n1_; have HO_27 := n2_; have BK207 := n3_; have HB := n4_; have HO219 := n5_; clear n0_ n1_ n2_ n3_ n4_ n5_; clear ho hb hg hat))
            go_roundg k2
            case measure => have := HK1.out; have := HK2.out; omega
            case rel => exact ⟨(y217), (wrap64 (x29_1 + 1)), (by first | rfl | (simp; done) | (simp [*]; done)), H', ⟨by have := HK1.out; have := HK2.out; omega⟩, ⟨by (with_reducible repeat (first | apply Kd.R_alloc | apply Kd.R_drewN | apply Kd.R_drew)); exact Kd.R_mono HO_7.out (fun _ hk => hk.2)⟩, ⟨by (with_reducible repeat (first | apply Kd.S_alloc | apply Kd.S_drewN | apply Kd.S_drew)); exact Kd.S_mono HO_8.out (fun _ hk => ⟨hk.1.1, ⟨hk.2, hk.1.2⟩⟩)⟩, ⟨by (with_reducible repeat (first | apply Kd.R_alloc | apply Kd.R_drewN | apply Kd.R_drew)); exact HO219.out⟩, ⟨by (with_reducible repeat (first | apply Kd.R_alloc | apply Kd.R_drewN | apply Kd.R_drew)); exact Kd.R_mono HO_27.out (fun _ hk => hk.2)⟩, ⟨by (with_reducible repeat (first | refine kN_ ?_ _ | refine kD_ ?_ | refine kA_ ?_ _)); exact BK207.out⟩, ⟨by repeat (first | (with_reducible first | exact HB.out | apply bA_ | apply bN_ | apply bD_ | refine bS_ ?_ GE207.out) | exact HB.out)⟩⟩
           ·rw [if_neg c19] at H
            exact absurd H (by simp)
       ·rw [if_neg c13] at H
        exact absurd H (by simp)
      ·rw [if_neg c12] at H
       exact absurd H (by simp)
     ·rw [if_neg c11] at H
      exact absurd H (by simp)
    ·rw [if_neg c10] at H
     exact absurd H (by simp)
   ·rw [if_neg c9] at H
    have c9b0 : decide (x29_1 < (t208.length : Int)) = false := decide_eq_false c9
    clear c9
    replace H := Option.bind_eq_some_iff.mp H
    obtain ⟨⟨t220, t221⟩, A210, H⟩ := H
    replace H : (if 0 ≤ (l0_0.length : Int) then (if ((l0_0.length : Int) : Int).toNat ≤ 17592186044416 then ((some (List.replicate ((l0_0.length : Int) : Int).toNat z27 : List (S27))).bind fun y224 => (if 0 ≤ a1 then (if a1 < (y224.length : Int) then (if 0 ≤ a2 then (if a2 < (y224.length : Int) then (spec_hiChances.l2 k1 t220 t221 ((y224.set (a1 : Int).toNat (⟨1, 1⟩ : S27)).set (a2 : Int).toNat (⟨0, 1⟩ : S27)) t208 (t208.length : Int) 0) else (none)) else (none)) else (none)) else (none))) else (none)) else (none)) = some r := H
    have A21 := Aside0.mk A210
    clear A210
    by_cases c22 : 0 ≤ (l0_0.length : Int)
    ·rw [if_pos c22] at H
     have c22b0 := eq_true c22
     have c22b1 : decide (0 ≤ (l0_0.length : Int)) = true := decide_eq_true c22
     clear c22
     by_cases c23 : ((l0_0.length : Int) : Int).toNat ≤ 17592186044416
     ·rw [if_pos c23] at H
      have c23b0 := eq_true c23
      have c23b1 : decide (((l0_0.length : Int) : Int).toNat ≤ 17592186044416) = true := decide_eq_true c23
      clear c23
      obtain ⟨y224, hy224⟩ : ∃ y_ : List (S27), y_ = (List.replicate ((l0_0.length : Int) : Int).toNat z27) := ⟨_, rfl⟩
      replace H : (if 0 ≤ a1 then (if a1 < (y224.length : Int) then (if 0 ≤ a2 then (if a2 < (y224.length : Int) then (spec_hiChances.l2 k1 t220 t221 ((y224.set (a1 : Int).toNat (⟨1, 1⟩ : S27)).set (a2 : Int).toNat (⟨0, 1⟩ : S27)) t208 (t208.length : Int) 0) else (none)) else (none)) else (none)) else (none)) = some r := by first | (rw [hy224]; with_reducible exact H) | (have H2_ := (Option.bind_some _ _).symm.trans H; rw [hy224]; with_reducible exact H2_) | (have H2_ := (Option.bind_some _ _).symm.trans H; with_reducible exact H2_) | with_reducible exact H | (rw [hy224]; exact H) | exact H
      have Ny224 := Aside0.mk hy224
      clear hy224
      by_cases c24 : 0 ≤ a1
      ·rw [if_pos c24] at H
       have c24b0 : decide (0 ≤ a1) = true := decide_eq_true c24
       clear c24
       by_cases c25 : a1 < (y224.length : Int)
       ·rw [if_pos c25] at H
        have c25b0 : decide (a1 < (y224.length : Int)) = true := decide_eq_true c25
        clear c25
        obtain ⟨y227, hy227⟩ : ∃ y_ : List (S27), y_ = (y224.set (a1 : Int).toNat (⟨1, 1⟩ : S27)) := ⟨_, rfl⟩
        replace H : (if 0 ≤ a2 then (if a2 < (y224.length : Int) then (spec_hiChances.l2 k1 t220 t221 (y227.set (a2 : Int).toNat (⟨0, 1⟩ : S27)) t208 (t208.length : Int) 0) else (none)) else (none)) = some r := by first | (rw [hy227]; with_reducible exact H) | (have H2_ := (Option.bind_some _ _).symm.trans H; rw [hy227]; with_reducible exact H2_) | (have H2_ := (Option.bind_some _ _).symm.trans H; with_reducible exact H2_) | with_reducible exact H | (rw [hy227]; exact H) | exact H
        have Ny227 := Aside0.mk hy227
        clear hy227
        by_cases c27 : 0 ≤ a2
        ·rw [if_pos c27] at H
         have c27b0 : decide (0 ≤ a2) = true := decide_eq_true c27
         clear c27
         by_cases c28 : a2 < (y224.length : Int)
         ·rw [if_pos c28] at H
          have c28b0 : decide (a2 < (y224.length : Int)) = true := decide_eq_true c28
          clear c28
          obtain ⟨y228, hy228⟩ : ∃ y_ : List (S27), y_ = (y227.set (a2 : Int).toNat (⟨0, 1⟩ : S27)) := ⟨_, rfl⟩
          replace H : (spec_hiChances.l2 k1 t220 t221 y228 t208 (t208.length : Int) 0) = some r := by first | (rw [hy228]; with_reducible exact H) | (have H2_ := (Option.bind_some _ _).symm.trans H; rw [hy228]; with_reducible exact H2_) | (have H2_ := (Option.bind_some _ _).symm.trans H; with_reducible exact H2_) | with_reducible exact H | (rw [hy228]; exact H) | exact H
          have Ny228 := Aside0.mk hy228
          clear hy228
          have H' := Aside0.mk H
          clear H
          obtain ⟨Ao30, co30, eo30⟩ := Kd.S_slice HO_8.out
          subst eo30
          obtain ⟨Ao31, co31, eo31⟩ := Kd.R_slice HO_9.out
          subst eo31
          go_wp2_with (first | ((with_reducible refine gate_callee (f := 89) rfl ?_); refine goesL_ (some 57) rfl rfl Try.func89 (by kernel_rfl) rfl #[.slice Ao30 t211.length co30, .slice Ao31 x9_1.length co31] rfl (by (try simp only [List.map_toArray, List.map_cons, List.map_nil]); first | done | rfl | (simp only [List.length_drop, List.length_take]; rfl)) ?_; (with_reducible refine (spec_hiSolve.calls k1 _ _ t211 _ _ x9_1 t220 t221 _ ?side1 ?side2 ?side3 ?side4 A21.out).mono ?_); (case side1 => repeat (first | exact (Kd.S_reads' HO_8.out).2.2 | (with_reducible refine Kd.C_alloc ?_ _) | (with_reducible refine Kd.C_drewN ?_ _) | (with_reducible refine Kd.C_drew ?_))); (case side2 => exact (Kd.S_reads' HO_8.out).2.1); (case side3 => repeat (first | exact (Kd.R_reads' HO_9.out).2.2 | (with_reducible refine Kd.C_alloc ?_ _) | (with_reducible refine Kd.C_drewN ?_ _) | (with_reducible refine Kd.C_drew ?_))); (case side4 => exact (Kd.R_reads' HO_9.out).2.1); rintro e w32 ⟨v222, rfl, ho0, hb⟩; refine ⟨_, rfl, ?_⟩; have n0_ := Aside0.mk (Kd.R_elder' (by (with_reducible repeat (first | apply Kd.R_alloc | apply Kd.R_drewN | apply Kd.R_drew)); exact HO_7.out) (Kd.R_base ho0) hb); have n1_ := Aside0.mk (Kd.S_elder' (by (with_reducible repeat (first | apply Kd.S_alloc | apply Kd.S_drewN | apply Kd.S_drew)); exact HO_8.out) (Kd.R_base ho0) hb); have n2_ := Aside0.mk (Kd.R_elder' (by (with_reducible repeat (first | apply Kd.R_alloc | apply Kd.R_drewN | apply Kd.R_drew)); exact HO_9.out) (Kd.R_base ho0) hb); have n3_ := Aside0.mk (Kd.R_elder' (by (with_reducible repeat (first | apply Kd.R_alloc | apply Kd.R_drewN | apply Kd.R_drew)); exact HO_27.out) (Kd.R_base ho0) hb); have n4_ := Aside0.mk (Kd.R_lower (Kd.R_new' (Kd.R_new' (Kd.R_new' ho0 (Kd.R_lt (by (with_reducible repeat (first | apply Kd.R_alloc | apply Kd.R_drewN | apply Kd.R_drew)); exact HO_7.out))) (Kd.R_lt (by (with_reducible repeat (first | apply Kd.R_alloc | apply Kd.R_drewN | apply Kd.R_drew)); exact HO_9.out))) (Kd.R_lt (by (with_reducible repeat (first | apply Kd.R_alloc | apply Kd.R_drewN | apply Kd.R_drew)); exact HO_27.out))) (bZ_ (by repeat (first | (with_reducible first | exact HB.out | apply bA_ | apply bN_ | apply bD_ | refine bS_ ?_ GE207.out) | exact HB.out)))); have n5_ := Aside0.mk (blk_below (g := gb207) (o := .cells #[.slice A0_0 l0_0.length c0_0] 30 (0, 0)) (by (with_reducible repeat (first | refine kN_ ?_ _ | refine kD_ ?_ | refine kA_ ?_ _)); exact BK207.out) hb); have n6_ := Aside0.mk (bP_ (by repeat (first | (with_reducible first | exact HB.out | apply bA_ | apply bN_ | apply bD_ | refine bS_ ?_ GE207.out) | exact HB.out)) hb); clear HO_7; clear HO_8; clear HO_9; clear HO_27; clear BK207; clear HB; have HO_7 := n0_; have HO_8 := n1_; have HO_9 := n2_; have HO_27 := n3_; have HO223 := n4_; have BK207 := n5_; have HB := n6_; clear n0_ n1_ n2_ n3_ n4_ n5_ n6_; (try clear hb); (try clear hb2); (try clear hk); (try clear hi); (try clear ho0); have hcz33_0 : w32.cell? ⟨gb207, 0, none⟩ = some (.slice A0_0 l0_0.length c0_0) := (blk_cell BK207.out 0).trans rfl; have hfz33_0 := kF_ BK207.out 0) | ((with_reducible refine gate_dst (N := 63) rfl ?_); refine Kd.R_make k27 _ 27 rfl (N := 63) rfl 49 _ _ rfl (l0_0.length : Int) rfl rfl Try.underlying49 (.agg #[(.int .i64 0), (.int .i64 0)]) 16 info27 rfl (by decide) (by omega) z27 (ok := fun _ => True) (okp := fun _ => True) (k27_mkM _ _ _ z27 ) (fun _ hk => hk) trivial (of_decide_eq_true (by first | (with_reducible assumption) | assumption)) (Nat.le_trans (Nat.mul_le_mul_right _ (of_decide_eq_true (by first | (with_reducible assumption) | assumption) : (l0_0.length : Int).toNat ≤ 17592186044416)) (by omega)) (Below.refl _ _) (Nat.le_refl _) ?_; intro v225 w34 ho35 hb hg_ hnew_; clear hg_ hnew_; (first | rw [← Ny224.out] at ho35 | (simp only [Int.reduceToNat] at ho35; rw [← Ny224.out] at ho35)); have n0_ := Aside0.mk (Kd.R_below (by (with_reducible repeat (first | apply Kd.R_alloc | apply Kd.R_drewN | apply Kd.R_drew)); exact HO_7.out) hb); have n1_ := Aside0.mk (Kd.S_below (by (with_reducible repeat (first | apply Kd.S_alloc | apply Kd.S_drewN | apply Kd.S_drew)); exact HO_8.out) hb); have n2_ := Aside0.mk (Kd.R_below (by (with_reducible repeat (first | apply Kd.R_alloc | apply Kd.R_drewN | apply Kd.R_drew)); exact HO_9.out) hb); have n3_ := Aside0.mk (Kd.R_below (by (with_reducible repeat (first | apply Kd.R_alloc | apply Kd.R_drewN | apply Kd.R_drew)); exact HO_27.out) hb); have n4_ := Aside0.mk (Kd.R_below (by (with_reducible repeat (first | apply Kd.R_alloc | apply Kd.R_drewN | apply Kd.R_drew)); exact HO223.out) hb); have n5_ := Aside0.mk (Kd.R_lower ho35 (bZ_ (by repeat (first | (with_reducible first | exact HB.out | apply bA_ | apply bN_ | apply bD_ | refine bS_ ?_ GE207.out) | exact HB.out)))); have n6_ := Aside0.mk (blk_below (g := gb207) (o := .cells #[.slice A0_0 l0_0.length c0_0] 30 (0, 0)) (by (with_reducible repeat (first | refine kN_ ?_ _ | refine kD_ ?_ | refine kA_ ?_ _)); exact BK207.out) hb); have n7_ := Aside0.mk (bP_ (by repeat (first | (with_reducible first | exact HB.out | apply bA_ | apply bN_ | apply bD_ | refine bS_ ?_ GE207.out) | exact HB.out)) hb); clear HO_7; clear HO_8; clear HO_9; clear HO_27; clear HO223; clear BK207; clear HB; have HO_7 := n0_; have HO_8 := n1_; have HO_9 := n2_; have HO_27 := n3_; have HO223 := n4_; have HO226 := n5_; have BK207 := n6_; have HB := n7_; clear n0_ n1_ n2_ n3_ n4_ n5_ n6_ n7_; clear hb ho35; have p26 : 0 ≤ (a1 : Int) := of_decide_eq_true (by first | (with_reducible assumption) | assumption); have q26 : (a1 : Int) < ((y224.length : Int) : Int) := of_decide_eq_true (by first | (with_reducible assumption) | assumption); obtain ⟨go26, co26, eo26, gb26, gl26, cl26, HG26⟩ := Kd.R_form HO226.out (by omega); (first | cases eo26 | (injection eo26 with ea_ en_ ec_; (first | subst ea_ | (injection ea_ with ea_; subst ea_)); subst ec_; clear en_)); have GB26 := Aside0.mk gb26; have GG26 := Aside0.mk HG26; clear gb26 gl26 HG26; obtain ⟨ce26, hcl26, hM26, hcc26, hfr26⟩ := Kd.R_elem HO226.out z27 (a1 : Int) p26 q26; obtain rfl := k27_openM hM26; have hx26_0 : w34.cell? ⟨go26, (a1 : Int).toNat * 2, none⟩ = some (.int .i64 ((rd_T27 y224 a1).f0)) := hcc26 0 _ rfl; have hx26_1 : w34.cell? ⟨go26, (a1 : Int).toNat * 2 + 1, none⟩ = some (.int .i64 ((rd_T27 y224 a1).f1)) := hcc26 1 _ rfl; have hf26_0 : w34.frozen? ⟨go26, (a1 : Int).toNat * 2, none⟩ = false := hfr26 0; have hf26_1 : w34.frozen? ⟨go26, (a1 : Int).toNat * 2 + 1, none⟩ = false := hfr26 1; clear hcl26 hcc26 hfr26; (try clear hM26); replace p26 := eq_true p26; replace q26 := eq_true q26; have HX36 := Aside0.mk (show Kd.R k27 27 w34 w.heap.size (fun _ => True) (.slice (some ⟨go26, 0, none⟩) y224.length co26) y224 from (by (with_reducible repeat (first | apply Kd.R_alloc | apply Kd.R_drewN | apply Kd.R_drew)); exact HO226.out)); obtain ⟨ce36, hcl36, hM36, hcc36, hfr36⟩ := Kd.R_elem HX36.out z27 (a1 : Int) (of_decide_eq_true (by first | (with_reducible assumption) | assumption)) (by have h_ : (a1 : Int) < ((y224.length : Int) : Int) := of_decide_eq_true (by first | (with_reducible assumption) | assumption); first | exact h_ | (have e_ := (Kd.R_reads' HO226.out).1; omega) | simpa using h_); obtain rfl := k27_openM hM36; have HP36 := Kd.R_seg HX36.out (a1 : Int) (of_decide_eq_true (by first | (with_reducible assumption) | assumption)) (by have h_ : (a1 : Int) < ((y224.length : Int) : Int) := of_decide_eq_true (by first | (with_reducible assumption) | assumption); first | exact h_ | (have e_ := (Kd.R_reads' HO226.out).1; omega) | simpa using h_) (seg := [.int .i64 1, .int .i64 1]) (j := 0) hcl36 hcc36 (show 2 ≤ 2 from by decide) (x' := (⟨1, 1⟩ : S27)) (k27_mkM _ _ _ (⟨1, 1⟩ : S27) ) (fun _ hk => hk); have hx36_0 := hcc36 0 _ rfl; (try simp only [show (k27).sz = 2 from rfl, Nat.mul_one, Nat.add_zero] at hx36_0); have hf36_0 := hfr36 0; (try simp only [show (k27).sz = 2 from rfl, Nat.mul_one, Nat.add_zero] at hf36_0); have hx36_1 := hcc36 1 _ rfl; (try simp only [show (k27).sz = 2 from rfl, Nat.mul_one, Nat.add_zero] at hx36_1); have hf36_1 := hfr36 1; (try simp only [show (k27).sz = 2 from rfl, Nat.mul_one, Nat.add_zero] at hf36_1); clear hcl36 hcc36 hfr36; (try clear hM36)) | ((with_reducible refine gate_store (t := 27) (p := 67) rfl ?_); refine store_event (t := 27) (p := 67) (v := ?vo_w37) (w1 := ((w34.setCell ⟨go26, (a1 : Int).toNat * 2, none⟩ (.int .i64 1)).setCell ⟨go26, (a1 : Int).toNat * 2 + 1, none⟩ (.int .i64 1))) ?hg ?ho ?hn ?hr ?_; (case ho => rfl); (case hg => rfl); (case hn => rfl); (case hr => first | (go_simp; done) | (go_simp; rfl)); intro w37 hw; have hg : w34.grownBy w37 (some go26) := (by rw [hw]; exact HP36.2); have hp_ : Kd.R k27 27 w37 w.heap.size (fun _ => True) (.slice (some ⟨go26, 0, none⟩) y224.length co26) y227 := (by rw [hw, Ny227.out]; exact HP36.1); clear HP36; have n0_ := Aside0.mk (Kd.R_over' (v := (.slice (some ⟨go26, 0, none⟩) y224.length co26)) (by (with_reducible repeat (first | apply Kd.R_alloc | apply Kd.R_drewN | apply Kd.R_drew)); exact HO_7.out) (Kd.R_typed HO226.out) (by decide) hg); have n1_ := Aside0.mk (Kd.S_over' (v := (.slice (some ⟨go26, 0, none⟩) y224.length co26)) (by (with_reducible repeat (first | apply Kd.S_alloc | apply Kd.S_drewN | apply Kd.S_drew)); exact HO_8.out) (Kd.R_typed HO226.out) (by decide) hg); have n2_ := Aside0.mk (Kd.R_over' (v := (.slice (some ⟨go26, 0, none⟩) y224.length co26)) (by (with_reducible repeat (first | apply Kd.R_alloc | apply Kd.R_drewN | apply Kd.R_drew)); exact HO_9.out) (Kd.R_typed HO226.out) (by decide) hg); have n3_ := Aside0.mk (Kd.R_over' (v := (.slice (some ⟨go26, 0, none⟩) y224.length co26)) (by (with_reducible repeat (first | apply Kd.R_alloc | apply Kd.R_drewN | apply Kd.R_drew)); exact HO_27.out) (Kd.R_typed HO226.out) (by decide) hg); have n4_ := Aside0.mk (blk_grown (g := gb207) (o := .cells #[.slice A0_0 l0_0.length c0_0] 30 (0, 0)) (by (with_reducible repeat (first | refine kN_ ?_ _ | refine kD_ ?_ | refine kA_ ?_ _)); exact BK207.out) hg (Kd.R_ne HO226.out BK207.out (by decide))); have n5_ := Aside0.mk (Kd.R_over' (v := (.slice (some ⟨go26, 0, none⟩) y224.length co26)) (by (with_reducible repeat (first | apply Kd.R_alloc | apply Kd.R_drewN | apply Kd.R_drew)); exact HO223.out) (Kd.R_typed HO226.out) (by decide) hg); have n6_ := Aside0.mk (hp_); have n7_ := Aside0.mk ((by rw [hw]; exact bS_ (bS_ (HB.out) GB26.out) GB26.out : Below w.heap.size w w37)); clear HO_7; clear HO_8; clear HO_9; clear HO_27; clear BK207; clear HO223; clear HO226; clear HB; have HO_7 := n0_; have HO_8 := n1_; have HO_9 := n2_; have HO_27 := n3_; have BK207 := n4_; have HO223 := n5_; have HO226 := n6_; have HB := n7_; clear n0_ n1_ n2_ n3_ n4_ n5_ n6_ n7_; clear hg hw hp_; have p29 : 0 ≤ (a2 : Int) := of_decide_eq_true (by first | (with_reducible assumption) | assumption); have q29 : (a2 : Int) < ((y224.length : Int) : Int) := of_decide_eq_true (by first | (with_reducible assumption) | assumption); obtain ⟨ce29, hcl29, hM29, hcc29, hfr29⟩ := Kd.R_elem HO226.out z27 (a2 : Int) p29 q29; obtain rfl := k27_openM hM29; have hx29_0 : w37.cell? ⟨go26, (a2 : Int).toNat * 2, none⟩ = some (.int .i64 ((rd_T27 y227 a2).f0)) := hcc29 0 _ rfl; have hx29_1 : w37.cell? ⟨go26, (a2 : Int).toNat * 2 + 1, none⟩ = some (.int .i64 ((rd_T27 y227 a2).f1)) := hcc29 1 _ rfl; have hf29_0 : w37.frozen? ⟨go26, (a2 : Int).toNat * 2, none⟩ = false := hfr29 0; have hf29_1 : w37.frozen? ⟨go26, (a2 : Int).toNat * 2 + 1, none⟩ = false := hfr29 1; clear hcl29 hcc29 hfr29; (try clear hM29); replace p29 := eq_true p29; replace q29 := eq_true q29; have HX38 := Aside0.mk (show Kd.R k27 27 w37 w.heap.size (fun _ => True) (.slice (some ⟨go26, 0, none⟩) y224.length co26) y227 from (by (with_reducible repeat (first | apply Kd.R_alloc | apply Kd.R_drewN | apply Kd.R_drew)); exact HO226.out)); obtain ⟨ce38, hcl38, hM38, hcc38, hfr38⟩ := Kd.R_elem HX38.out z27 (a2 : Int) (of_decide_eq_true (by first | (with_reducible assumption) | assumption)) (by have h_ : (a2 : Int) < ((y224.length : Int) : Int) := of_decide_eq_true (by first | (with_reducible assumption) | assumption); first | exact h_ | (have e_ := (Kd.R_reads' HO226.out).1; omega) | simpa using h_); obtain rfl := k27_openM hM38; have HP38 := Kd.R_seg HX38.out (a2 : Int) (of_decide_eq_true (by first | (with_reducible assumption) | assumption)) (by have h_ : (a2 : Int) < ((y224.length : Int) : Int) := of_decide_eq_true (by first | (with_reducible assumption) | assumption); first | exact h_ | (have e_ := (Kd.R_reads' HO226.out).1; omega) | simpa using h_) (seg := [.int .i64 0, .int .i64 1]) (j := 0) hcl38 hcc38 (show 2 ≤ 2 from by decide) (x' := (⟨0, 1⟩ : S27)) (k27_mkM _ _ _ (⟨0, 1⟩ : S27) ) (fun _ hk => hk); have hx38_0 := hcc38 0 _ rfl; (try simp only [show (k27).sz = 2 from rfl, Nat.mul_one, Nat.add_zero] at hx38_0); have hf38_0 := hfr38 0; (try simp only [show (k27).sz = 2 from rfl, Nat.mul_one, Nat.add_zero] at hf38_0); have hx38_1 := hcc38 1 _ rfl; (try simp only [show (k27).sz = 2 from rfl, Nat.mul_one, Nat.add_zero] at hx38_1); have hf38_1 := hfr38 1; (try simp only [show (k27).sz = 2 from rfl, Nat.mul_one, Nat.add_zero] at hf38_1); clear hcl38 hcc38 hfr38; (try clear hM38)) | ((with_reducible refine gate_store (t := 27) (p := 71) rfl ?_); refine store_event (t := 27) (p := 71) (v := ?vo_w39) (w1 := ((w37.setCell ⟨go26, (a2 : Int).toNat * 2, none⟩ (.int .i64 0)).setCell ⟨go26, (a2 : Int).toNat * 2 + 1, none⟩ (.int .i64 1))) ?hg ?ho ?hn ?hr ?_; (case ho => rfl); (case hg => rfl); (case hn => rfl); (case hr => first | (go_simp; done) | (go_simp; rfl)); intro w39 hw; have hg : w37.grownBy w39 (some go26) := (by rw [hw]; exact HP38.2); have hp_ : Kd.R k27 27 w39 w.heap.size (fun _ => True) (.slice (some ⟨go26, 0, none⟩) y224.length co26) y228 := (by rw [hw, Ny228.out]; exact HP38.1); clear HP38; have n0_ := Aside0.mk (Kd.R_over' (v := (.slice (some ⟨go26, 0, none⟩) y224.length co26)) (by (with_reducible repeat (first | apply Kd.R_alloc | apply Kd.R_drewN | apply Kd.R_drew)); exact HO_7.out) (Kd.R_typed HO226.out) (by decide) hg); have n1_ := Aside0.mk (Kd.S_over' (v := (.slice (some ⟨go26, 0, none⟩) y224.length co26)) (by (with_reducible repeat (first | apply Kd.S_alloc | apply Kd.S_drewN | apply Kd.S_drew)); exact HO_8.out) (Kd.R_typed HO226.out) (by decide) hg); have n2_ := Aside0.mk (Kd.R_over' (v := (.slice (some ⟨go26, 0, none⟩) y224.length co26)) (by (with_reducible repeat (first | apply Kd.R_alloc | apply Kd.R_drewN | apply Kd.R_drew)); exact HO_9.out) (Kd.R_typed HO226.out) (by decide) hg); have n3_ := Aside0.mk (Kd.R_over' (v := (.slice (some ⟨go26, 0, none⟩) y224.length co26)) (by (with_reducible repeat (first | apply Kd.R_alloc | apply Kd.R_drewN | apply Kd.R_drew)); exact HO_27.out) (Kd.R_typed HO226.out) (by decide) hg); have n4_ := Aside0.mk (blk_grown (g := gb207) (o := .cells #[.slice A0_0 l0_0.length c0_0] 30 (0, 0)) (by (with_reducible repeat (first | refine kN_ ?_ _ | refine kD_ ?_ | refine kA_ ?_ _)); exact BK207.out) hg (Kd.R_ne HO226.out BK207.out (by decide))); have n5_ := Aside0.mk (Kd.R_over' (v := (.slice (some ⟨go26, 0, none⟩) y224.length co26)) (by (with_reducible repeat (first | apply Kd.R_alloc | apply Kd.R_drewN | apply Kd.R_drew)); exact HO223.out) (Kd.R_typed HO226.out) (by decide) hg); have n6_ := Aside0.mk (hp_); have n7_ := Aside0.mk ((by rw [hw]; exact bS_ (bS_ (HB.out) GB26.out) GB26.out : Below w.heap.size w w39)); clear HO_7; clear HO_8; clear HO_9; clear HO_27; clear BK207; clear HO223; clear HO226; clear HB; have HO_7 := n0_; have HO_8 := n1_; have HO_9 := n2_; have HO_27 := n3_; have BK207 := n4_; have HO223 := n5_; have HO226 := n6_; have HB := n7_; clear n0_ n1_ n2_ n3_ n4_ n5_ n6_ n7_; clear hg hw hp_))
          go_loopg [74] k1 (fun kq v74 w' => ∃ (x17_2 : List (S27)) (x74_2 : Int), v74 = .int .i64 x74_2 ∧ Aside0 (spec_hiChances.l2 kq t220 t221 x17_2 t208 (t208.length : Int) x74_2 = some r) ∧ Aside0 (kq ≤ k1) ∧ Aside0 (Kd.R (Kd.int .i64) 3 w' w.heap.size (fun k_ => some k_ ≠ ((.slice Ao8 t208.length co8) : Value).ownBlock) v222 t220) ∧ Aside0 (Kd.R k27 27 w' w.heap.size (fun _ => True) (.slice (some ⟨go26, 0, none⟩) y224.length co26) x17_2) ∧ Aside0 (Kd.R (Kd.int .i64) 3 w' w.heap.size (fun k_ => some k_ ≠ (v222 : Value).ownBlock) (.slice Ao8 t208.length co8) t208) ∧ Aside0 (w'.heap[gb207]? = some (.cells #[(.slice A0_0 l0_0.length c0_0)] 30 (0, 0))) ∧ Aside0 (Below w.heap.size w w'))
          case atStart => exact ⟨(y228), (0), (by first | rfl | (simp; done) | (simp [*]; done)), H', ⟨Nat.le_refl _⟩, ⟨by (with_reducible repeat (first | apply Kd.R_alloc | apply Kd.R_drewN | apply Kd.R_drew)); exact Kd.R_mono HO223.out (fun _ hk => hk.1.1.2)⟩, ⟨by (with_reducible repeat (first | apply Kd.R_alloc | apply Kd.R_drewN | apply Kd.R_drew)); exact HO226.out⟩, ⟨by (with_reducible repeat (first | apply Kd.R_alloc | apply Kd.R_drewN | apply Kd.R_drew)); exact Kd.R_mono HO_7.out (fun _ hk => hk.2)⟩, ⟨by (with_reducible repeat (first | refine kN_ ?_ _ | refine kD_ ?_ | refine kA_ ?_ _)); exact BK207.out⟩, ⟨by repeat (first | (with_reducible first | exact HB.out | apply bA_ | apply bN_ | apply bD_ | refine bS_ ?_ GE207.out) | exact HB.out)⟩⟩
          case round =>
           clear H'
           try clear c1
           try clear c2
           try clear p2
           try clear q2
           try clear hx2
           try clear c3
           try clear hx3
           try clear hf3
           try clear p6
           try clear c8
           try clear c9
           try clear c9b0
           try clear c10
           try clear c10b0
           try clear c11
           try clear c11b0
           try clear c12
           try clear c12b0
           try clear c13
           try clear c13b0
           try clear c15
           try clear c15b0
           try clear c16
           try clear c16b0
           try clear c17
           try clear c17b0
           try clear c18
           try clear c18b0
           try clear c18b1
           try clear c19
           try clear c21
           try clear p21
           try clear q21
           try clear hx21
           try clear c22
           try clear c22b0
           try clear c22b1
           try clear c23
           try clear c23b0
           try clear c23b1
           try clear c24
           try clear c24b0
           try clear c25
           try clear c25b0
           try clear c26
           try clear p26
           try clear q26
           try clear hx26
           try clear hf26
           try clear c27
           try clear c27b0
           try clear c28
           try clear c28b0
           try clear c29
           try clear p29
           try clear q29
           try clear hx29
           try clear hf29
           try clear c36
           try clear hx36
           try clear hf36
           try clear c38
           try clear hx38
           try clear hf38
           try clear hcz14_0
           try clear hcz33_0
           try clear hcz6_0
           try clear hfz14_0
           try clear hfz33_0
           try clear hfz6_0
           try clear hx214_0
           try clear hx215_0
           try clear hx216_0
           try clear hx26_0
           try clear hx26_1
           try clear hx29_0
           try clear hx29_1
           try clear hx36_0
           try clear hx36_1
           try clear hx38_0
           try clear hx38_1
           try clear p2
           try clear p214
           try clear p215
           try clear p216
           try clear p26
           try clear p29
           try clear q2
           try clear q214
           try clear q215
           try clear q216
           try clear q26
           try clear q29
           obtain ⟨x17_2, x74_2, rfl, HA, HK2, HO_15, HO_17, HO_72, BK207, HB⟩ := hrel
           have hl17_2 := (Kd.R_reads' HO_17.out).1
           rw [hl17_2] at HO_17
           (try simp only [hl17_2])
           (try simp only [hl17_2] at BK207)
           (try simp only [hl17_2] at HO_15)
           (try simp only [hl17_2] at HO_72)
           cases gk with
           | zero => exact absurd HA.out (by simp [spec_hiChances.l2])
           | succ k2 =>
            have H := HA.out
            clear HA
            simp only [spec_hiChances.l2] at H
            by_cases c40 : x74_2 < (t208.length : Int)
            ·rw [if_pos c40] at H
             have c40b0 : decide (x74_2 < (t208.length : Int)) = true := decide_eq_true c40
             clear c40
             by_cases c41 : 0 ≤ x74_2
             ·rw [if_pos c41] at H
              have c41b0 : decide (0 ≤ x74_2) = true := decide_eq_true c41
              clear c41
              by_cases c42 : x74_2 < (t208.length : Int)
              ·rw [if_pos c42] at H
               have c42b0 : decide (x74_2 < (t208.length : Int)) = true := decide_eq_true c42
               clear c42
               by_cases c43 : x74_2 < (t220.length : Int)
               ·rw [if_pos c43] at H
                have c43b0 : decide (x74_2 < (t220.length : Int)) = true := decide_eq_true c43
                clear c43
                replace H := Option.bind_eq_some_iff.mp H
                obtain ⟨⟨t231, t232⟩, A440, H⟩ := H
                replace H : (if 0 ≤ (rd t208 x74_2) then (if (rd t208 x74_2) < (x17_2.length : Int) then (spec_hiChances.l2 k2 t220 t221 (x17_2.set ((rd t208 x74_2) : Int).toNat (⟨t231, t232⟩ : S27)) t208 (t208.length : Int) (wrap64 (x74_2 + 1))) else (none)) else (none)) = some r := H
                have A44 := Aside0.mk A440
                clear A440
                by_cases c45 : 0 ≤ (rd t208 x74_2)
                ·rw [if_pos c45] at H
                 have c45b0 : decide (0 ≤ (rd t208 x74_2)) = true := decide_eq_true c45
                 clear c45
                 by_cases c46 : (rd t208 x74_2) < (x17_2.length : Int)
                 ·rw [if_pos c46] at H
                  have c46b0 : decide ((rd t208 x74_2) < (x17_2.length : Int)) = true := decide_eq_true c46
                  clear c46
                  obtain ⟨y233, hy233⟩ : ∃ y_ : List (S27), y_ = (x17_2.set ((rd t208 x74_2) : Int).toNat (⟨t231, t232⟩ : S27)) := ⟨_, rfl⟩
                  replace H : (spec_hiChances.l2 k2 t220 t221 y233 t208 (t208.length : Int) (wrap64 (x74_2 + 1))) = some r := by first | (rw [hy233]; with_reducible exact H) | (have H2_ := (Option.bind_some _ _).symm.trans H; rw [hy233]; with_reducible exact H2_) | (have H2_ := (Option.bind_some _ _).symm.trans H; with_reducible exact H2_) | with_reducible exact H | (rw [hy233]; exact H) | exact H
                  have Ny233 := Aside0.mk hy233
                  clear hy233
                  have H' := Aside0.mk H
                  clear H
                  have p229 : 0 ≤ (x74_2 : Int) := of_decide_eq_true (by first | (with_reducible assumption) | assumption)
                  have q229 : x74_2 < (t208.length : Int) := of_decide_eq_true (by first | (with_reducible assumption) | assumption)
                  obtain ⟨ad229, e229, hx229_0⟩ := Kd.at_int (Kd.R_reads' HO_72.out).2.2 x74_2 p229 q229
                  cases e229
                  replace p229 := eq_true p229
                  replace q229 := eq_true q229
                  obtain ⟨Ao48, co48, eo48⟩ := Kd.R_slice HO_15.out
                  subst eo48
                  have p230 : 0 ≤ (x74_2 : Int) := of_decide_eq_true (by first | (with_reducible assumption) | assumption)
                  have q230 : x74_2 < (t220.length : Int) := of_decide_eq_true (by first | (with_reducible assumption) | assumption)
                  obtain ⟨ad230, e230, hx230_0⟩ := Kd.at_int (Kd.R_reads' HO_15.out).2.2 x74_2 p230 q230
                  cases e230
                  replace p230 := eq_true p230
                  replace q230 := eq_true q230
                  go_wp2_with (first | ((with_reducible refine gate_callee (f := 74) rfl ?_); refine goesL_ (some 86) rfl rfl Try.func74 (by kernel_rfl) rfl #[.int .i64 (rd t220 x74_2), .int .i64 t221] rfl (by (try simp only [List.map_toArray, List.map_cons, List.map_nil]); first | done | rfl | (simp only [List.length_drop, List.length_take]; rfl)) ?_; (with_reducible refine (spec_hiRatio.calls k2 (rd t220 x74_2) t221 t231 t232 _ A44.out).mono ?_); rintro e w49 ⟨rfl, hb⟩; refine ⟨_, rfl, ?_⟩; have n0_ := Aside0.mk (Kd.R_below (by (with_reducible repeat (first | apply Kd.R_alloc | apply Kd.R_drewN | apply Kd.R_drew)); exact HO_15.out) hb); have n1_ := Aside0.mk (Kd.R_below (by (with_reducible repeat (first | apply Kd.R_alloc | apply Kd.R_drewN | apply Kd.R_drew)); exact HO_17.out) hb); have n2_ := Aside0.mk (Kd.R_below (by (with_reducible repeat (first | apply Kd.R_alloc | apply Kd.R_drewN | apply Kd.R_drew)); exact HO_72.out) hb); have n3_ := Aside0.mk (blk_below (g := gb207) (o := .cells #[.slice A0_0 l0_0.length c0_0] 30 (0, 0)) (by (with_reducible repeat (first | refine kN_ ?_ _ | refine kD_ ?_ | refine kA_ ?_ _)); exact BK207.out) hb); have n4_ := Aside0.mk (bP_ (by repeat (first | (with_reducible first | exact HB.out | apply bA_ | apply bN_ | apply bD_ | refine bS_ ?_ GE207.out) | exact HB.out)) hb); clear HO_15; clear HO_17; clear HO_72; clear BK207; clear HB; have HO_15 := n0_; have HO_17 := n1_; have HO_72 := n2_; have BK207 := n3_; have HB := n4_; clear n0_ n1_ n2_ n3_ n4_; (try clear hb); (try clear hb2); (try clear hk); (try clear hi); have p47 : 0 ≤ ((rd t208 x74_2) : Int) := of_decide_eq_true (by first | (with_reducible assumption) | assumption); have q47 : ((rd t208 x74_2) : Int) < ((x17_2.length : Int) : Int) := of_decide_eq_true (by first | (with_reducible assumption) | assumption); obtain ⟨ce47, hcl47, hM47, hcc47, hfr47⟩ := Kd.R_elem HO_17.out z27 ((rd t208 x74_2) : Int) p47 q47; obtain rfl := k27_openM hM47; have hx47_0 : w49.cell? ⟨go26, ((rd t208 x74_2) : Int).toNat * 2, none⟩ = some (.int .i64 ((rd_T27 x17_2 (rd t208 x74_2)).f0)) := hcc47 0 _ rfl; have hx47_1 : w49.cell? ⟨go26, ((rd t208 x74_2) : Int).toNat * 2 + 1, none⟩ = some (.int .i64 ((rd_T27 x17_2 (rd t208 x74_2)).f1)) := hcc47 1 _ rfl; have hf47_0 : w49.frozen? ⟨go26, ((rd t208 x74_2) : Int).toNat * 2, none⟩ = false := hfr47 0; have hf47_1 : w49.frozen? ⟨go26, ((rd t208 x74_2) : Int).toNat * 2 + 1, none⟩ = false := hfr47 1; clear hcl47 hcc47 hfr47; (try clear hM47); replace p47 := eq_true p47; replace q47 := eq_true q47; have HX50 := Aside0.mk (show Kd.R k27 27 w49 w.heap.size (fun _ => True) (.slice (some ⟨go26, 0, none⟩) x17_2.length co26) x17_2 from (by (with_reducible repeat (first | apply Kd.R_alloc | apply Kd.R_drewN | apply Kd.R_drew)); exact HO_17.out)); obtain ⟨ce50, hcl50, hM50, hcc50, hfr50⟩ := Kd.R_elem HX50.out z27 ((rd t208 x74_2) : Int) (of_decide_eq_true (by first | (with_reducible assumption) | assumption)) (by have h_ : ((rd t208 x74_2) : Int) < ((x17_2.length : Int) : Int) := of_decide_eq_true (by first | (with_reducible assumption) | assumption); first | exact h_ | (have e_ := (Kd.R_reads' HO_17.out).1; omega) | simpa using h_); obtain rfl := k27_openM hM50; have HP50 := Kd.R_seg HX50.out ((rd t208 x74_2) : Int) (of_decide_eq_true (by first | (with_reducible assumption) | assumption)) (by have h_ : ((rd t208 x74_2) : Int) < ((x17_2.length : Int) : Int) := of_decide_eq_true (by first | (with_reducible assumption) | assumption); first | exact h_ | (have e_ := (Kd.R_reads' HO_17.out).1; omega) | simpa using h_) (seg := [.int .i64 t231, .int .i64 t232]) (j := 0) hcl50 hcc50 (show 2 ≤ 2 from by decide) (x' := (⟨t231, t232⟩ : S27)) (k27_mkM _ _ _ (⟨t231, t232⟩ : S27) ) (fun _ hk => hk); have hx50_0 := hcc50 0 _ rfl; (try simp only [show (k27).sz = 2 from rfl, Nat.mul_one, Nat.add_zero] at hx50_0); have hf50_0 := hfr50 0; (try simp only [show (k27).sz = 2 from rfl, Nat.mul_one, Nat.add_zero] at hf50_0); have hx50_1 := hcc50 1 _ rfl; (try simp only [show (k27).sz = 2 from rfl, Nat.mul_one, Nat.add_zero] at hx50_1); have hf50_1 := hfr50 1; (try simp only [show (k27).sz = 2 from rfl, Nat.mul_one, Nat.add_zero] at hf50_1); clear hcl50 hcc50 hfr50; (try clear hM50)) | ((with_reducible refine gate_store (t := 27) (p := 87) rfl ?_); refine store_event (t := 27) (p := 87) (v := ?vo_w51) (w1 := ((w49.setCell ⟨go26, ((rd t208 x74_2) : Int).toNat * 2, none⟩ (.int .i64 t231)).setCell ⟨go26, ((rd t208 x74_2) : Int).toNat * 2 + 1, none⟩ (.int .i64 t232))) ?hg ?ho ?hn ?hr ?_; (case ho => rfl); (case hg => rfl); (case hn => rfl); (case hr => first | (go_simp; done) | (go_simp; rfl)); intro w51 hw; have hg : w49.grownBy w51 (some go26) := (by rw [hw]; exact HP50.2); have hp_ : Kd.R k27 27 w51 w.heap.size (fun _ => True) (.slice (some ⟨go26, 0, none⟩) x17_2.length co26) y233 := (by rw [hw, Ny233.out]; exact HP50.1); clear HP50; have n0_ := Aside0.mk (Kd.R_over' (v := (.slice (some ⟨go26, 0, none⟩) x17_2.length co26)) (by (with_reducible repeat (first | apply Kd.R_alloc | apply Kd.R_drewN | apply Kd.R_drew)); exact HO_15.out) (Kd.R_typed HO_17.out) (by decide) hg); have n1_ := Aside0.mk (hp_); have n2_ := Aside0.mk (Kd.R_over' (v := (.slice (some ⟨go26, 0, none⟩) x17_2.length co26)) (by (with_reducible repeat (first | apply Kd.R_alloc | apply Kd.R_drewN | apply Kd.R_drew)); exact HO_72.out) (Kd.R_typed HO_17.out) (by decide) hg); have n3_ := Aside0.mk (blk_grown (g := gb207) (o := .cells #[.slice A0_0 l0_0.length c0_0] 30 (0, 0)) (by (with_reducible repeat (first | refine kN_ ?_ _ | refine kD_ ?_ | refine kA_ ?_ _)); exact BK207.out) hg (Kd.R_ne HO_17.out BK207.out (by decide))); have n4_ := Aside0.mk ((by rw [hw]; exact bS_ (bS_ (HB.out) GB26.out) GB26.out : Below w.heap.size w w51)); clear HO_15; clear HO_17; clear HO_72; clear BK207; clear HB; have HO_15 := n0_; have HO_17 := n1_; have HO_72 := n2_; have BK207 := n3_; have HB := n4_; clear n0_ n1_ n2_ n3_ n4_; clear hg hw hp_))
                  (try simp only [← hl17_2])
                  go_roundg k2
                  case measure => have := HK1.out; have := HK2.out; omega
                  case rel => exact ⟨(y233), (wrap64 (x74_2 + 1)), (by first | rfl | (simp; done) | (simp [*]; done)), H', ⟨by have := HK1.out; have := HK2.out; omega⟩, ⟨by (try simp only [hl17_2]); (with_reducible repeat (first | apply Kd.R_alloc | apply Kd.R_drewN | apply Kd.R_drew)); exact HO_15.out⟩, ⟨by (try simp only [hl17_2]); (with_reducible repeat (first | apply Kd.R_alloc | apply Kd.R_drewN | apply Kd.R_drew)); exact HO_17.out⟩, ⟨by (try simp only [hl17_2]); (with_reducible repeat (first | apply Kd.R_alloc | apply Kd.R_drewN | apply Kd.R_drew)); exact HO_72.out⟩, ⟨by (try simp only [hl17_2]); (with_reducible repeat (first | refine kN_ ?_ _ | refine kD_ ?_ | refine kA_ ?_ _)); exact BK207.out⟩, ⟨by repeat (first | (with_reducible first | exact HB.out | apply bA_ | apply bN_ | apply bD_ | refine bS_ ?_ GE207.out) | exact HB.out)⟩⟩
                 ·rw [if_neg c46] at H
                  exact absurd H (by simp)
                ·rw [if_neg c45] at H
                 exact absurd H (by simp)
               ·rw [if_neg c43] at H
                exact absurd H (by simp)
              ·rw [if_neg c42] at H
               exact absurd H (by simp)
             ·rw [if_neg c41] at H
              exact absurd H (by simp)
            ·rw [if_neg c40] at H
             have c40b0 : decide (x74_2 < (t208.length : Int)) = false := decide_eq_false c40
             clear c40
             obtain rfl := Option.some.inj H
             go_wp2
             go_ret
             exact ⟨_, by first | rfl | (simp [errW_none, errW_some] <;> rfl) | (simp [*, errW_none, errW_some] <;> rfl), by (with_reducible repeat (first | apply Kd.R_alloc | apply Kd.R_drewN | apply Kd.R_drew)); exact HO_17.out, by repeat (first | (with_reducible first | exact HB.out | apply bA_ | apply bN_ | apply bD_ | refine bS_ ?_ GE207.out) | exact HB.out)⟩
         ·rw [if_neg c28] at H
          exact absurd H (by simp)
        ·rw [if_neg c27] at H
         exact absurd H (by simp)
       ·rw [if_neg c25] at H
        exact absurd H (by simp)
      ·rw [if_neg c24] at H
       exact absurd H (by simp)
     ·rw [if_neg c23] at H
      exact absurd H (by simp)
    ·rw [if_neg c22] at H
     exact absurd H (by simp)
def spec_ChancesOf.f (k : Nat) (l0_0 : List (List Int)) (a1 : Int) (a2 : Int) : Option ((List (S27)) × Bool) := (spec_hiGood.f k l0_0 a1 a2).bind fun t243 => (if t243 = true then ((spec_hiChances.f k l0_0 a1 a2).bind fun t244 => (some (t244, true))) else (some (([] : List (S27)), false)))
set_option maxHeartbeats 8000000 in
set_option maxRecDepth 100000 in
theorem spec_ChancesOf.calls (k : Nat) (A0_0 : Option Addr) (c0_0 : Nat) (l0_0 : List (List Int)) (a1 : Int) (a2 : Int) (r1 : List (S27)) (r2 : Bool) (w : World) (hr0_0 : Kd.C (Kd.slice 3 (Kd.int .i64)) w A0_0 l0_0.length l0_0) (hc0_0 : l0_0.length ≤ c0_0) (h : spec_ChancesOf.f k l0_0 a1 a2 = some (r1, r2)) :
  Calls Try.prog 46 #[.agg #[.slice A0_0 l0_0.length c0_0], .int .i64 a1, .int .i64 a2] w fun e w' => ∃ v0_ : Value, e = .returned (.tuple #[v0_, .bool r2]) ∧ Kd.R k27 27 w' w.heap.size (fun _ => True) v0_ r1 ∧ Below w.heap.size w w' := by
 have hu30 := Try.underlying30
 have HR0_0 := Aside0.mk hr0_0
 have HC0_0 := Aside0.mk hc0_0
 clear hr0_0 hc0_0
 have HB := Aside0.mk (Below.refl w.heap.size w)
 have H : ((spec_hiGood.f k l0_0 a1 a2).bind fun t243 => (if t243 = true then ((spec_hiChances.f k l0_0 a1 a2).bind fun t244 => (some (t244, true))) else (some (([] : List (S27)), false)))) = some (r1, r2) := h
 clear h
 replace H := Option.bind_eq_some_iff.mp H
 obtain ⟨t243, A40, H⟩ := H
 replace H : (if t243 = true then ((spec_hiChances.f k l0_0 a1 a2).bind fun t244 => (some (t244, true))) else (some (([] : List (S27)), false))) = some (r1, r2) := H
 have A4 := Aside0.mk A40
 clear A40
 by_cases c5 : t243 = true
 ·subst c5
  have H1 : ((spec_hiChances.f k l0_0 a1 a2).bind fun t244 => (some (t244, true))) = some (r1, r2) := by rw [if_pos rfl] at H; exact H
  clear H
  have H := H1
  clear H1
  replace H := Option.bind_eq_some_iff.mp H
  obtain ⟨t244, A60, H⟩ := H
  replace H : (some (t244, true)) = some (r1, r2) := H
  have A6 := Aside0.mk A60
  clear A60
  simp only [Option.some.injEq, Prod.mk.injEq] at H
  obtain ⟨rfl, rfl⟩ := H
  go_enter Try.func46, Try.ntmps46
  go_wp2_with (first | ((with_reducible refine gate_dst (N := 3) rfl ?_); refine box_event ?hg (N := 3) ?hd (cs := #[.slice A0_0 l0_0.length c0_0]) (t := 30) ?hr ?_; (case hd => rfl); (case hg => rfl); (case hr => first | (go_simp; done) | (go_simp; rfl)); intro gb242 hg w7 hbox hb; have n0_ := Aside0.mk (bP_ (by repeat (first | (with_reducible first | exact HB.out | apply bA_ | apply bN_ | apply bD_) | exact HB.out)) hb); have n1_ := Aside0.mk (hbox); have n2_ := Aside0.mk ((by rw [hg]; exact (bZ_ (by repeat (first | (with_reducible first | exact HB.out | apply bA_ | apply bN_ | apply bD_) | exact HB.out))) : w.heap.size ≤ gb242)); have n3_ := Aside0.mk ((by rw [hg]; exact (bZ_ (by repeat (first | (with_reducible first | exact HB.out | apply bA_ | apply bN_ | apply bD_) | exact HB.out))) : w.heap.size ≤ gb242)); clear HB; have HB := n0_; have BK242 := n1_; have GW242 := n2_; have GE242 := n3_; clear n0_ n1_ n2_ n3_; clear hb hbox hg; have hcz8_0 : w7.cell? ⟨gb242, 0, none⟩ = some (.slice A0_0 l0_0.length c0_0) := (blk_cell BK242.out 0).trans rfl; have hfz8_0 := kF_ BK242.out 0) | ((with_reducible refine gate_callee (f := 87) rfl ?_); refine goesL_ (some 11) rfl rfl Try.func87 (by kernel_rfl) rfl #[.agg #[.slice A0_0 l0_0.length c0_0], .int .i64 a1, .int .i64 a2] rfl (by (try simp only [List.map_toArray, List.map_cons, List.map_nil]); first | done | rfl | (simp only [List.length_drop, List.length_take]; rfl)) ?_; (with_reducible refine (spec_hiGood.calls k _ _ l0_0 a1 a2 true _ ?side1 ?side2 A4.out).mono ?_); (case side1 => repeat (first | exact (Kd.C_below HR0_0.out HB.out) | (with_reducible refine Kd.C_alloc ?_ _) | (with_reducible refine Kd.C_drewN ?_ _) | (with_reducible refine Kd.C_drew ?_))); (case side2 => exact HC0_0.out); rintro e w9 ⟨rfl, hb⟩; refine ⟨_, rfl, ?_⟩; have n0_ := Aside0.mk (blk_below (g := gb242) (o := .cells #[.slice A0_0 l0_0.length c0_0] 30 (0, 0)) (by (with_reducible repeat (first | refine kN_ ?_ _ | refine kD_ ?_ | refine kA_ ?_ _)); exact BK242.out) hb); have n1_ := Aside0.mk (bP_ (by repeat (first | (with_reducible first | exact HB.out | apply bA_ | apply bN_ | apply bD_ | refine bS_ ?_ GE242.out) | exact HB.out)) hb); clear BK242; clear HB; have BK242 := n0_; have HB := n1_; clear n0_ n1_; (try clear hb); (try clear hb2); (try clear hk); (try clear hi); have hcz10_0 : w9.cell? ⟨gb242, 0, none⟩ = some (.slice A0_0 l0_0.length c0_0) := (blk_cell BK242.out 0).trans rfl; have hfz10_0 := kF_ BK242.out 0) | ((with_reducible refine gate_callee (f := 92) rfl ?_); refine goesL_ (some 16) rfl rfl Try.func92 (by kernel_rfl) rfl #[.agg #[.slice A0_0 l0_0.length c0_0], .int .i64 a1, .int .i64 a2] rfl (by (try simp only [List.map_toArray, List.map_cons, List.map_nil]); first | done | rfl | (simp only [List.length_drop, List.length_take]; rfl)) ?_; (with_reducible refine (spec_hiChances.calls k _ _ l0_0 a1 a2 t244 _ ?side1 ?side2 A6.out).mono ?_); (case side1 => repeat (first | exact (Kd.C_below HR0_0.out HB.out) | (with_reducible refine Kd.C_alloc ?_ _) | (with_reducible refine Kd.C_drewN ?_ _) | (with_reducible refine Kd.C_drew ?_))); (case side2 => exact HC0_0.out); rintro e w11 ⟨v245, rfl, ho0, hb⟩; refine ⟨_, rfl, ?_⟩; have n0_ := Aside0.mk (Kd.R_lower ho0 (bZ_ (by repeat (first | (with_reducible first | exact HB.out | apply bA_ | apply bN_ | apply bD_ | refine bS_ ?_ GE242.out) | exact HB.out)))); have n1_ := Aside0.mk (blk_below (g := gb242) (o := .cells #[.slice A0_0 l0_0.length c0_0] 30 (0, 0)) (by (with_reducible repeat (first | refine kN_ ?_ _ | refine kD_ ?_ | refine kA_ ?_ _)); exact BK242.out) hb); have n2_ := Aside0.mk (bP_ (by repeat (first | (with_reducible first | exact HB.out | apply bA_ | apply bN_ | apply bD_ | refine bS_ ?_ GE242.out) | exact HB.out)) hb); clear BK242; clear HB; have HO246 := n0_; have BK242 := n1_; have HB := n2_; clear n0_ n1_ n2_; (try clear hb); (try clear hb2); (try clear hk); (try clear hi); (try clear ho0)))
  go_ret2
  exact ⟨_, by first | rfl | (simp [errW_none, errW_some] <;> rfl) | (simp [*, errW_none, errW_some] <;> rfl), by (with_reducible repeat (first | apply Kd.R_alloc | apply Kd.R_drewN | apply Kd.R_drew)); exact HO246.out, by repeat (first | (with_reducible first | exact HB.out | apply bA_ | apply bN_ | apply bD_ | refine bS_ ?_ GE242.out) | exact HB.out)⟩
 ·replace c5 := Bool.eq_false_iff.mpr c5
  subst c5
  have H1 : (some (([] : List (S27)), false)) = some (r1, r2) := by rw [if_neg (show ¬ (false = true) by decide)] at H; exact H
  clear H
  have H := H1
  clear H1
  simp only [Option.some.injEq, Prod.mk.injEq] at H
  obtain ⟨rfl, rfl⟩ := H
  go_enter Try.func46, Try.ntmps46
  go_wp2_with (first | ((with_reducible refine gate_dst (N := 3) rfl ?_); refine box_event ?hg (N := 3) ?hd (cs := #[.slice A0_0 l0_0.length c0_0]) (t := 30) ?hr ?_; (case hd => rfl); (case hg => rfl); (case hr => first | (go_simp; done) | (go_simp; rfl)); intro gb242 hg w12 hbox hb; have n0_ := Aside0.mk (bP_ (by repeat (first | (with_reducible first | exact HB.out | apply bA_ | apply bN_ | apply bD_) | exact HB.out)) hb); have n1_ := Aside0.mk (hbox); have n2_ := Aside0.mk ((by rw [hg]; exact (bZ_ (by repeat (first | (with_reducible first | exact HB.out | apply bA_ | apply bN_ | apply bD_) | exact HB.out))) : w.heap.size ≤ gb242)); have n3_ := Aside0.mk ((by rw [hg]; exact (bZ_ (by repeat (first | (with_reducible first | exact HB.out | apply bA_ | apply bN_ | apply bD_) | exact HB.out))) : w.heap.size ≤ gb242)); clear HB; have HB := n0_; have BK242 := n1_; have GW242 := n2_; have GE242 := n3_; clear n0_ n1_ n2_ n3_; clear hb hbox hg; have hcz13_0 : w12.cell? ⟨gb242, 0, none⟩ = some (.slice A0_0 l0_0.length c0_0) := (blk_cell BK242.out 0).trans rfl; have hfz13_0 := kF_ BK242.out 0) | ((with_reducible refine gate_callee (f := 87) rfl ?_); refine goesL_ (some 11) rfl rfl Try.func87 (by kernel_rfl) rfl #[.agg #[.slice A0_0 l0_0.length c0_0], .int .i64 a1, .int .i64 a2] rfl (by (try simp only [List.map_toArray, List.map_cons, List.map_nil]); first | done | rfl | (simp only [List.length_drop, List.length_take]; rfl)) ?_; (with_reducible refine (spec_hiGood.calls k _ _ l0_0 a1 a2 false _ ?side1 ?side2 A4.out).mono ?_); (case side1 => repeat (first | exact (Kd.C_below HR0_0.out HB.out) | (with_reducible refine Kd.C_alloc ?_ _) | (with_reducible refine Kd.C_drewN ?_ _) | (with_reducible refine Kd.C_drew ?_))); (case side2 => exact HC0_0.out); rintro e w14 ⟨rfl, hb⟩; refine ⟨_, rfl, ?_⟩; have n0_ := Aside0.mk (blk_below (g := gb242) (o := .cells #[.slice A0_0 l0_0.length c0_0] 30 (0, 0)) (by (with_reducible repeat (first | refine kN_ ?_ _ | refine kD_ ?_ | refine kA_ ?_ _)); exact BK242.out) hb); have n1_ := Aside0.mk (bP_ (by repeat (first | (with_reducible first | exact HB.out | apply bA_ | apply bN_ | apply bD_ | refine bS_ ?_ GE242.out) | exact HB.out)) hb); clear BK242; clear HB; have BK242 := n0_; have HB := n1_; clear n0_ n1_; (try clear hb); (try clear hb2); (try clear hk); (try clear hi)))
  go_ret2
  exact ⟨_, by first | rfl | (simp [errW_none, errW_some] <;> rfl) | (simp [*, errW_none, errW_some] <;> rfl), by first | exact Kd.R_nil _ _ _ _ _ | exact Kd.N_nil _ _ _ _ _ | exact Kd.V_nil _ _ _ _ _ | exact Kd.Q_nil _ _ _ _ _ | exact Kd.S_nil _ _ _ _ _, by repeat (first | (with_reducible first | exact HB.out | apply bA_ | apply bN_ | apply bD_ | refine bS_ ?_ GE242.out) | exact HB.out)⟩
end Go.Proofs.Ytnbnalbomflafaa.GT
namespace Go.Proofs.Ytnbnalbomflafaa.DT
open Go.RowKit YtnbnalbomflafaaW.PrintWords YtnbnalbomflafaaW.PrintLast YtnbnalbomflafaaW.PrintMore
open GA hiding info37
open GR hiding rd_L1 at_L1 S27 z27 rd_T27
open RA
structure Eqs (l : List (List Int)) (own : Int → Int) (atA a b : Int) : Prop where
 m6 : (innerL l a b).length ≤ 6
 sq : Sq (innerL l a b).length (matM l a b)
 bM : ∀ r c, r < (innerL l a b).length → c < (innerL l a b).length → (matF (matM l a b) r c).natAbs ≤ 5
 lR : (rightL l own atA 0 a b (innerL l a b)).length = (innerL l a b).length
 bR : ∀ r : Nat, r < (innerL l a b).length → (rd (rightL l own atA 0 a b (innerL l a b)) (r : Int)).natAbs ≤ 5
theorem eqs_of {l : List (List Int)} {own : Int → Int} {atA a b : Int} (h : goodB l a b = true) (hS : ∀ p : Int, 0 ≤ p → p < l.length → ∀ x, x ≤ (rd_L1 l p).length → -5 ≤ sumF own atA 0 a b p (rd_L1 l p) x ∧ sumF own atA 0 a b p (rd_L1 l p) x ≤ 5) : Eqs l own atA a b := by
 obtain ⟨hab, a0, a1, b0, b1, h8, h5, _, _⟩ := good_facts h
 refine ⟨inner_six h8 a0 a1 b0 b1 hab, sq_matM l a b, fun r c hr hc => matM_bound h5 hr hc, by simp [rightL], fun r hr => ?_⟩
 rw [rightL_at l own atA 0 a b _ hr]
 have hm := inner_mem (l := l) (a := a) (b := b) (p := rd (innerL l a b) (r : Int)) (by rw [rd_at _ r hr]; exact List.getElem_mem _)
 have := hS _ hm.1 hm.2.1 _ (Nat.le_refl _)
 omega
theorem eqs_solve {l : List (List Int)} {own : Int → Int} {atA a b : Int} (h : Eqs l own atA a b) (k : Nat) (hk : 300 ≤ k) : spec_hiSolve.f k (matM l a b) (rightL l own atA 0 a b (innerL l a b)) = some (numsL (innerL l a b).length (matM l a b) (rightL l own atA 0 a b (innerL l a b)), denOf l a b) := solve_f h.m6 h.sq h.lR h.bM h.bR k hk
theorem nums_at (l : List (List Int)) (own : Int → Int) (atA a b : Int) {j : Nat} (hj : j < (innerL l a b).length) : rd (numsL (innerL l a b).length (matM l a b) (rightL l own atA 0 a b (innerL l a b))) (j : Int) = numOf l own atA 0 a b j := by
 rw [rd_at _ j (by simpa [numsL] using hj)]
 simp [numsL, numOf]
theorem num_bound {l : List (List Int)} {own : Int → Int} {atA a b : Int} (h : Eqs l own atA a b) {j : Nat} (hj : j < (innerL l a b).length) : (numOf l own atA 0 a b j).natAbs ≤ 11250000 := by
 unfold numOf
 refine det_le h.m6 fun r c hr hc => ?_
 rw [colL_at h.sq _ hr hc]
 split
 ·exact h.bR r hr
 ·exact h.bM r c hr hc
theorem den_bound {l : List (List Int)} {own : Int → Int} {atA a b : Int} (h : Eqs l own atA a b) : (denOf l a b).natAbs ≤ 11250000 := det_le h.m6 h.bM
theorem good_graph {l : List (List Int)} {a b : Int} (h : goodB l a b = true) : KA.isGraphB l = true := (KA.place_is ((goodB_is l a b).2 h).1).1
theorem outL_at {l : List (List Int)} {own : Int → Int} {atA a b : Int} {p : Int} (h0 : 0 ≤ p) (h1 : p < l.length) : rd (outL l own atA 0 a b) p = if p = a then atA * denOf l a b else if p = b then 0 * denOf l a b else numOf l own atA 0 a b ((innerL l a b).idxOf p) := by
 obtain ⟨i, rfl⟩ := Int.eq_ofNat_of_zero_le h0
 rw [rd_at _ i (by simp [outL]; omega)]
 simp [outL]
theorem out_bound {l : List (List Int)} {own : Int → Int} {atA a b : Int} (h : Eqs l own atA a b) (hA : -1 ≤ atA ∧ atA ≤ 1) {p : Int} (h0 : 0 ≤ p) (h1 : p < l.length) : (rd (outL l own atA 0 a b) p).natAbs ≤ 11250000 := by
 rw [outL_at h0 h1]
 have hd := den_bound h
 split
 ·rw [Int.natAbs_mul]
  have h2 : atA.natAbs ≤ 1 := by omega
  have := Nat.mul_le_mul h2 hd
  omega
 ·split
  ·simp
  ·rename_i q1 q2
   exact num_bound h (List.idxOf_lt_length_iff.2 (mem_inner h0 h1 q1 q2))
end Go.Proofs.Ytnbnalbomflafaa.DT
namespace Go.Proofs.Ytnbnalbomflafaa.HA
open Go.RowKit YtnbnalbomflafaaW.PrintWords YtnbnalbomflafaaW.PrintLast YtnbnalbomflafaaW.PrintMore
open GA KA
attribute [local go_sem] max2_int min2_int max_two min_two max_three min_three max_four min_four
def errW : Option Int → Value
 | none => .nilIface
 | some c => .iface 0 (.int .i64 c)
theorem errW_none : errW none = .nilIface := rfl
theorem errW_some (c : Int) : errW (some c) = .iface 0 (.int .i64 c) := rfl
end Go.Proofs.Ytnbnalbomflafaa.HA
namespace Go.Proofs.Ytnbnalbomflafaa.GU
open Go.RowKit YtnbnalbomflafaaW.PrintWords YtnbnalbomflafaaW.PrintLast YtnbnalbomflafaaW.PrintMore
open GA
attribute [local go_sem] max2_int min2_int max_two min_two max_three min_three max_four min_four
def errW : Option Int → Value
 | none => .nilIface
 | some c => .iface 0 (.int .i64 c)
theorem errW_none : errW none = .nilIface := rfl
theorem errW_some (c : Int) : errW (some c) = .iface 0 (.int .i64 c) := rfl
end Go.Proofs.Ytnbnalbomflafaa.GU
namespace Go.Proofs.Ytnbnalbomflafaa.GV
open Go.RowKit YtnbnalbomflafaaW.PrintWords YtnbnalbomflafaaW.PrintLast YtnbnalbomflafaaW.PrintMore
open GA KA GU HA DT
attribute [local go_sem] max2_int min2_int max_two min_two max_three min_three max_four min_four
def errW : Option Int → Value
 | none => .nilIface
 | some c => .iface 0 (.int .i64 c)
theorem errW_none : errW none = .nilIface := rfl
theorem errW_some (c : Int) : errW (some c) = .iface 0 (.int .i64 c) := rfl
theorem info27 : (Try.prog.info? 27).map (fun i => (i.zero, i.size, i.bytes)) = some (some (.agg #[(.int .i64 0), (.int .i64 0)]), 2, 16) := by kernel_rfl
structure S27 where
 f0 : Int
 f1 : Int
def k27 : Kd S27 := Kd.iso (Kd.pair (Kd.int .i64) (Kd.int .i64)) (fun x : S27 => (x.f0, x.f1))
theorem k27_openM {w : World} {base : Nat} {ok : Nat → Prop} {x : S27} {cs : List Value} (h : k27.M w base ok x cs) : cs = [.int .i64 x.f0, .int .i64 x.f1] := by
 obtain ⟨_, _, rfl, rfl, rfl⟩ := h
 exact rfl
theorem k27_mkM (w : World) (base : Nat) (ok : Nat → Prop) (x : S27)  : k27.M w base ok x [.int .i64 x.f0, .int .i64 x.f1] := ⟨[.int .i64 x.f0], [.int .i64 x.f1], rfl, rfl, rfl⟩
end Go.Proofs.Ytnbnalbomflafaa.GV
namespace Go.Proofs.Ytnbnalbomflafaa.GV
open Go.RowKit YtnbnalbomflafaaW.PrintWords YtnbnalbomflafaaW.PrintLast YtnbnalbomflafaaW.PrintMore
open GA KA GU HA DT
attribute [local go_sem] max2_int min2_int max_two min_two max_three min_three max_four min_four
noncomputable def impl_ChancesOf.l0 : Nat → List (S27) → Int → List Int → Int → Int → Option ((List (S27)) × Bool)
 | 0, _, _, _, _, _ => none
 | k + 1, x8, x10, x26, x27, x28 => if x28 < x27 then (if 0 ≤ x28 then (if x28 < (x26.length : Int) then ((impl_ratio.f k (rd x26 x28) x10).bind fun bt138 => (if x8.length < 8796093022208 then (impl_ChancesOf.l0 k (x8 ++ [(⟨bt138.1, bt138.2⟩ : S27)]) x10 x26 x27 (wrap64 (x28 + 1))) else (none))) else (none)) else (none)) else (some (x8, true))
noncomputable def impl_ChancesOf.f (k : Nat) (l0_0 : List (List Int)) (a1 : Int) (a2 : Int) : Option ((List (S27)) × Bool) := (impl_goodEnd.f l0_0 a1 a2).bind fun t129 => (if t129 = true then ((impl_chances.f l0_0 a1 a2).bind fun bt133 => (impl_ChancesOf.l0 k (([] : List (S27))) bt133.2 bt133.1 (bt133.1.length : Int) 0)) else (some (([] : List (S27)), false)))
set_option maxHeartbeats 8000000 in
set_option maxRecDepth 100000 in
theorem impl_ChancesOf.calls (k : Nat) (A0_0 : Option Addr) (c0_0 : Nat) (l0_0 : List (List Int)) (a1 : Int) (a2 : Int) (r1 : List (S27)) (r2 : Bool) (w : World) (hr0_0 : Kd.C (Kd.slice 3 (Kd.int .i64)) w A0_0 l0_0.length l0_0) (hc0_0 : l0_0.length ≤ c0_0) (h : impl_ChancesOf.f k l0_0 a1 a2 = some (r1, r2)) :
  Calls Try.prog 47 #[.agg #[.slice A0_0 l0_0.length c0_0], .int .i64 a1, .int .i64 a2] w fun e w' => ∃ v0_ : Value, e = .returned (.tuple #[v0_, .bool r2]) ∧ Kd.R k27 27 w' w.heap.size (fun _ => True) v0_ r1 ∧ Below w.heap.size w w' := by
 have hu30 := Try.underlying30
 have HR0_0 := Aside0.mk hr0_0
 have HC0_0 := Aside0.mk hc0_0
 clear hr0_0 hc0_0
 have HB := Aside0.mk (Below.refl w.heap.size w)
 have H : ((impl_goodEnd.f l0_0 a1 a2).bind fun t129 => (if t129 = true then ((impl_chances.f l0_0 a1 a2).bind fun bt133 => (impl_ChancesOf.l0 k (([] : List (S27))) bt133.2 bt133.1 (bt133.1.length : Int) 0)) else (some (([] : List (S27)), false)))) = some (r1, r2) := h
 clear h
 replace H := Option.bind_eq_some_iff.mp H
 obtain ⟨t129, A40, H⟩ := H
 replace H : (if t129 = true then ((impl_chances.f l0_0 a1 a2).bind fun bt133 => (impl_ChancesOf.l0 k (([] : List (S27))) bt133.2 bt133.1 (bt133.1.length : Int) 0)) else (some (([] : List (S27)), false))) = some (r1, r2) := H
 have A4 := Aside0.mk A40
 clear A40
 by_cases c5 : t129 = true
 ·subst c5
  have H1 : ((impl_chances.f l0_0 a1 a2).bind fun bt133 => (impl_ChancesOf.l0 k (([] : List (S27))) bt133.2 bt133.1 (bt133.1.length : Int) 0)) = some (r1, r2) := by rw [if_pos rfl] at H; exact H
  clear H
  have H := H1
  clear H1
  obtain ⟨y130, hy130⟩ : ∃ y_ : List (S27), y_ = (([] : List (S27))) := ⟨_, rfl⟩
  replace H : ((impl_chances.f l0_0 a1 a2).bind fun bt133 => (impl_ChancesOf.l0 k y130 bt133.2 bt133.1 (bt133.1.length : Int) 0)) = some (r1, r2) := by first | (rw [hy130]; with_reducible exact H) | (have H2_ := (Option.bind_some _ _).symm.trans H; rw [hy130]; with_reducible exact H2_) | (have H2_ := (Option.bind_some _ _).symm.trans H; with_reducible exact H2_) | with_reducible exact H | (rw [hy130]; exact H) | exact H
  have Ny130 := Aside0.mk hy130
  clear hy130
  replace H := Option.bind_eq_some_iff.mp H
  obtain ⟨⟨t133, t136⟩, A60, H⟩ := H
  replace H : (impl_ChancesOf.l0 k y130 t136 t133 (t133.length : Int) 0) = some (r1, r2) := H
  have A6 := Aside0.mk A60
  clear A60
  have H' := Aside0.mk H
  clear H
  go_enter Try.func47, Try.ntmps47
  go_wp2_with (first | ((with_reducible refine gate_dst (N := 3) rfl ?_); refine box_event ?hg (N := 3) ?hd (cs := #[.slice A0_0 l0_0.length c0_0]) (t := 30) ?hr ?_; (case hd => rfl); (case hg => rfl); (case hr => first | (go_simp; done) | (go_simp; rfl)); intro gb128 hg w7 hbox hb; have n0_ := Aside0.mk (bP_ (by repeat (first | (with_reducible first | exact HB.out | apply bA_ | apply bN_ | apply bD_) | exact HB.out)) hb); have n1_ := Aside0.mk (hbox); have n2_ := Aside0.mk ((by rw [hg]; exact (bZ_ (by repeat (first | (with_reducible first | exact HB.out | apply bA_ | apply bN_ | apply bD_) | exact HB.out))) : w.heap.size ≤ gb128)); have n3_ := Aside0.mk ((by rw [hg]; exact (bZ_ (by repeat (first | (with_reducible first | exact HB.out | apply bA_ | apply bN_ | apply bD_) | exact HB.out))) : w.heap.size ≤ gb128)); clear HB; have HB := n0_; have BK128 := n1_; have GW128 := n2_; have GE128 := n3_; clear n0_ n1_ n2_ n3_; clear hb hbox hg; have hcz8_0 : w7.cell? ⟨gb128, 0, none⟩ = some (.slice A0_0 l0_0.length c0_0) := (blk_cell BK128.out 0).trans rfl; have hfz8_0 := kF_ BK128.out 0) | ((with_reducible refine gate_callee (f := 81) rfl ?_); refine goesL_ (some 16) rfl rfl Try.func81 (by kernel_rfl) rfl #[.agg #[.slice A0_0 l0_0.length c0_0], .int .i64 a1, .int .i64 a2] rfl (by (try simp only [List.map_toArray, List.map_cons, List.map_nil]); first | done | rfl | (simp only [List.length_drop, List.length_take]; rfl)) ?_; (with_reducible refine (impl_goodEnd.calls _ _ l0_0 a1 a2 true _ ?side1 ?side2 A4.out).mono ?_); (case side1 => repeat (first | exact (Kd.C_below HR0_0.out HB.out) | (with_reducible refine Kd.C_alloc ?_ _) | (with_reducible refine Kd.C_drewN ?_ _) | (with_reducible refine Kd.C_drew ?_))); (case side2 => exact HC0_0.out); rintro e w9 ⟨rfl, hb⟩; refine ⟨_, rfl, ?_⟩; have n0_ := Aside0.mk (blk_below (g := gb128) (o := .cells #[.slice A0_0 l0_0.length c0_0] 30 (0, 0)) (by (with_reducible repeat (first | refine kN_ ?_ _ | refine kD_ ?_ | refine kA_ ?_ _)); exact BK128.out) hb); have n1_ := Aside0.mk (bP_ (by repeat (first | (with_reducible first | exact HB.out | apply bA_ | apply bN_ | apply bD_ | refine bS_ ?_ GE128.out) | exact HB.out)) hb); clear BK128; clear HB; have BK128 := n0_; have HB := n1_; clear n0_ n1_; (try clear hb); (try clear hb2); (try clear hk); (try clear hi)) | ((with_reducible refine gate_dst (N := 18) rfl ?_); refine Kd.R_lit k27 _ 27 ?hg (N := 18) ?hd (xs := ([] : List (S27))) (inner := []) (ok := fun _ => True) (okp := fun _ => True) ?hr ?hp (fun _ hk => hk) trivial (Below.refl _ _) (Nat.le_refl _) (by simp) ?_; (case hd => rfl); (case hg => rfl); (case hr => first | (go_simp; done) | (go_simp; rfl)); (case hp => exact (Reps.none _ _)); intro v131 w10 ho11 hb hg_ hnew_; clear hg_ hnew_; (first | rw [← Ny130.out] at ho11 | (simp only [Int.reduceToNat] at ho11; rw [← Ny130.out] at ho11)); have n0_ := Aside0.mk (Kd.R_lower ho11 (bZ_ (by repeat (first | (with_reducible first | exact HB.out | apply bA_ | apply bN_ | apply bD_ | refine bS_ ?_ GE128.out) | exact HB.out)))); have n1_ := Aside0.mk (blk_below (g := gb128) (o := .cells #[.slice A0_0 l0_0.length c0_0] 30 (0, 0)) (by (with_reducible repeat (first | refine kN_ ?_ _ | refine kD_ ?_ | refine kA_ ?_ _)); exact BK128.out) hb); have n2_ := Aside0.mk (bP_ (by repeat (first | (with_reducible first | exact HB.out | apply bA_ | apply bN_ | apply bD_ | refine bS_ ?_ GE128.out) | exact HB.out)) hb); clear BK128; clear HB; have HO132 := n0_; have BK128 := n1_; have HB := n2_; clear n0_ n1_ n2_; clear hb ho11; have hcz12_0 : w10.cell? ⟨gb128, 0, none⟩ = some (.slice A0_0 l0_0.length c0_0) := (blk_cell BK128.out 0).trans rfl; have hfz12_0 := kF_ BK128.out 0) | ((with_reducible refine gate_callee (f := 93) rfl ?_); refine goesL_ (some 23) rfl rfl Try.func93 (by kernel_rfl) rfl #[.agg #[.slice A0_0 l0_0.length c0_0], .int .i64 a1, .int .i64 a2] rfl (by (try simp only [List.map_toArray, List.map_cons, List.map_nil]); first | done | rfl | (simp only [List.length_drop, List.length_take]; rfl)) ?_; (with_reducible refine (impl_chances.calls _ _ l0_0 a1 a2 t133 t136 _ ?side1 ?side2 A6.out).mono ?_); (case side1 => repeat (first | exact (Kd.C_below HR0_0.out HB.out) | (with_reducible refine Kd.C_alloc ?_ _) | (with_reducible refine Kd.C_drewN ?_ _) | (with_reducible refine Kd.C_drew ?_))); (case side2 => exact HC0_0.out); rintro e w13 ⟨v134, rfl, ho0, hb⟩; refine ⟨_, rfl, ?_⟩; have n0_ := Aside0.mk (Kd.R_below (by (with_reducible repeat (first | apply Kd.R_alloc | apply Kd.R_drewN | apply Kd.R_drew)); exact HO132.out) hb); have n1_ := Aside0.mk (Kd.R_lower ho0 (bZ_ (by repeat (first | (with_reducible first | exact HB.out | apply bA_ | apply bN_ | apply bD_ | refine bS_ ?_ GE128.out) | exact HB.out)))); have n2_ := Aside0.mk (blk_below (g := gb128) (o := .cells #[.slice A0_0 l0_0.length c0_0] 30 (0, 0)) (by (with_reducible repeat (first | refine kN_ ?_ _ | refine kD_ ?_ | refine kA_ ?_ _)); exact BK128.out) hb); have n3_ := Aside0.mk (bP_ (by repeat (first | (with_reducible first | exact HB.out | apply bA_ | apply bN_ | apply bD_ | refine bS_ ?_ GE128.out) | exact HB.out)) hb); clear HO132; clear BK128; clear HB; have HO132 := n0_; have HO135 := n1_; have BK128 := n2_; have HB := n3_; clear n0_ n1_ n2_ n3_; (try clear hb); (try clear hb2); (try clear hk); (try clear hi); (try clear ho0); obtain ⟨Ao14, co14, eo14⟩ := Kd.R_slice HO135.out; subst eo14))
  go_loopg [8, 28] k (fun kq v8 v28 w' => ∃ (x8_1 : List (S27)) (x28_1 : Int), v28 = .int .i64 x28_1 ∧ Aside0 (impl_ChancesOf.l0 kq x8_1 t136 t133 (t133.length : Int) x28_1 = some (r1, r2)) ∧ Aside0 (kq ≤ k) ∧ Aside0 (Kd.R k27 27 w' w.heap.size (fun _ => True) v8 x8_1) ∧ Aside0 (Kd.R (Kd.int .i64) 3 w' w.heap.size (fun _ => True) (.slice Ao14 t133.length co14) t133) ∧ Aside0 (w'.heap[gb128]? = some (.cells #[(.slice A0_0 l0_0.length c0_0)] 30 (0, 0))) ∧ Aside0 (Below w.heap.size w w'))
  case atStart => exact ⟨(y130), (0), (by first | rfl | (simp; done) | (simp [*]; done)), H', ⟨Nat.le_refl _⟩, ⟨by (with_reducible repeat (first | apply Kd.R_alloc | apply Kd.R_drewN | apply Kd.R_drew)); exact HO132.out⟩, ⟨by (with_reducible repeat (first | apply Kd.R_alloc | apply Kd.R_drewN | apply Kd.R_drew)); exact HO135.out⟩, ⟨by (with_reducible repeat (first | refine kN_ ?_ _ | refine kD_ ?_ | refine kA_ ?_ _)); exact BK128.out⟩, ⟨by repeat (first | (with_reducible first | exact HB.out | apply bA_ | apply bN_ | apply bD_ | refine bS_ ?_ GE128.out) | exact HB.out)⟩⟩
  case round =>
   clear H'
   try clear p2
   try clear c4
   try clear c5
   try clear c8
   try clear c9
   try clear hcz12_0
   try clear hcz8_0
   try clear hfz12_0
   try clear hfz8_0
   obtain ⟨x8_1, x28_1, rfl, HA, HK1, HO_8, HO_26, BK128, HB⟩ := hrel
   cases gk with
   | zero => exact absurd HA.out (by simp [impl_ChancesOf.l0])
   | succ k1 =>
    have H := HA.out
    clear HA
    simp only [impl_ChancesOf.l0] at H
    by_cases c15 : x28_1 < (t133.length : Int)
    ·rw [if_pos c15] at H
     have c15b0 : decide (x28_1 < (t133.length : Int)) = true := decide_eq_true c15
     clear c15
     by_cases c16 : 0 ≤ x28_1
     ·rw [if_pos c16] at H
      have c16b0 : decide (0 ≤ x28_1) = true := decide_eq_true c16
      clear c16
      by_cases c17 : x28_1 < (t133.length : Int)
      ·rw [if_pos c17] at H
       have c17b0 : decide (x28_1 < (t133.length : Int)) = true := decide_eq_true c17
       clear c17
       replace H := Option.bind_eq_some_iff.mp H
       obtain ⟨⟨t138, t139⟩, A180, H⟩ := H
       replace H : (if x8_1.length < 8796093022208 then (impl_ChancesOf.l0 k1 (x8_1 ++ [(⟨t138, t139⟩ : S27)]) t136 t133 (t133.length : Int) (wrap64 (x28_1 + 1))) else (none)) = some (r1, r2) := H
       have A18 := Aside0.mk A180
       clear A180
       by_cases c19 : x8_1.length < 8796093022208
       ·rw [if_pos c19] at H
        have LMc19 := Aside0.mk c19
        clear c19
        obtain ⟨y140, hy140⟩ : ∃ y_ : List (S27), y_ = (x8_1 ++ [(⟨t138, t139⟩ : S27)]) := ⟨_, rfl⟩
        replace H : (impl_ChancesOf.l0 k1 y140 t136 t133 (t133.length : Int) (wrap64 (x28_1 + 1))) = some (r1, r2) := by first | (rw [hy140]; with_reducible exact H) | (have H2_ := (Option.bind_some _ _).symm.trans H; rw [hy140]; with_reducible exact H2_) | (have H2_ := (Option.bind_some _ _).symm.trans H; with_reducible exact H2_) | with_reducible exact H | (rw [hy140]; exact H) | exact H
        have Ny140 := Aside0.mk hy140
        clear hy140
        have H' := Aside0.mk H
        clear H
        have p137 : 0 ≤ (x28_1 : Int) := of_decide_eq_true (by first | (with_reducible assumption) | assumption)
        have q137 : x28_1 < (t133.length : Int) := of_decide_eq_true (by first | (with_reducible assumption) | assumption)
        obtain ⟨ad137, e137, hx137_0⟩ := Kd.at_int (Kd.R_reads' HO_26.out).2.2 x28_1 p137 q137
        cases e137
        replace p137 := eq_true p137
        replace q137 := eq_true q137
        go_wp2_with (first | ((with_reducible refine gate_callee (f := 78) rfl ?_); refine goesL_ (some 35) rfl rfl Try.func78 (by kernel_rfl) rfl #[.int .i64 (rd t133 x28_1), .int .i64 t136] rfl (by (try simp only [List.map_toArray, List.map_cons, List.map_nil]); first | done | rfl | (simp only [List.length_drop, List.length_take]; rfl)) ?_; (with_reducible refine (impl_ratio.calls k1 (rd t133 x28_1) t136 t138 t139 _ A18.out).mono ?_); rintro e w20 ⟨rfl, hb⟩; refine ⟨_, rfl, ?_⟩; have n0_ := Aside0.mk (Kd.R_below (by (with_reducible repeat (first | apply Kd.R_alloc | apply Kd.R_drewN | apply Kd.R_drew)); exact HO_8.out) hb); have n1_ := Aside0.mk (Kd.R_below (by (with_reducible repeat (first | apply Kd.R_alloc | apply Kd.R_drewN | apply Kd.R_drew)); exact HO_26.out) hb); have n2_ := Aside0.mk (blk_below (g := gb128) (o := .cells #[.slice A0_0 l0_0.length c0_0] 30 (0, 0)) (by (with_reducible repeat (first | refine kN_ ?_ _ | refine kD_ ?_ | refine kA_ ?_ _)); exact BK128.out) hb); have n3_ := Aside0.mk (bP_ (by repeat (first | (with_reducible first | exact HB.out | apply bA_ | apply bN_ | apply bD_ | refine bS_ ?_ GE128.out) | exact HB.out)) hb); clear HO_8; clear HO_26; clear BK128; clear HB; have HO_8 := n0_; have HO_26 := n1_; have BK128 := n2_; have HB := n3_; clear n0_ n1_ n2_ n3_; (try clear hb); (try clear hb2); (try clear hk); (try clear hi)) | ((with_reducible refine gate_builtin (b := .append) (xs := #[.tmp 32, .tmp 36]) rfl ?_); at_builtin; refine Kd.R_append k27 (w0 := w) w.heap.size rfl (.tmp 32) (.tmp 36) 49 27 (.agg #[(.int .i64 0), (.int .i64 0)]) 16 rfl Try.underlying49 info27 rfl (by decide) (by omega) u8 x8_1 (⟨t138, t139⟩ : S27) [.int .i64 t138, .int .i64 t139] (fun _ => True) (fun _ => False) rfl rfl ?aP (fun _ hk => hk.elim) ?aF ?aO ?aB ?aS ?aL ?_; (case aP => exact k27_mkM _ _ _ (⟨t138, t139⟩ : S27)); (case aB => exact (by repeat (first | (with_reducible first | exact HB.out | apply bA_ | apply bN_ | apply bD_ | refine bS_ ?_ GE128.out) | exact HB.out))); (case aF => exact (fun _ _ => trivial)); (case aO => exact (by (with_reducible repeat (first | apply Kd.R_alloc | apply Kd.R_drewN | apply Kd.R_drew)); exact HO_8.out)); (case aS => exact (bZ_ (by repeat (first | (with_reducible first | exact HB.out | apply bA_ | apply bN_ | apply bD_ | refine bS_ ?_ GE128.out) | exact HB.out)))); (case aL => have := LMc19.out; omega); intro v141 w21 ho hb hg hat; rw [← Ny140.out] at ho; have n0_ := Aside0.mk (Kd.R_over' (by (with_reducible repeat (first | apply Kd.R_alloc | apply Kd.R_drewN | apply Kd.R_drew)); exact HO_26.out) (Kd.R_typed (by (with_reducible repeat (first | apply Kd.R_alloc | apply Kd.R_drewN | apply Kd.R_drew)); exact HO_8.out)) (by decide) hg); have n1_ := Aside0.mk (blk_grown (g := gb128) (o := .cells #[.slice A0_0 l0_0.length c0_0] 30 (0, 0)) (by (with_reducible repeat (first | refine kN_ ?_ _ | refine kD_ ?_ | refine kA_ ?_ _)); exact BK128.out) hg (Kd.R_ne HO_8.out BK128.out (by decide))); have n2_ := Aside0.mk (hb); have n3_ := Aside0.mk (ho); clear HO_26; clear BK128; clear HB; clear HO_8; have HO_26 := n0_; have BK128 := n1_; have HB := n2_; have HO142 := n3_; clear n0_ n1_ n2_ n3_; clear ho hb hg hat))
        go_roundg k1
        case measure => have := HK1.out; omega
        case rel => exact ⟨(y140), (wrap64 (x28_1 + 1)), (by first | rfl | (simp; done) | (simp [*]; done)), H', ⟨by have := HK1.out; omega⟩, ⟨by (with_reducible repeat (first | apply Kd.R_alloc | apply Kd.R_drewN | apply Kd.R_drew)); exact HO142.out⟩, ⟨by (with_reducible repeat (first | apply Kd.R_alloc | apply Kd.R_drewN | apply Kd.R_drew)); exact HO_26.out⟩, ⟨by (with_reducible repeat (first | refine kN_ ?_ _ | refine kD_ ?_ | refine kA_ ?_ _)); exact BK128.out⟩, ⟨by repeat (first | (with_reducible first | exact HB.out | apply bA_ | apply bN_ | apply bD_ | refine bS_ ?_ GE128.out) | exact HB.out)⟩⟩
       ·rw [if_neg c19] at H
        exact absurd H (by simp)
      ·rw [if_neg c17] at H
       exact absurd H (by simp)
     ·rw [if_neg c16] at H
      exact absurd H (by simp)
    ·rw [if_neg c15] at H
     have c15b0 : decide (x28_1 < (t133.length : Int)) = false := decide_eq_false c15
     clear c15
     simp only [Option.some.injEq, Prod.mk.injEq] at H
     obtain ⟨rfl, rfl⟩ := H
     go_wp2
     go_ret2
     exact ⟨_, by first | rfl | (simp [errW_none, errW_some] <;> rfl) | (simp [*, errW_none, errW_some] <;> rfl), by (with_reducible repeat (first | apply Kd.R_alloc | apply Kd.R_drewN | apply Kd.R_drew)); exact HO_8.out, by repeat (first | (with_reducible first | exact HB.out | apply bA_ | apply bN_ | apply bD_ | refine bS_ ?_ GE128.out) | exact HB.out)⟩
 ·replace c5 := Bool.eq_false_iff.mpr c5
  subst c5
  have H1 : (some (([] : List (S27)), false)) = some (r1, r2) := by rw [if_neg (show ¬ (false = true) by decide)] at H; exact H
  clear H
  have H := H1
  clear H1
  simp only [Option.some.injEq, Prod.mk.injEq] at H
  obtain ⟨rfl, rfl⟩ := H
  go_enter Try.func47, Try.ntmps47
  go_wp2_with (first | ((with_reducible refine gate_dst (N := 3) rfl ?_); refine box_event ?hg (N := 3) ?hd (cs := #[.slice A0_0 l0_0.length c0_0]) (t := 30) ?hr ?_; (case hd => rfl); (case hg => rfl); (case hr => first | (go_simp; done) | (go_simp; rfl)); intro gb128 hg w22 hbox hb; have n0_ := Aside0.mk (bP_ (by repeat (first | (with_reducible first | exact HB.out | apply bA_ | apply bN_ | apply bD_) | exact HB.out)) hb); have n1_ := Aside0.mk (hbox); have n2_ := Aside0.mk ((by rw [hg]; exact (bZ_ (by repeat (first | (with_reducible first | exact HB.out | apply bA_ | apply bN_ | apply bD_) | exact HB.out))) : w.heap.size ≤ gb128)); have n3_ := Aside0.mk ((by rw [hg]; exact (bZ_ (by repeat (first | (with_reducible first | exact HB.out | apply bA_ | apply bN_ | apply bD_) | exact HB.out))) : w.heap.size ≤ gb128)); clear HB; have HB := n0_; have BK128 := n1_; have GW128 := n2_; have GE128 := n3_; clear n0_ n1_ n2_ n3_; clear hb hbox hg; have hcz23_0 : w22.cell? ⟨gb128, 0, none⟩ = some (.slice A0_0 l0_0.length c0_0) := (blk_cell BK128.out 0).trans rfl; have hfz23_0 := kF_ BK128.out 0) | ((with_reducible refine gate_callee (f := 81) rfl ?_); refine goesL_ (some 16) rfl rfl Try.func81 (by kernel_rfl) rfl #[.agg #[.slice A0_0 l0_0.length c0_0], .int .i64 a1, .int .i64 a2] rfl (by (try simp only [List.map_toArray, List.map_cons, List.map_nil]); first | done | rfl | (simp only [List.length_drop, List.length_take]; rfl)) ?_; (with_reducible refine (impl_goodEnd.calls _ _ l0_0 a1 a2 false _ ?side1 ?side2 A4.out).mono ?_); (case side1 => repeat (first | exact (Kd.C_below HR0_0.out HB.out) | (with_reducible refine Kd.C_alloc ?_ _) | (with_reducible refine Kd.C_drewN ?_ _) | (with_reducible refine Kd.C_drew ?_))); (case side2 => exact HC0_0.out); rintro e w24 ⟨rfl, hb⟩; refine ⟨_, rfl, ?_⟩; have n0_ := Aside0.mk (blk_below (g := gb128) (o := .cells #[.slice A0_0 l0_0.length c0_0] 30 (0, 0)) (by (with_reducible repeat (first | refine kN_ ?_ _ | refine kD_ ?_ | refine kA_ ?_ _)); exact BK128.out) hb); have n1_ := Aside0.mk (bP_ (by repeat (first | (with_reducible first | exact HB.out | apply bA_ | apply bN_ | apply bD_ | refine bS_ ?_ GE128.out) | exact HB.out)) hb); clear BK128; clear HB; have BK128 := n0_; have HB := n1_; clear n0_ n1_; (try clear hb); (try clear hb2); (try clear hk); (try clear hi)))
  go_ret2
  exact ⟨_, by first | rfl | (simp [errW_none, errW_some] <;> rfl) | (simp [*, errW_none, errW_some] <;> rfl), by first | exact Kd.R_nil _ _ _ _ _ | exact Kd.N_nil _ _ _ _ _ | exact Kd.V_nil _ _ _ _ _ | exact Kd.Q_nil _ _ _ _ _ | exact Kd.S_nil _ _ _ _ _, by repeat (first | (with_reducible first | exact HB.out | apply bA_ | apply bN_ | apply bD_ | refine bS_ ?_ GE128.out) | exact HB.out)⟩
end Go.Proofs.Ytnbnalbomflafaa.GV
namespace Go.Proofs.Ytnbnalbomflafaa.DT
open Go.RowKit YtnbnalbomflafaaW.PrintWords YtnbnalbomflafaaW.PrintLast YtnbnalbomflafaaW.PrintMore
open GA hiding info37
open GR hiding rd_L1 at_L1 S27 z27 rd_T27
open RA
def zeroOwn : Int → Int := fun _ => 0
theorem chance_right (l : List (List Int)) (a b : Int) : rightL l zeroOwn 1 0 a b (innerL l a b) = (innerL l a b).map fun p => (cntL a (rd_L1 l p) : Int) := by
 unfold rightL
 refine List.map_congr_left fun p _ => ?_
 simp only [sumF, zeroOwn]
 rw [List.take_of_length_le (Nat.le_refl _)]
 omega
structure RatK (l : List (List Int)) (a b : Int) (K : Nat) (x : List GT.S27) : Prop where
 len : x.length = l.length
 atA : GT.rd_T27 x a = ⟨1, 1⟩
 atB : GT.rd_T27 x b = ⟨0, 1⟩
 at_ : ∀ k : Nat, k < K → GT.rd_T27 x (rd (innerL l a b) (k : Int)) = ⟨(ratV (numOf l zeroOwn 1 0 a b k) (denOf l a b)).1, (ratV (numOf l zeroOwn 1 0 a b k) (denOf l a b)).2⟩
theorem rdT_same {x : List GT.S27} {q : Int} (y : GT.S27) (h0 : 0 ≤ q) (h1 : q < x.length) : GT.rd_T27 (x.set q.toNat y) q = y := by
 unfold GT.rd_T27
 rw [List.getD_eq_getElem?_getD, List.getElem?_set_self (by omega)]
 rfl
theorem rdT_other {x : List GT.S27} {q v : Int} (y : GT.S27) (h0 : 0 ≤ q) (h1 : 0 ≤ v) (hne : v ≠ q) : GT.rd_T27 (x.set q.toNat y) v = GT.rd_T27 x v := by
 unfold GT.rd_T27
 rw [List.getD_eq_getElem?_getD, List.getElem?_set_ne (by omega), ← List.getD_eq_getElem?_getD]
theorem ratK_start {l : List (List Int)} {a b : Int} (a0 : 0 ≤ a) (a1 : a < l.length) (b0 : 0 ≤ b) (b1 : b < l.length) (hab : a ≠ b) : RatK l a b 0 (((List.replicate l.length GT.z27).set a.toNat ⟨1, 1⟩).set b.toNat ⟨0, 1⟩) :=
 ⟨by simp, by rw [rdT_other _ b0 a0 hab, rdT_same _ a0 (by simpa using a1)], by rw [rdT_same _ b0 (by simpa using b1)], fun k hk => by omega⟩
theorem ratK_more {l : List (List Int)} {a b : Int} {K : Nat} {x : List GT.S27} (h : RatK l a b K x) (hK : K < (innerL l a b).length) (a0 : 0 ≤ a) (b0 : 0 ≤ b) : RatK l a b (K + 1) (x.set (rd (innerL l a b) (K : Int)).toNat ⟨(ratV (numOf l zeroOwn 1 0 a b K) (denOf l a b)).1, (ratV (numOf l zeroOwn 1 0 a b K) (denOf l a b)).2⟩) := by
 have hm := inner_mem (l := l) (a := a) (b := b) (p := rd (innerL l a b) (K : Int)) (by rw [rd_at _ K hK]; exact List.getElem_mem _)
 have hl := h.len
 refine ⟨by rw [List.length_set]; exact hl, ?_, ?_, fun k hk => ?_⟩
 ·rw [rdT_other _ hm.1 a0 (fun e => hm.2.2.1 e.symm)]
  exact h.atA
 ·rw [rdT_other _ hm.1 b0 (fun e => hm.2.2.2 e.symm)]
  exact h.atB
 ·by_cases hkK : k = K
  ·subst hkK
   rw [rdT_same _ hm.1 (by omega)]
  ·have hm2 := inner_mem (l := l) (a := a) (b := b) (p := rd (innerL l a b) (k : Int)) (by rw [rd_at _ k (by omega)]; exact List.getElem_mem _)
   rw [rdT_other _ hm.1 hm2.1 (fun e => hkK (rd_inj (inner_nodup l a b) (by omega) hK e))]
   exact h.at_ k (by omega)
theorem chance_l2 {l : List (List Int)} {a b : Int} (h : Eqs l zeroOwn 1 a b) (hd : 0 < denOf l a b) (a0 : 0 ≤ a) (b0 : 0 ≤ b) (d : Nat) : ∀ (k i : Nat) (x : List GT.S27), i + d = (innerL l a b).length → 100000000 + d < k → RatK l a b i x →
  ∃ y, GT.spec_hiChances.l2 k (numsL (innerL l a b).length (matM l a b) (rightL l zeroOwn 1 0 a b (innerL l a b))) (denOf l a b) x (innerL l a b) ((innerL l a b).length : Int) (i : Int) = some y ∧ RatK l a b (innerL l a b).length y := by
 have hn : (numsL (innerL l a b).length (matM l a b) (rightL l zeroOwn 1 0 a b (innerL l a b))).length = (innerL l a b).length := by simp [numsL]
 have hdb := den_bound h
 have hm6 := h.m6
 induction d with
 | zero =>
  intro k i x hi hk hx
  obtain ⟨k, rfl⟩ := KA.succ_of (show 0 < k by omega)
  obtain rfl : i = (innerL l a b).length := by omega
  refine ⟨x, ?_, hx⟩
  unfold GT.spec_hiChances.l2
  rw [if_neg (by omega)]
 | succ d ih =>
  intro k i x hi hk hx
  obtain ⟨k, rfl⟩ := KA.succ_of (show 0 < k by omega)
  have him : i < (innerL l a b).length := by omega
  have hm := inner_mem (l := l) (a := a) (b := b) (p := rd (innerL l a b) (i : Int)) (by rw [rd_at _ i him]; exact List.getElem_mem _)
  have hl := hx.len
  have hnb := num_bound h him
  have hnx := ratK_more hx him a0 b0
  unfold GT.spec_hiChances.l2
  rw [if_pos (by omega), if_pos (by omega), if_pos (by omega), if_pos (by omega), nums_at l zeroOwn 1 a b him, spec_ratio (by omega) hd (by omega) k (by omega), Option.bind_some, if_pos hm.1, if_pos (by omega), KA.wrap_up him (by omega)]
  exact ih k (i + 1) _ (by omega) (by omega) hnx
theorem chance_l1 {l : List (List Int)} {a b : Int} (pl : List Int) (M : List (List Int)) (rs xs : List Int) (n i : Int) {p : Int} (h5 : (rd_L1 l p).length ≤ 5) (hrs : rs.length < 1000) (d : Nat) : ∀ (k x : Nat), x + d = (rd_L1 l p).length →
  GT.spec_hiChances.l1 (k + d + 1) a b pl M rs (cntL a ((rd_L1 l p).take x) : Int) xs n i (rd_L1 l p) ((rd_L1 l p).length : Int) (x : Int) l = GT.spec_hiChances.l0 k a b pl M (rs ++ [(cntL a (rd_L1 l p) : Int)]) xs n (wrap64 (i + 1)) l := by
 induction d with
 | zero =>
  intro k x hx
  unfold GT.spec_hiChances.l1
  rw [if_neg (by omega), if_pos (by omega), List.take_of_length_le (by omega)]
 | succ d ih =>
  intro k x hx
  have hxl : x < (rd_L1 l p).length := by omega
  have hc : cntL a ((rd_L1 l p).take x) ≤ 5 := Nat.le_trans (cntL_le _ _) (by rw [List.length_take]; omega)
  have hst := cntL_step (q := a) hxl
  rw [show k + (d + 1) + 1 = (k + d + 1) + 1 by omega]
  unfold GT.spec_hiChances.l1
  rw [if_pos (by omega), if_pos (by omega), if_pos (by omega), rd_at _ x hxl, KA.wrap_up hxl (by omega)]
  by_cases hq : (rd_L1 l p)[x] = a
  ·rw [if_pos hq]
   rw [if_pos hq] at hst
   have e : wrap64 ((cntL a ((rd_L1 l p).take x) : Int) + 1) = (cntL a ((rd_L1 l p).take (x + 1)) : Int) := by
    rw [hst, wrap_id (by omega) (by omega)]
    omega
   rw [e]
   exact ih k (x + 1) (by omega)
  ·rw [if_neg hq]
   rw [if_neg hq, Nat.add_zero] at hst
   have := ih k (x + 1) (by omega)
   rw [hst] at this
   exact this
theorem chance_l0 {l : List (List Int)} {a b : Int} (hg : goodB l a b = true) (h : Eqs l zeroOwn 1 a b) (d : Nat) : ∀ (k i : Nat), i + d = (innerL l a b).length → 100000100 + d * 10 < k →
  ∃ y, GT.spec_hiChances.l0 k a b (innerL l a b) (matM l a b) ((rightL l zeroOwn 1 0 a b (innerL l a b)).take i) (innerL l a b) ((innerL l a b).length : Int) (i : Int) l = some y ∧ RatK l a b (innerL l a b).length y := by
 obtain ⟨hab, a0, a1, b0, b1, h8, h5, _, _⟩ := good_facts hg
 have hlR := h.lR
 have hm6 := h.m6
 induction d with
 | zero =>
  intro k i hi hk
  obtain ⟨k, rfl⟩ := KA.succ_of (show 0 < k by omega)
  obtain ⟨y, hy, hR⟩ := chance_l2 h (den_pos hg) a0 b0 (innerL l a b).length k 0 _ (by omega) (by omega) (ratK_start a0 a1 b0 b1 hab)
  refine ⟨y, ?_, hR⟩
  unfold GT.spec_hiChances.l0
  rw [if_neg (by omega), List.take_of_length_le (by omega), eqs_solve h k (by omega), Option.bind_some, if_pos (by omega), if_pos (by omega), Option.bind_some, Int.toNat_natCast, if_pos a0, if_pos (by simpa using a1), if_pos b0, if_pos (by simpa using b1)]
  exact hy
 | succ d ih =>
  intro k i hi hk
  have him : i < (innerL l a b).length := by omega
  have hm := inner_mem (l := l) (a := a) (b := b) (p := rd (innerL l a b) (i : Int)) (by rw [rd_at _ i him]; exact List.getElem_mem _)
  have hdg := h5 _ hm.1 hm.2.1
  obtain ⟨k2, rfl⟩ : ∃ k2, k = k2 + (rd_L1 l (rd (innerL l a b) (i : Int))).length + 1 + 1 := ⟨k - (rd_L1 l (rd (innerL l a b) (i : Int))).length - 2, by omega⟩
  have e : (rightL l zeroOwn 1 0 a b (innerL l a b)).take i ++ [(cntL a (rd_L1 l (rd (innerL l a b) (i : Int))) : Int)] = (rightL l zeroOwn 1 0 a b (innerL l a b)).take (i + 1) := by
   rw [List.take_succ_eq_append_getElem (by omega)]
   congr 2
   have := chance_right l a b
   simp only [this, List.getElem_map]
   rw [rd_at _ i him]
  obtain ⟨y, hy, hR⟩ := ih k2 (i + 1) (by omega) (by omega)
  refine ⟨y, ?_, hR⟩
  unfold GT.spec_hiChances.l0
  rw [if_pos (by omega), if_pos (by omega), if_pos (by omega), if_pos hm.1, if_pos hm.2.1]
  have e1 := chance_l1 (l := l) (a := a) (b := b) (innerL l a b) (matM l a b) ((rightL l zeroOwn 1 0 a b (innerL l a b)).take i) (innerL l a b) ((innerL l a b).length : Int) (i : Int) hdg (by simp; omega) (rd_L1 l (rd (innerL l a b) (i : Int))).length k2 0 (by omega)
  rw [List.take_zero] at e1
  refine Eq.trans e1 ?_
  rw [e, KA.wrap_up him (by omega)]
  exact hy
theorem hiChances_f {l : List (List Int)} {a b : Int} (hg : goodB l a b = true) (k : Nat) (hk : 150000000 ≤ k) : ∃ y, GT.spec_hiChances.f k l a b = some y ∧ RatK l a b (innerL l a b).length y := by
 obtain ⟨_, _, _, _, _, _, h5, _, _⟩ := good_facts hg
 have h : Eqs l zeroOwn 1 a b := eqs_of hg (sum_chances h5)
 have hm6 := h.m6
 obtain ⟨y, hy, hR⟩ := chance_l0 hg h (innerL l a b).length k 0 (by omega) (by omega)
 refine ⟨y, ?_, hR⟩
 unfold GT.spec_hiChances.f
 have hM : spec_hiMatrix.f l a b = some (innerL l a b, matM l a b) := by unfold spec_hiMatrix.f; rw [if_pos (good_graph hg)]
 rw [hM, Option.bind_some]
 rw [List.take_zero] at hy
 exact hy
theorem ratK_at {l : List (List Int)} {a b : Int} (hg : goodB l a b = true) {y : List GT.S27} (h : RatK l a b (innerL l a b).length y) {p : Int} (p0 : 0 ≤ p) (p1 : p < l.length) : GT.rd_T27 y p = ⟨(ratV (rd (chL l a b) p) (denOf l a b)).1, (ratV (rd (chL l a b) p) (denOf l a b)).2⟩ := by
 have hd := den_pos hg
 unfold chL
 rw [show (fun _ : Int => (0 : Int)) = zeroOwn from rfl, outL_at p0 p1]
 by_cases hpa : p = a
 ·rw [if_pos hpa, Int.one_mul, ratV_same hd, hpa, h.atA]
 ·rw [if_neg hpa]
  by_cases hpb : p = b
  ·rw [if_pos hpb, Int.zero_mul, ratV_zero hd, hpb, h.atB]
  ·rw [if_neg hpb]
   have hm := mem_inner p0 p1 hpa hpb
   have hlt := List.idxOf_lt_length_iff.2 hm
   have := h.at_ _ hlt
   rw [rd_at _ _ hlt, List.getElem_idxOf hlt] at this
   exact this
end Go.Proofs.Ytnbnalbomflafaa.DT
namespace Go.Proofs.Ytnbnalbomflafaa.RA
open Go.RowKit YtnbnalbomflafaaW.PrintWords YtnbnalbomflafaaW.PrintLast YtnbnalbomflafaaW.PrintMore
open DT
end Go.Proofs.Ytnbnalbomflafaa.RA
namespace Go.Proofs.Ytnbnalbomflafaa.DT
open Go.RowKit YtnbnalbomflafaaW.PrintWords YtnbnalbomflafaaW.PrintLast YtnbnalbomflafaaW.PrintMore
open GA hiding info37
open GR hiding rd_L1 at_L1 S27 z27 rd_T27
open RA
structure Vals (l : List (List Int)) (a b : Int) (v : List Int) (den : Int) : Prop where
 len : v.length = l.length
 bnd : ∀ p : Int, 0 ≤ p → p < l.length → (rd v p).natAbs ≤ 11250000
 d0 : 0 < den
 d1 : den ≤ 11250000
 l8 : l.length ≤ 8
 deg : ∀ p : Int, 0 ≤ p → p < l.length → (rd_L1 l p).length ≤ 5
 ex : ∀ p : Int, 0 ≤ p → p < l.length → ∀ q ∈ rd_L1 l p, 0 ≤ q ∧ q < l.length
end Go.Proofs.Ytnbnalbomflafaa.DT
namespace Go.Proofs.Ytnbnalbomflafaa.DT
open Go.RowKit YtnbnalbomflafaaW.PrintWords YtnbnalbomflafaaW.PrintLast YtnbnalbomflafaaW.PrintMore
open GA hiding info37
open GR hiding rd_L1 at_L1 S27 z27 rd_T27
open RA
theorem vals_of {l : List (List Int)} {a b : Int} (hg : goodB l a b = true) : Vals l a b (chL l a b) (denOf l a b) := by
 obtain ⟨_, _, _, _, _, h8, h5, hq, _⟩ := good_facts hg
 have h : Eqs l zeroOwn 1 a b := eqs_of hg (sum_chances h5)
 have hd := den_pos hg
 have hb := den_bound h
 exact ⟨by simp [chL, outL], fun p p0 p1 => out_bound h (by omega) p0 p1, hd, by omega, h8, h5, hq⟩
end Go.Proofs.Ytnbnalbomflafaa.DT
namespace Go.Proofs.Ytnbnalbomflafaa.RA
open Go.RowKit YtnbnalbomflafaaW.PrintWords YtnbnalbomflafaaW.PrintLast YtnbnalbomflafaaW.PrintMore
open DT
end Go.Proofs.Ytnbnalbomflafaa.RA
namespace Go.Proofs.Ytnbnalbomflafaa.GR
open Go.RowKit YtnbnalbomflafaaW.PrintWords YtnbnalbomflafaaW.PrintLast YtnbnalbomflafaaW.PrintMore
open GA GB GD KA
attribute [local go_sem] max2_int min2_int max_two min_two max_three min_three max_four min_four
def laws_eqRatioS.l0 : Nat → List (S27) → List (S27) → Int → Option (Bool)
 | 0, _, _, _ => none
 | k + 1, x0, x1, x5 => if x5 < (x0.length : Int) then (if 0 ≤ x5 then (if x5 < (x1.length : Int) then ((laws_eqRatio.f ((rd_T27 x0 x5).f0) ((rd_T27 x0 x5).f1) ((rd_T27 x1 x5).f0) ((rd_T27 x1 x5).f1)).bind fun t661 => (if t661 = true then (laws_eqRatioS.l0 k x0 x1 (wrap64 (x5 + 1))) else (some false))) else (none)) else (none)) else (some true)
def laws_eqRatioS.f (k : Nat) (l0 : List (S27)) (l1 : List (S27)) : Option (Bool) := if (l0.length : Int) = (l1.length : Int) then (laws_eqRatioS.l0 k l0 l1 0) else (some false)
def laws_eqRatioS.T6 : Bool × List (List Nat × List Nat) := (true, [([], []), ([], []), ([0, 1], [0, 1]), ([2], [2]), ([], []), ([], []), ([4, 5], [4, 5]), ([6], [6]), ([3, 7], [3, 7]), ([8], [8])])
def laws_eqRatioS.B6 : List Nat := [0, 0, 3, 7, 0, 0, 48, 112, 255, 511]
theorem laws_eqRatioS.tab6 : rtab .any (opsOf Try.f48 6) = laws_eqRatioS.T6 := by kernel_rfl
theorem laws_eqRatioS.bits6 : waitsOk laws_eqRatioS.T6.2 laws_eqRatioS.B6 = true := by kernel_rfl
set_option maxHeartbeats 8000000 in
set_option maxRecDepth 100000 in
theorem laws_eqRatioS.calls (k : Nat) (A0 : Option Addr) (c0 : Nat) (l0 : List (S27)) (A1 : Option Addr) (c1 : Nat) (l1 : List (S27)) (r : Bool) (w : World) (hr0 : Kd.C k27 w A0 l0.length l0) (hc0 : l0.length ≤ c0) (hr1 : Kd.C k27 w A1 l1.length l1) (hc1 : l1.length ≤ c1) (h : laws_eqRatioS.f k l0 l1 = some r) :
  Calls Try.prog 48 #[.slice A0 l0.length c0, .slice A1 l1.length c1] w fun e w' => e = .returned (.bool r) ∧ Below w.heap.size w w' := by
 have hu27 := Try.underlying27
 have HR0 := Aside0.mk hr0
 have HC0 := Aside0.mk hc0
 clear hr0 hc0
 have HR1 := Aside0.mk hr1
 have HC1 := Aside0.mk hc1
 clear hr1 hc1
 have HB := Aside0.mk (Below.refl w.heap.size w)
 have H : (if (l0.length : Int) = (l1.length : Int) then (laws_eqRatioS.l0 k l0 l1 0) else (some false)) = some r := h
 clear h
 by_cases c3 : (l0.length : Int) = (l1.length : Int)
 ·rw [if_pos c3] at H
  have c3b0 : ((l0.length : Int) == (l1.length : Int)) = true := beq_iff_eq.mpr c3
  have c3b1 : ((l0.length : Int) != (l1.length : Int)) = false := bne_eq_false_iff_eq.mpr c3
  have c3b2 : (l0.length == l1.length) = true := by first | simpa using c3 | (simp at c3 ⊢; omega)
  clear c3
  have H' := Aside0.mk H
  clear H
  go_enter Try.func48, Try.ntmps48
  go_wp2
  go_loopg [5] k (fun kq v5 w' => ∃ (x5_1 : Int), v5 = .int .i64 x5_1 ∧ Aside0 (laws_eqRatioS.l0 kq l0 l1 x5_1 = some r) ∧ Aside0 (kq ≤ k) ∧ Aside0 (Below w.heap.size w w'))
  case atStart => exact ⟨(0), (by first | rfl | (simp; done) | (simp [*]; done)), H', ⟨Nat.le_refl _⟩, ⟨by repeat (first | (with_reducible first | exact HB.out | apply bA_ | apply bN_ | apply bD_) | exact HB.out)⟩⟩
  case round =>
   clear H'
   try clear c1
   try clear p2
   try clear c3
   try clear c3b0
   try clear c3b1
   try clear c3b2
   obtain ⟨x5_1, rfl, HA, HK1, HB⟩ := hrel
   cases gk with
   | zero => exact absurd HA.out (by simp [laws_eqRatioS.l0])
   | succ k1 =>
    have H := HA.out
    clear HA
    simp only [laws_eqRatioS.l0] at H
    by_cases c4 : x5_1 < (l0.length : Int)
    ·rw [if_pos c4] at H
     have c4b0 : decide (x5_1 < (l0.length : Int)) = true := decide_eq_true c4
     clear c4
     by_cases c5 : 0 ≤ x5_1
     ·rw [if_pos c5] at H
      have c5b0 : decide (0 ≤ x5_1) = true := decide_eq_true c5
      clear c5
      by_cases c6 : x5_1 < (l1.length : Int)
      ·rw [if_pos c6] at H
       have c6b0 : decide (x5_1 < (l1.length : Int)) = true := decide_eq_true c6
       clear c6
       replace H := Option.bind_eq_some_iff.mp H
       obtain ⟨t661, A70, H⟩ := H
       replace H : (if t661 = true then (laws_eqRatioS.l0 k1 l0 l1 (wrap64 (x5_1 + 1))) else (some false)) = some r := H
       have A7 := Aside0.mk A70
       clear A70
       by_cases c8 : t661 = true
       ·subst c8
        have H1 : (laws_eqRatioS.l0 k1 l0 l1 (wrap64 (x5_1 + 1))) = some r := by rw [if_pos rfl] at H; exact H
        clear H
        have H := H1
        clear H1
        have H' := Aside0.mk H
        clear H
        try go_wp2
        have n0_ := Aside0.mk (bD_ HB.out)
        clear HB
        have HB := n0_
        clear n0_
        have p659 : 0 ≤ (x5_1 : Int) := of_decide_eq_true (by first | (with_reducible assumption) | assumption)
        have q659 : x5_1 < (l0.length : Int) := of_decide_eq_true (by first | (with_reducible assumption) | assumption)
        obtain ⟨ad659, e659, hx659_0, hx659_1⟩ := at_T27 HR0.out x5_1 p659 q659
        have hw659_1 := hx659_1
        have hw659_0 := hx659_0
        cases e659
        replace hx659_0 := (HB.out.cell (World.block_lt_of_cell? w _ hx659_0)).trans hx659_0
        replace hx659_1 := (HB.out.cell (World.block_lt_of_cell? w _ hx659_1)).trans hx659_1
        replace p659 := eq_true p659
        replace q659 := eq_true q659
        have p660 : 0 ≤ (x5_1 : Int) := of_decide_eq_true (by first | (with_reducible assumption) | assumption)
        have q660 : x5_1 < (l1.length : Int) := of_decide_eq_true (by first | (with_reducible assumption) | assumption)
        obtain ⟨ad660, e660, hx660_0, hx660_1⟩ := at_T27 HR1.out x5_1 p660 q660
        have hw660_1 := hx660_1
        have hw660_0 := hx660_0
        cases e660
        replace hx660_0 := (HB.out.cell (World.block_lt_of_cell? w _ hx660_0)).trans hx660_0
        replace hx660_1 := (HB.out.cell (World.block_lt_of_cell? w _ hx660_1)).trans hx660_1
        replace p660 := eq_true p660
        replace q660 := eq_true q660
        refine start_ (n := 10) (S := fun w' => w'.cell? (ad659.add ((x5_1).toNat * 2)) = some (.int .i64 ((rd_T27 l0 x5_1).f0)) ∧ w'.cell? ⟨(ad659.add ((x5_1).toNat * 2)).block, (ad659.add ((x5_1).toNat * 2)).off + 1, none⟩ = some (.int .i64 ((rd_T27 l0 x5_1).f1)) ∧ w'.cell? (ad660.add ((x5_1).toNat * 2)) = some (.int .i64 ((rd_T27 l1 x5_1).f0)) ∧ w'.cell? ⟨(ad660.add ((x5_1).toNat * 2)).block, (ad660.add ((x5_1).toNat * 2)).off + 1, none⟩ = some (.int .i64 ((rd_T27 l1 x5_1).f1))) (ds := []) #[false, false, false, false, false, false, false, false, false, false] (by kernel_rfl) rfl rfl ⟨((HB.out.cell (World.block_lt_of_cell? w _ hw659_0)).trans hw659_0), ((HB.out.cell (World.block_lt_of_cell? w _ hw659_1)).trans hw659_1), ((HB.out.cell (World.block_lt_of_cell? w _ hw660_0)).trans hw660_0), ((HB.out.cell (World.block_lt_of_cell? w _ hw660_1)).trans hw660_1)⟩ (fun hHeld => ?_); refine with_tabW laws_eqRatioS.tab6 laws_eqRatioS.bits6 (fun HT_ HW_ => ?_)
        generalize wr.drew = w9 at HB hx659_0 hx659_1 hx660_0 hx660_1 hHeld ⊢
        refine pu_ (i := 0) (N := some 17) (v := ?_) (a' := ?_) HT_.out rfl rfl (Or.inl ⟨by rfl, ?_⟩) ?_ ?_
        rotate_left
        ·intro w'
         go_simp
         with_reducible rfl
        rotate_left
        ·simp only [sp_]
         rfl
        refine pu_ (i := 1) (N := some 18) (v := ?_) (a' := ?_) HT_.out rfl rfl (Or.inl ⟨by rfl, ?_⟩) ?_ ?_
        rotate_left
        ·intro w'
         go_simp
         with_reducible rfl
        rotate_left
        ·simp only [sp_]
         rfl
        refine pu_ (i := 2) (N := some 19) (v := ?_) (a' := ?_) HT_.out rfl rfl (Or.inl ⟨by rfl, ?_⟩) ?_ ?_
        rotate_left
        ·intro w'
         go_simp
         with_reducible rfl
        rotate_left
        ·simp only [sp_]
         rfl
        refine pu_ (i := 4) (N := some 21) (v := ?_) (a' := ?_) HT_.out rfl rfl (Or.inl ⟨by rfl, ?_⟩) ?_ ?_
        rotate_left
        ·intro w'
         go_simp
         with_reducible rfl
        rotate_left
        ·simp only [sp_]
         rfl
        refine pu_ (i := 5) (N := some 22) (v := ?_) (a' := ?_) HT_.out rfl rfl (Or.inl ⟨by rfl, ?_⟩) ?_ ?_
        rotate_left
        ·intro w'
         go_simp
         with_reducible rfl
        rotate_left
        ·simp only [sp_]
         rfl
        refine pu_ (i := 6) (N := some 23) (v := ?_) (a' := ?_) HT_.out rfl rfl (Or.inl ⟨by rfl, ?_⟩) ?_ ?_
        rotate_left
        ·intro w'
         go_simp
         with_reducible rfl
        rotate_left
        ·simp only [sp_]
         rfl
        refine tk_ (i := 3) (N := some 20) (v := ?_) (a' := ?_) HT_.out HW_.out rfl rfl (Or.inl ⟨by rfl, ?_⟩) hHeld ?_ ?_
        rotate_left
        ·rintro w' ⟨s0, s1, s2, s3⟩
         go_simp
         with_reducible rfl
        rotate_left
        ·simp only [sp_]
         rfl
        refine tk_ (i := 7) (N := some 24) (v := ?_) (a' := ?_) HT_.out HW_.out rfl rfl (Or.inl ⟨by rfl, ?_⟩) hHeld ?_ ?_
        rotate_left
        ·rintro w' ⟨s0, s1, s2, s3⟩
         go_simp
         with_reducible rfl
        rotate_left
        ·simp only [sp_]
         rfl
        refine one_ (i := 8) (N := some 25) #[true, true, true, true, true, true, true, true, true, false] rfl rfl (one_of HT_.out (by kernel_rfl)) (by decide) (fun K hK => ?_)
        refine goes_ Try.func23 (by kernel_rfl) rfl #[.agg #[.int .i64 ((rd_T27 l0 x5_1).f0), .int .i64 ((rd_T27 l0 x5_1).f1)], .agg #[.int .i64 ((rd_T27 l1 x5_1).f0), .int .i64 ((rd_T27 l1 x5_1).f1)]] (by rfl) rfl rfl (by (try simp only [List.map_toArray, List.map_cons, List.map_nil]); first | done | rfl | (simp only [List.length_drop, List.length_take]; rfl)) ?_
        with_reducible refine (laws_eqRatio.calls ((rd_T27 l0 x5_1).f0) ((rd_T27 l0 x5_1).f1) ((rd_T27 l1 x5_1).f0) ((rd_T27 l1 x5_1).f1) true _ A7.out).mono ?_
        rintro e w10 ⟨rfl, hb⟩
        refine ⟨_, rfl, ?_⟩
        have n0_ := Aside0.mk (bP_ (by repeat (first | (with_reducible first | exact HB.out | apply bA_ | apply bN_ | apply bD_) | exact HB.out)) hb)
        clear HB
        have HB := n0_
        clear n0_
        (try clear hb)
        (try clear hb2)
        (try clear hk)
        (try clear hi)
        refine hK.out _ _ ⟨((HB.out.cell (World.block_lt_of_cell? w _ hw659_0)).trans hw659_0), ((HB.out.cell (World.block_lt_of_cell? w _ hw659_1)).trans hw659_1), ((HB.out.cell (World.block_lt_of_cell? w _ hw660_0)).trans hw660_0), ((HB.out.cell (World.block_lt_of_cell? w _ hw660_1)).trans hw660_1)⟩ (fun hHeld => ?_)
        clear hK K
        refine norm_ (a' := ?_) ?_ ?_
        rotate_left
        ·show Act.put _ (some 25) _ = _
         simp only [sp_]
         rfl
        refine pu_ (i := 9) (N := some 26) (v := ?_) (a' := ?_) HT_.out rfl rfl (Or.inl ⟨by rfl, ?_⟩) ?_ ?_
        rotate_left
        ·intro w'
         go_simp
         with_reducible rfl
        rotate_left
        ·simp only [sp_]
         rfl
        refine done_ (done_of HT_.out (by kernel_rfl)) ?_
        try go_wp2
        go_roundg k1
        case measure => have := HK1.out; omega
        case rel => exact ⟨(wrap64 (x5_1 + 1)), (by first | rfl | (simp; done) | (simp [*]; done)), H', ⟨by have := HK1.out; omega⟩, ⟨by repeat (first | (with_reducible first | exact HB.out | apply bA_ | apply bN_ | apply bD_) | exact HB.out)⟩⟩
       ·replace c8 := Bool.eq_false_iff.mpr c8
        subst c8
        have H1 : (some false) = some r := by rw [if_neg (show ¬ (false = true) by decide)] at H; exact H
        clear H
        have H := H1
        clear H1
        obtain rfl := Option.some.inj H
        try go_wp2
        have n0_ := Aside0.mk (bD_ HB.out)
        clear HB
        have HB := n0_
        clear n0_
        have p659 : 0 ≤ (x5_1 : Int) := of_decide_eq_true (by first | (with_reducible assumption) | assumption)
        have q659 : x5_1 < (l0.length : Int) := of_decide_eq_true (by first | (with_reducible assumption) | assumption)
        obtain ⟨ad659, e659, hx659_0, hx659_1⟩ := at_T27 HR0.out x5_1 p659 q659
        have hw659_1 := hx659_1
        have hw659_0 := hx659_0
        cases e659
        replace hx659_0 := (HB.out.cell (World.block_lt_of_cell? w _ hx659_0)).trans hx659_0
        replace hx659_1 := (HB.out.cell (World.block_lt_of_cell? w _ hx659_1)).trans hx659_1
        replace p659 := eq_true p659
        replace q659 := eq_true q659
        have p660 : 0 ≤ (x5_1 : Int) := of_decide_eq_true (by first | (with_reducible assumption) | assumption)
        have q660 : x5_1 < (l1.length : Int) := of_decide_eq_true (by first | (with_reducible assumption) | assumption)
        obtain ⟨ad660, e660, hx660_0, hx660_1⟩ := at_T27 HR1.out x5_1 p660 q660
        have hw660_1 := hx660_1
        have hw660_0 := hx660_0
        cases e660
        replace hx660_0 := (HB.out.cell (World.block_lt_of_cell? w _ hx660_0)).trans hx660_0
        replace hx660_1 := (HB.out.cell (World.block_lt_of_cell? w _ hx660_1)).trans hx660_1
        replace p660 := eq_true p660
        replace q660 := eq_true q660
        refine start_ (n := 10) (S := fun w' => w'.cell? (ad659.add ((x5_1).toNat * 2)) = some (.int .i64 ((rd_T27 l0 x5_1).f0)) ∧ w'.cell? ⟨(ad659.add ((x5_1).toNat * 2)).block, (ad659.add ((x5_1).toNat * 2)).off + 1, none⟩ = some (.int .i64 ((rd_T27 l0 x5_1).f1)) ∧ w'.cell? (ad660.add ((x5_1).toNat * 2)) = some (.int .i64 ((rd_T27 l1 x5_1).f0)) ∧ w'.cell? ⟨(ad660.add ((x5_1).toNat * 2)).block, (ad660.add ((x5_1).toNat * 2)).off + 1, none⟩ = some (.int .i64 ((rd_T27 l1 x5_1).f1))) (ds := []) #[false, false, false, false, false, false, false, false, false, false] (by kernel_rfl) rfl rfl ⟨((HB.out.cell (World.block_lt_of_cell? w _ hw659_0)).trans hw659_0), ((HB.out.cell (World.block_lt_of_cell? w _ hw659_1)).trans hw659_1), ((HB.out.cell (World.block_lt_of_cell? w _ hw660_0)).trans hw660_0), ((HB.out.cell (World.block_lt_of_cell? w _ hw660_1)).trans hw660_1)⟩ (fun hHeld => ?_); refine with_tabW laws_eqRatioS.tab6 laws_eqRatioS.bits6 (fun HT_ HW_ => ?_)
        generalize wr.drew = w11 at HB hx659_0 hx659_1 hx660_0 hx660_1 hHeld ⊢
        refine pu_ (i := 0) (N := some 17) (v := ?_) (a' := ?_) HT_.out rfl rfl (Or.inl ⟨by rfl, ?_⟩) ?_ ?_
        rotate_left
        ·intro w'
         go_simp
         with_reducible rfl
        rotate_left
        ·simp only [sp_]
         rfl
        refine pu_ (i := 1) (N := some 18) (v := ?_) (a' := ?_) HT_.out rfl rfl (Or.inl ⟨by rfl, ?_⟩) ?_ ?_
        rotate_left
        ·intro w'
         go_simp
         with_reducible rfl
        rotate_left
        ·simp only [sp_]
         rfl
        refine pu_ (i := 2) (N := some 19) (v := ?_) (a' := ?_) HT_.out rfl rfl (Or.inl ⟨by rfl, ?_⟩) ?_ ?_
        rotate_left
        ·intro w'
         go_simp
         with_reducible rfl
        rotate_left
        ·simp only [sp_]
         rfl
        refine pu_ (i := 4) (N := some 21) (v := ?_) (a' := ?_) HT_.out rfl rfl (Or.inl ⟨by rfl, ?_⟩) ?_ ?_
        rotate_left
        ·intro w'
         go_simp
         with_reducible rfl
        rotate_left
        ·simp only [sp_]
         rfl
        refine pu_ (i := 5) (N := some 22) (v := ?_) (a' := ?_) HT_.out rfl rfl (Or.inl ⟨by rfl, ?_⟩) ?_ ?_
        rotate_left
        ·intro w'
         go_simp
         with_reducible rfl
        rotate_left
        ·simp only [sp_]
         rfl
        refine pu_ (i := 6) (N := some 23) (v := ?_) (a' := ?_) HT_.out rfl rfl (Or.inl ⟨by rfl, ?_⟩) ?_ ?_
        rotate_left
        ·intro w'
         go_simp
         with_reducible rfl
        rotate_left
        ·simp only [sp_]
         rfl
        refine tk_ (i := 3) (N := some 20) (v := ?_) (a' := ?_) HT_.out HW_.out rfl rfl (Or.inl ⟨by rfl, ?_⟩) hHeld ?_ ?_
        rotate_left
        ·rintro w' ⟨s0, s1, s2, s3⟩
         go_simp
         with_reducible rfl
        rotate_left
        ·simp only [sp_]
         rfl
        refine tk_ (i := 7) (N := some 24) (v := ?_) (a' := ?_) HT_.out HW_.out rfl rfl (Or.inl ⟨by rfl, ?_⟩) hHeld ?_ ?_
        rotate_left
        ·rintro w' ⟨s0, s1, s2, s3⟩
         go_simp
         with_reducible rfl
        rotate_left
        ·simp only [sp_]
         rfl
        refine one_ (i := 8) (N := some 25) #[true, true, true, true, true, true, true, true, true, false] rfl rfl (one_of HT_.out (by kernel_rfl)) (by decide) (fun K hK => ?_)
        refine goes_ Try.func23 (by kernel_rfl) rfl #[.agg #[.int .i64 ((rd_T27 l0 x5_1).f0), .int .i64 ((rd_T27 l0 x5_1).f1)], .agg #[.int .i64 ((rd_T27 l1 x5_1).f0), .int .i64 ((rd_T27 l1 x5_1).f1)]] (by rfl) rfl rfl (by (try simp only [List.map_toArray, List.map_cons, List.map_nil]); first | done | rfl | (simp only [List.length_drop, List.length_take]; rfl)) ?_
        with_reducible refine (laws_eqRatio.calls ((rd_T27 l0 x5_1).f0) ((rd_T27 l0 x5_1).f1) ((rd_T27 l1 x5_1).f0) ((rd_T27 l1 x5_1).f1) false _ A7.out).mono ?_
        rintro e w12 ⟨rfl, hb⟩
        refine ⟨_, rfl, ?_⟩
        have n0_ := Aside0.mk (bP_ (by repeat (first | (with_reducible first | exact HB.out | apply bA_ | apply bN_ | apply bD_) | exact HB.out)) hb)
        clear HB
        have HB := n0_
        clear n0_
        (try clear hb)
        (try clear hb2)
        (try clear hk)
        (try clear hi)
        refine hK.out _ _ ⟨((HB.out.cell (World.block_lt_of_cell? w _ hw659_0)).trans hw659_0), ((HB.out.cell (World.block_lt_of_cell? w _ hw659_1)).trans hw659_1), ((HB.out.cell (World.block_lt_of_cell? w _ hw660_0)).trans hw660_0), ((HB.out.cell (World.block_lt_of_cell? w _ hw660_1)).trans hw660_1)⟩ (fun hHeld => ?_)
        clear hK K
        refine norm_ (a' := ?_) ?_ ?_
        rotate_left
        ·show Act.put _ (some 25) _ = _
         simp only [sp_]
         rfl
        refine pu_ (i := 9) (N := some 26) (v := ?_) (a' := ?_) HT_.out rfl rfl (Or.inl ⟨by rfl, ?_⟩) ?_ ?_
        rotate_left
        ·intro w'
         go_simp
         with_reducible rfl
        rotate_left
        ·simp only [sp_]
         rfl
        refine done_ (done_of HT_.out (by kernel_rfl)) ?_
        try go_wp2
        go_ret
        exact ⟨by first | rfl | (simp [errW_none, errW_some] <;> rfl) | (simp [*, errW_none, errW_some] <;> rfl), by repeat (first | (with_reducible first | exact HB.out | apply bA_ | apply bN_ | apply bD_) | exact HB.out)⟩
      ·rw [if_neg c6] at H
       exact absurd H (by simp)
     ·rw [if_neg c5] at H
      exact absurd H (by simp)
    ·rw [if_neg c4] at H
     have c4b0 : decide (x5_1 < (l0.length : Int)) = false := decide_eq_false c4
     clear c4
     obtain rfl := Option.some.inj H
     go_wp2
     go_ret
     exact ⟨by first | rfl | (simp [errW_none, errW_some] <;> rfl) | (simp [*, errW_none, errW_some] <;> rfl), by repeat (first | (with_reducible first | exact HB.out | apply bA_ | apply bN_ | apply bD_) | exact HB.out)⟩
 ·rw [if_neg c3] at H
  have c3b0 : ((l0.length : Int) == (l1.length : Int)) = false := beq_eq_false_iff_ne.mpr c3
  have c3b1 : ((l0.length : Int) != (l1.length : Int)) = true := bne_iff_ne.mpr c3
  have c3b2 : (l0.length == l1.length) = false := by first | simpa using c3 | (simp at c3 ⊢; omega)
  obtain rfl := Option.some.inj H
  go_enter Try.func48, Try.ntmps48
  go_wp2
  go_ret
  exact ⟨by first | rfl | (simp [errW_none, errW_some] <;> rfl) | (simp [*, errW_none, errW_some] <;> rfl), by repeat (first | (with_reducible first | exact HB.out | apply bA_ | apply bN_ | apply bD_) | exact HB.out)⟩
def laws_markRatioS.l0 : Nat → List (S27) → Int → Int → Option (Int × (List (S27)))
 | 0, _, _, _ => none
 | k + 1, x0, x1, x5 => if x5 < (x0.length : Int) then (if 0 ≤ x5 then ((some (x0.set (x5 : Int).toNat (⟨x1, (rd_T27 x0 x5).f1⟩ : S27) : List (S27))).bind fun y662 => (laws_markRatioS.l0 k (y662.set (x5 : Int).toNat (⟨(rd_T27 y662 x5).f0, wrap64 (x1 + 1)⟩ : S27)) (wrap64 ((wrap64 (x1 + 1)) + 1)) (wrap64 (x5 + 1)))) else (none)) else (some (x1, x0))
def laws_markRatioS.f (k : Nat) (l0 : List (S27)) (a1 : Int) : Option (Int × (List (S27))) := laws_markRatioS.l0 k l0 a1 0
set_option maxHeartbeats 8000000 in
set_option maxRecDepth 100000 in
theorem laws_markRatioS.calls (k : Nat) (P0_ : Nat → Prop) (u9000_ : Value) (l0 : List (S27)) (a1 : Int) (r1 : Int) (r2 : List (S27)) (w0 w : World) (hB : Below w0.heap.size w0 w) (ho0 : Kd.R k27 27 w w0.heap.size P0_ u9000_ l0) (h : laws_markRatioS.f k l0 a1 = some (r1, r2)) :
  Calls Try.prog 49 #[u9000_, .int .i64 a1] w fun e w' => e = .returned (.int .i64 r1) ∧ Kd.R k27 27 w' w0.heap.size (fun k_ => (P0_ k_ ∨ w.heap.size ≤ k_)) u9000_ r2 ∧ Below w0.heap.size w0 w' ∧ Kept w w' (fun k_ => P0_ k_) := by
 have HO0 := Aside0.mk (show Kd.R k27 27 w w0.heap.size (fun k_ => (P0_ k_ ∨ w.heap.size ≤ k_)) u9000_ l0 from Kd.R_mono ho0 (fun k_ hk => (.inl hk)))
 have HK := Aside0.mk (Kept.refl w (fun k_ => P0_ k_))
 have HW0 := Aside0.mk hB.size
 have HB := Aside0.mk hB
 clear hB
 have H : (laws_markRatioS.l0 k l0 a1 0) = some (r1, r2) := h
 clear h
 have H' := Aside0.mk H
 clear H
 go_enter Try.func49, Try.ntmps49
 go_wp2
 go_loopg [1, 5] k (fun kq v1 v5 w' => ∃ (x0_1 : List (S27)) (x1_1 : Int) (x5_1 : Int), v1 = .int .i64 x1_1 ∧ v5 = .int .i64 x5_1 ∧ Aside0 (laws_markRatioS.l0 kq x0_1 x1_1 x5_1 = some (r1, r2)) ∧ Aside0 (kq ≤ k) ∧ Aside0 (Kd.R k27 27 w' w0.heap.size (fun k_ => (P0_ k_ ∨ w.heap.size ≤ k_)) u9000_ x0_1) ∧ Aside0 (Kept w w' (fun k_ => P0_ k_)) ∧ Aside0 (Below w0.heap.size w0 w'))
 case atStart => exact ⟨(l0), (a1), (0), (by first | rfl | (simp; done) | (simp [*]; done)), (by first | rfl | (simp; done) | (simp [*]; done)), H', ⟨Nat.le_refl _⟩, ⟨by (with_reducible repeat (first | apply Kd.R_alloc | apply Kd.R_drewN | apply Kd.R_drew)); exact HO0.out⟩, ⟨by repeat (first | (with_reducible first | exact HK.out | apply Kept.alloc | apply Kept.drewN | apply Kept.drew) | exact HK.out)⟩, ⟨by repeat (first | (with_reducible first | exact HB.out | apply bA_ | apply bN_ | apply bD_) | exact HB.out)⟩⟩
 case round =>
  clear H'
  try clear p2
  obtain ⟨x0_1, x1_1, x5_1, rfl, rfl, HA, HK1, HO_0, HK, HB⟩ := hrel
  cases gk with
  | zero => exact absurd HA.out (by simp [laws_markRatioS.l0])
  | succ k1 =>
   have H := HA.out
   clear HA
   simp only [laws_markRatioS.l0] at H
   by_cases c3 : x5_1 < (x0_1.length : Int)
   ·rw [if_pos c3] at H
    have c3b0 : decide (x5_1 < (x0_1.length : Int)) = true := decide_eq_true c3
    clear c3
    by_cases c4 : 0 ≤ x5_1
    ·rw [if_pos c4] at H
     have c4b0 : decide (0 ≤ x5_1) = true := decide_eq_true c4
     clear c4
     obtain ⟨y662, hy662⟩ : ∃ y_ : List (S27), y_ = (x0_1.set (x5_1 : Int).toNat (⟨x1_1, (rd_T27 x0_1 x5_1).f1⟩ : S27)) := ⟨_, rfl⟩
     replace H : (laws_markRatioS.l0 k1 (y662.set (x5_1 : Int).toNat (⟨(rd_T27 y662 x5_1).f0, wrap64 (x1_1 + 1)⟩ : S27)) (wrap64 ((wrap64 (x1_1 + 1)) + 1)) (wrap64 (x5_1 + 1))) = some (r1, r2) := by first | (rw [hy662]; with_reducible exact H) | (have H2_ := (Option.bind_some _ _).symm.trans H; rw [hy662]; with_reducible exact H2_) | (have H2_ := (Option.bind_some _ _).symm.trans H; with_reducible exact H2_) | with_reducible exact H | (rw [hy662]; exact H) | exact H
     have Ny662 := Aside0.mk hy662
     clear hy662
     obtain ⟨y663, hy663⟩ : ∃ y_ : List (S27), y_ = (y662.set (x5_1 : Int).toNat (⟨(rd_T27 y662 x5_1).f0, wrap64 (x1_1 + 1)⟩ : S27)) := ⟨_, rfl⟩
     replace H : (laws_markRatioS.l0 k1 y663 (wrap64 ((wrap64 (x1_1 + 1)) + 1)) (wrap64 (x5_1 + 1))) = some (r1, r2) := by first | (rw [hy663]; with_reducible exact H) | (have H2_ := (Option.bind_some _ _).symm.trans H; rw [hy663]; with_reducible exact H2_) | (have H2_ := (Option.bind_some _ _).symm.trans H; with_reducible exact H2_) | with_reducible exact H | (rw [hy663]; exact H) | exact H
     have Ny663 := Aside0.mk hy663
     clear hy663
     have H' := Aside0.mk H
     clear H
     obtain ⟨Ao7, co7, eo7⟩ := Kd.R_slice HO_0.out
     subst eo7
     have p5 : 0 ≤ (x5_1 : Int) := of_decide_eq_true (by first | (with_reducible assumption) | assumption)
     have q5 : (x5_1 : Int) < ((x0_1.length : Int) : Int) := of_decide_eq_true (by first | (with_reducible assumption) | assumption)
     obtain ⟨go5, co5, eo5, gb5, gl5, cl5, HG5⟩ := Kd.R_form HO_0.out (by omega)
     (first | cases eo5 | (injection eo5 with ea_ en_ ec_; (first | subst ea_ | (injection ea_ with ea_; subst ea_)); subst ec_; clear en_))
     have GB5 := Aside0.mk gb5
     have GG5 := Aside0.mk HG5
     clear gb5 gl5 HG5
     have HMgo5 := Aside0.mk (show (P0_ go5 ∨ w.heap.size ≤ go5) from (HO_0.out.1 _ rfl))
     obtain ⟨ce5, hcl5, hM5, hcc5, hfr5⟩ := Kd.R_elem HO_0.out z27 (x5_1 : Int) p5 q5
     obtain rfl := k27_openM hM5
     have hx5_0 : wr.cell? ⟨go5, (x5_1 : Int).toNat * 2, none⟩ = some (.int .i64 ((rd_T27 x0_1 x5_1).f0)) := hcc5 0 _ rfl
     have hx5_1 : wr.cell? ⟨go5, (x5_1 : Int).toNat * 2 + 1, none⟩ = some (.int .i64 ((rd_T27 x0_1 x5_1).f1)) := hcc5 1 _ rfl
     have hf5_0 : wr.frozen? ⟨go5, (x5_1 : Int).toNat * 2, none⟩ = false := hfr5 0
     have hf5_1 : wr.frozen? ⟨go5, (x5_1 : Int).toNat * 2 + 1, none⟩ = false := hfr5 1
     clear hcl5 hcc5 hfr5; (try clear hM5)
     replace p5 := eq_true p5
     replace q5 := eq_true q5
     have HX8 := Aside0.mk (show Kd.R k27 27 wr w0.heap.size (fun k_ => (P0_ k_ ∨ w.heap.size ≤ k_)) (.slice (some ⟨go5, 0, none⟩) x0_1.length co7) x0_1 from (by (with_reducible repeat (first | apply Kd.R_alloc | apply Kd.R_drewN | apply Kd.R_drew)); exact HO_0.out))
     obtain ⟨ce8, hcl8, hM8, hcc8, hfr8⟩ := Kd.R_elem HX8.out z27 (x5_1 : Int) (of_decide_eq_true (by first | (with_reducible assumption) | assumption)) (by have h_ : (x5_1 : Int) < ((x0_1.length : Int) : Int) := of_decide_eq_true (by first | (with_reducible assumption) | assumption); first | exact h_ | (have e_ := (Kd.R_reads' HO_0.out).1; omega) | simpa using h_)
     obtain rfl := k27_openM hM8
     have HP8 := Kd.R_seg HX8.out (x5_1 : Int) (of_decide_eq_true (by first | (with_reducible assumption) | assumption)) (by have h_ : (x5_1 : Int) < ((x0_1.length : Int) : Int) := of_decide_eq_true (by first | (with_reducible assumption) | assumption); first | exact h_ | (have e_ := (Kd.R_reads' HO_0.out).1; omega) | simpa using h_) (seg := [.int .i64 x1_1]) (j := 0) hcl8 hcc8 (show 1 ≤ 2 from by decide) (x' := (⟨x1_1, (rd_T27 x0_1 x5_1).f1⟩ : S27)) (k27_mkM _ _ _ (⟨x1_1, (rd_T27 x0_1 x5_1).f1⟩ : S27) ) (fun _ hk => hk)
     have hx8_0 := hcc8 0 _ rfl
     (try simp only [show (k27).sz = 2 from rfl, Nat.mul_one, Nat.add_zero] at hx8_0)
     have hf8_0 := hfr8 0
     (try simp only [show (k27).sz = 2 from rfl, Nat.mul_one, Nat.add_zero] at hf8_0)
     clear hcl8 hcc8 hfr8; (try clear hM8)
     go_wp2_with (first | ((with_reducible refine gate_store (t := 3) (p := 16) rfl ?_); refine store_event (t := 3) (p := 16) (v := ?vo_w9) (w1 := (wr.setCell ⟨go5, (x5_1 : Int).toNat * 2, none⟩ (.int .i64 x1_1))) ?hg ?ho ?hn ?hr ?_; (case ho => rfl); (case hg => rfl); (case hn => rfl); (case hr => first | (go_simp; done) | (go_simp; rfl)); intro w9 hw; have hg : wr.grownBy w9 (some go5) := (by rw [hw]; exact HP8.2); have hp_ : Kd.R k27 27 w9 w0.heap.size (fun k_ => (P0_ k_ ∨ w.heap.size ≤ k_)) (.slice (some ⟨go5, 0, none⟩) x0_1.length co7) y662 := (by rw [hw, Ny662.out]; exact HP8.1); clear HP8; have n0_ := Aside0.mk (hp_); have n1_ := Aside0.mk ((by rw [hw]; exact bS_ (HB.out) GB5.out : Below w0.heap.size w0 w9)); have n2_ := Aside0.mk (Kept.of_grown (S := (fun k_ => P0_ k_)) hg (by repeat (first | (with_reducible first | exact HK.out | apply Kept.alloc | apply Kept.drewN | apply Kept.drew) | exact HK.out)) (fun k_ e_ => (HO_0.out.1 k_ e_))); clear HO_0; clear HB; clear HK; have HO_0 := n0_; have HB := n1_; have HK := n2_; clear n0_ n1_ n2_; clear hg hw hp_; have p6 : 0 ≤ (x5_1 : Int) := of_decide_eq_true (by first | (with_reducible assumption) | assumption); have q6 : (x5_1 : Int) < ((x0_1.length : Int) : Int) := of_decide_eq_true (by first | (with_reducible assumption) | assumption); obtain ⟨ce6, hcl6, hM6, hcc6, hfr6⟩ := Kd.R_elem HO_0.out z27 (x5_1 : Int) p6 q6; obtain rfl := k27_openM hM6; have hx6_0 : w9.cell? ⟨go5, (x5_1 : Int).toNat * 2, none⟩ = some (.int .i64 ((rd_T27 y662 x5_1).f0)) := hcc6 0 _ rfl; have hx6_1 : w9.cell? ⟨go5, (x5_1 : Int).toNat * 2 + 1, none⟩ = some (.int .i64 ((rd_T27 y662 x5_1).f1)) := hcc6 1 _ rfl; have hf6_0 : w9.frozen? ⟨go5, (x5_1 : Int).toNat * 2, none⟩ = false := hfr6 0; have hf6_1 : w9.frozen? ⟨go5, (x5_1 : Int).toNat * 2 + 1, none⟩ = false := hfr6 1; clear hcl6 hcc6 hfr6; (try clear hM6); replace p6 := eq_true p6; replace q6 := eq_true q6; have HX10 := Aside0.mk (show Kd.R k27 27 w9 w0.heap.size (fun k_ => (P0_ k_ ∨ w.heap.size ≤ k_)) (.slice (some ⟨go5, 0, none⟩) x0_1.length co7) y662 from (by (with_reducible repeat (first | apply Kd.R_alloc | apply Kd.R_drewN | apply Kd.R_drew)); exact HO_0.out)); obtain ⟨ce10, hcl10, hM10, hcc10, hfr10⟩ := Kd.R_elem HX10.out z27 (x5_1 : Int) (of_decide_eq_true (by first | (with_reducible assumption) | assumption)) (by have h_ : (x5_1 : Int) < ((x0_1.length : Int) : Int) := of_decide_eq_true (by first | (with_reducible assumption) | assumption); first | exact h_ | (have e_ := (Kd.R_reads' HO_0.out).1; omega) | simpa using h_); obtain rfl := k27_openM hM10; have HP10 := Kd.R_seg HX10.out (x5_1 : Int) (of_decide_eq_true (by first | (with_reducible assumption) | assumption)) (by have h_ : (x5_1 : Int) < ((x0_1.length : Int) : Int) := of_decide_eq_true (by first | (with_reducible assumption) | assumption); first | exact h_ | (have e_ := (Kd.R_reads' HO_0.out).1; omega) | simpa using h_) (seg := [.int .i64 (wrap64 (x1_1 + 1))]) (j := 1) hcl10 hcc10 (show 2 ≤ 2 from by decide) (x' := (⟨(rd_T27 y662 x5_1).f0, wrap64 (x1_1 + 1)⟩ : S27)) (k27_mkM _ _ _ (⟨(rd_T27 y662 x5_1).f0, wrap64 (x1_1 + 1)⟩ : S27) ) (fun _ hk => hk); have hx10_1 := hcc10 1 _ rfl; (try simp only [show (k27).sz = 2 from rfl, Nat.mul_one, Nat.add_zero] at hx10_1); have hf10_1 := hfr10 1; (try simp only [show (k27).sz = 2 from rfl, Nat.mul_one, Nat.add_zero] at hf10_1); clear hcl10 hcc10 hfr10; (try clear hM10)) | ((with_reducible refine gate_store (t := 3) (p := 23) rfl ?_); refine store_event (t := 3) (p := 23) (v := ?vo_w11) (w1 := (w9.setCell ⟨go5, (x5_1 : Int).toNat * 2 + 1, none⟩ (.int .i64 (wrap64 (x1_1 + 1))))) ?hg ?ho ?hn ?hr ?_; (case ho => rfl); (case hg => rfl); (case hn => rfl); (case hr => first | (go_simp; done) | (go_simp; rfl)); intro w11 hw; have hg : w9.grownBy w11 (some go5) := (by rw [hw]; exact HP10.2); have hp_ : Kd.R k27 27 w11 w0.heap.size (fun k_ => (P0_ k_ ∨ w.heap.size ≤ k_)) (.slice (some ⟨go5, 0, none⟩) x0_1.length co7) y663 := (by rw [hw, Ny663.out]; exact HP10.1); clear HP10; have n0_ := Aside0.mk (hp_); have n1_ := Aside0.mk ((by rw [hw]; exact bS_ (HB.out) GB5.out : Below w0.heap.size w0 w11)); have n2_ := Aside0.mk (Kept.of_grown (S := (fun k_ => P0_ k_)) hg (by repeat (first | (with_reducible first | exact HK.out | apply Kept.alloc | apply Kept.drewN | apply Kept.drew) | exact HK.out)) (fun k_ e_ => (HO_0.out.1 k_ e_))); clear HO_0; clear HB; clear HK; have HO_0 := n0_; have HB := n1_; have HK := n2_; clear n0_ n1_ n2_; clear hg hw hp_))
     go_roundg k1
     case measure => have := HK1.out; omega
     case rel => exact ⟨(y663), (wrap64 ((wrap64 (x1_1 + 1)) + 1)), (wrap64 (x5_1 + 1)), (by first | rfl | (simp; done) | (simp [*]; done)), (by first | rfl | (simp; done) | (simp [*]; done)), H', ⟨by have := HK1.out; omega⟩, ⟨by (with_reducible repeat (first | apply Kd.R_alloc | apply Kd.R_drewN | apply Kd.R_drew)); exact HO_0.out⟩, ⟨by repeat (first | (with_reducible first | exact HK.out | apply Kept.alloc | apply Kept.drewN | apply Kept.drew) | exact HK.out)⟩, ⟨by repeat (first | (with_reducible first | exact HB.out | apply bA_ | apply bN_ | apply bD_) | exact HB.out)⟩⟩
    ·rw [if_neg c4] at H
     exact absurd H (by simp)
   ·rw [if_neg c3] at H
    have c3b0 : decide (x5_1 < (x0_1.length : Int)) = false := decide_eq_false c3
    clear c3
    simp only [Option.some.injEq, Prod.mk.injEq] at H
    obtain ⟨rfl, rfl⟩ := H
    obtain ⟨Ao12, co12, eo12⟩ := Kd.R_slice HO_0.out
    subst eo12
    go_wp2
    go_ret
    exact ⟨by first | rfl | (simp [errW_none, errW_some] <;> rfl) | (simp [*, errW_none, errW_some] <;> rfl), by (with_reducible repeat (first | apply Kd.R_alloc | apply Kd.R_drewN | apply Kd.R_drew)); exact HO_0.out, by repeat (first | (with_reducible first | exact HB.out | apply bA_ | apply bN_ | apply bD_) | exact HB.out), by repeat (first | (with_reducible first | exact HK.out | apply Kept.alloc | apply Kept.drewN | apply Kept.drew) | exact HK.out)⟩
def laws_heldRatioS.l0 : Nat → List (S27) → Int → Int → Option (Int)
 | 0, _, _, _ => none
 | k + 1, x0, x1, x5 => if x5 < (x0.length : Int) then (if 0 ≤ x5 then (if ((rd_T27 x0 x5).f0) = x1 then (if ((rd_T27 x0 x5).f1) = (wrap64 (x1 + 1)) then (laws_heldRatioS.l0 k x0 (wrap64 ((wrap64 (x1 + 1)) + 1)) (wrap64 (x5 + 1))) else (some (-1))) else (some (-1))) else (none)) else (some x1)
def laws_heldRatioS.f (k : Nat) (l0 : List (S27)) (a1 : Int) : Option (Int) := laws_heldRatioS.l0 k l0 a1 0
set_option maxHeartbeats 8000000 in
set_option maxRecDepth 100000 in
theorem laws_heldRatioS.calls (k : Nat) (A0 : Option Addr) (c0 : Nat) (l0 : List (S27)) (a1 : Int) (r : Int) (w : World) (hr0 : Kd.C k27 w A0 l0.length l0) (hc0 : l0.length ≤ c0) (h : laws_heldRatioS.f k l0 a1 = some r) :
  Calls Try.prog 50 #[.slice A0 l0.length c0, .int .i64 a1] w fun e w' => e = .returned (.int .i64 r) ∧ Drawn0 w w' := by
 have HR0 := Aside0.mk hr0
 have HC0 := Aside0.mk hc0
 clear hr0 hc0
 have H : (laws_heldRatioS.l0 k l0 a1 0) = some r := h
 clear h
 have H' := Aside0.mk H
 clear H
 go_enter Try.func50, Try.ntmps50
 go_wp2
 go_loopg [1, 5] k (fun kq v1 v5 w' => ∃ (x1_1 : Int) (x5_1 : Int), v1 = .int .i64 x1_1 ∧ v5 = .int .i64 x5_1 ∧ Aside0 (laws_heldRatioS.l0 kq l0 x1_1 x5_1 = some r) ∧ Aside0 (kq ≤ k) ∧ Drawn0 w w')
 case atStart => exact ⟨(a1), (0), (by first | rfl | (simp; done) | (simp [*]; done)), (by first | rfl | (simp; done) | (simp [*]; done)), H', ⟨Nat.le_refl _⟩, by repeat (first | exact Drawn0.refl _ | apply Drawn0.step)⟩
 case round =>
  clear H'
  try clear p2
  obtain ⟨x1_1, x5_1, rfl, rfl, HA, HK1, ⟨m1, rfl⟩⟩ := hrel
  cases gk with
  | zero => exact absurd HA.out (by simp [laws_heldRatioS.l0])
  | succ k1 =>
   have H := HA.out
   clear HA
   simp only [laws_heldRatioS.l0] at H
   by_cases c3 : x5_1 < (l0.length : Int)
   ·rw [if_pos c3] at H
    have c3b0 : decide (x5_1 < (l0.length : Int)) = true := decide_eq_true c3
    clear c3
    by_cases c4 : 0 ≤ x5_1
    ·rw [if_pos c4] at H
     have c4b0 : decide (0 ≤ x5_1) = true := decide_eq_true c4
     clear c4
     by_cases c5 : ((rd_T27 l0 x5_1).f0) = x1_1
     ·rw [if_pos c5] at H
      have c5b0 : (((rd_T27 l0 x5_1).f0) == x1_1) = true := beq_iff_eq.mpr c5
      have c5b1 : (((rd_T27 l0 x5_1).f0) != x1_1) = false := bne_eq_false_iff_eq.mpr c5
      clear c5
      by_cases c6 : ((rd_T27 l0 x5_1).f1) = (wrap64 (x1_1 + 1))
      ·rw [if_pos c6] at H
       have c6b0 : (((rd_T27 l0 x5_1).f1) == (wrap64 (x1_1 + 1))) = true := beq_iff_eq.mpr c6
       have c6b1 : (((rd_T27 l0 x5_1).f1) != (wrap64 (x1_1 + 1))) = false := bne_eq_false_iff_eq.mpr c6
       clear c6
       have H' := Aside0.mk H
       clear H
       have p664 : 0 ≤ (x5_1 : Int) := of_decide_eq_true (by first | (with_reducible assumption) | assumption)
       have q664 : x5_1 < (l0.length : Int) := of_decide_eq_true (by first | (with_reducible assumption) | assumption)
       obtain ⟨ad664, e664, hx664_0, hx664_1⟩ := at_T27 HR0.out x5_1 p664 q664
       cases e664
       replace p664 := eq_true p664
       replace q664 := eq_true q664
       have p665 : 0 ≤ (x5_1 : Int) := of_decide_eq_true (by first | (with_reducible assumption) | assumption)
       have q665 : x5_1 < (l0.length : Int) := of_decide_eq_true (by first | (with_reducible assumption) | assumption)
       obtain ⟨ad665, e665, hx665_0, hx665_1⟩ := at_T27 HR0.out x5_1 p665 q665
       obtain rfl : ad664 = ad665 := (by injection e665)
       replace p665 := eq_true p665
       replace q665 := eq_true q665
       go_wp2
       go_roundg k1
       case measure => have := HK1.out; omega
       case rel => exact ⟨(wrap64 ((wrap64 (x1_1 + 1)) + 1)), (wrap64 (x5_1 + 1)), (by first | rfl | (simp; done) | (simp [*]; done)), (by first | rfl | (simp; done) | (simp [*]; done)), H', ⟨by have := HK1.out; omega⟩, by repeat (first | exact Drawn0.refl _ | apply Drawn0.step)⟩
      ·rw [if_neg c6] at H
       have c6b0 : (((rd_T27 l0 x5_1).f1) == (wrap64 (x1_1 + 1))) = false := beq_eq_false_iff_ne.mpr c6
       have c6b1 : (((rd_T27 l0 x5_1).f1) != (wrap64 (x1_1 + 1))) = true := bne_iff_ne.mpr c6
       obtain rfl := Option.some.inj H
       have p664 : 0 ≤ (x5_1 : Int) := of_decide_eq_true (by first | (with_reducible assumption) | assumption)
       have q664 : x5_1 < (l0.length : Int) := of_decide_eq_true (by first | (with_reducible assumption) | assumption)
       obtain ⟨ad664, e664, hx664_0, hx664_1⟩ := at_T27 HR0.out x5_1 p664 q664
       cases e664
       replace p664 := eq_true p664
       replace q664 := eq_true q664
       have p665 : 0 ≤ (x5_1 : Int) := of_decide_eq_true (by first | (with_reducible assumption) | assumption)
       have q665 : x5_1 < (l0.length : Int) := of_decide_eq_true (by first | (with_reducible assumption) | assumption)
       obtain ⟨ad665, e665, hx665_0, hx665_1⟩ := at_T27 HR0.out x5_1 p665 q665
       obtain rfl : ad664 = ad665 := (by injection e665)
       replace p665 := eq_true p665
       replace q665 := eq_true q665
       go_wp2
       go_ret
       exact ⟨by first | rfl | (simp; done) | (simp [*]; done), by repeat (first | exact Drawn0.refl _ | apply Drawn0.step)⟩
     ·rw [if_neg c5] at H
      have c5b0 : (((rd_T27 l0 x5_1).f0) == x1_1) = false := beq_eq_false_iff_ne.mpr c5
      have c5b1 : (((rd_T27 l0 x5_1).f0) != x1_1) = true := bne_iff_ne.mpr c5
      obtain rfl := Option.some.inj H
      have p664 : 0 ≤ (x5_1 : Int) := of_decide_eq_true (by first | (with_reducible assumption) | assumption)
      have q664 : x5_1 < (l0.length : Int) := of_decide_eq_true (by first | (with_reducible assumption) | assumption)
      obtain ⟨ad664, e664, hx664_0, hx664_1⟩ := at_T27 HR0.out x5_1 p664 q664
      cases e664
      replace p664 := eq_true p664
      replace q664 := eq_true q664
      go_wp2
      go_ret
      exact ⟨by first | rfl | (simp; done) | (simp [*]; done), by repeat (first | exact Drawn0.refl _ | apply Drawn0.step)⟩
    ·rw [if_neg c4] at H
     exact absurd H (by simp)
   ·rw [if_neg c3] at H
    have c3b0 : decide (x5_1 < (l0.length : Int)) = false := decide_eq_false c3
    clear c3
    obtain rfl := Option.some.inj H
    go_wp2
    go_ret
    exact ⟨by first | rfl | (simp; done) | (simp [*]; done), by repeat (first | exact Drawn0.refl _ | apply Drawn0.step)⟩
end Go.Proofs.Ytnbnalbomflafaa.GR
namespace Go.Proofs.Ytnbnalbomflafaa.RA
open Go.RowKit YtnbnalbomflafaaW.PrintWords YtnbnalbomflafaaW.PrintLast YtnbnalbomflafaaW.PrintMore
open GA hiding info37
open GR hiding rd_L1 at_L1
open DT
theorem reps_map {α β : Type} {R : α → List Value → Prop} {R' : β → List Value → Prop} {size : Nat} {ps : List α} {cs : List Value} (f : α → β) (h : Reps R size ps cs) (hR : ∀ p c, R p c → R' (f p) c) : Reps R' size (ps.map f) cs := by
 refine ⟨by rw [List.length_map]; exact h.1, fun j p hj => ?_⟩
 rw [List.getElem?_map] at hj
 obtain ⟨q, hq, rfl⟩ := Option.map_eq_some_iff.1 hj
 exact hR _ _ (h.2 j q hq)
theorem own_map {α β : Type} {R : α → List Value → Prop} {R' : β → List Value → Prop} {e : TypeId} {size : Nat} {w : World} {base : Nat} {v : Value} {ps : List α} (f : α → β) (h : OwnRow R e size w base v ps) (hR : ∀ p c, R p c → R' (f p) c) : OwnRow R' e size w base v (ps.map f) := by
 obtain ⟨inner, ho, hr⟩ := h
 exact ⟨inner, by rw [List.length_map]; exact ho, reps_map f hr hR⟩
theorem reads_map {α β : Type} {R : α → List Value → Prop} {R' : β → List Value → Prop} {size n : Nat} {w : World} {A : Option Addr} {ps : List α} (f : α → β) (h : ReadsRow R size w A n ps) (hR : ∀ p c, R p c → R' (f p) c) : ReadsRow R' size w A n (ps.map f) := by
 refine ⟨by rw [List.length_map]; exact h.1, h.2.1, fun hn => ?_⟩
 obtain ⟨ad, e, hc⟩ := h.2.2 hn
 refine ⟨ad, e, fun j p hj => ?_⟩
 rw [List.getElem?_map] at hj
 obtain ⟨q, hq, rfl⟩ := Option.map_eq_some_iff.1 hj
 obtain ⟨c, hs, hr, hcell⟩ := hc j q hq
 exact ⟨c, hs, hR _ _ hr, hcell⟩
def RatR (x : Int × Int) (cs : List Value) : Prop := cs = [.int .i64 x.1, .int .i64 x.2]
def RatsD (w : World) (base : Nat) (v : Value) (l : List (Int × Int)) : Prop := OwnRow RatR 27 2 w base v l
def RatsC (w : World) (v : Value) (l : List (Int × Int)) : Prop := ∃ A c, v = .slice A l.length c ∧ l.length ≤ c ∧ ReadsRow RatR 2 w A l.length l
def RatsU (w : World) (base u : Nat) (v : Value) (l : List (Int × Int)) : Prop := RatsD w base v l ∧ ∀ k, v.ownBlock = some k → k < u
theorem RatsC.below {w w1 : World} {v : Value} {l : List (Int × Int)} (h : RatsC w v l) (hB : Below w.heap.size w w1) : RatsC w1 v l := by
 obtain ⟨A, c, h1, h2, h3⟩ := h
 exact ⟨A, c, h1, h2, h3.imp_ hB fun _ _ h => h⟩
theorem RatsD.reads {w : World} {base : Nat} {v : Value} {l : List (Int × Int)} (h : RatsD w base v l) : RatsC w v l := OwnRow.reads h
theorem RatsD.toU {w : World} {base : Nat} {v : Value} {l : List (Int × Int)} (h : RatsD w base v l) : RatsU w base w.heap.size v l := ⟨h, fun k hk => by obtain ⟨_, ho, _⟩ := h; exact own_lt ho k hk⟩
theorem RatsU.reads {w : World} {base u : Nat} {v : Value} {l : List (Int × Int)} (h : RatsU w base u v l) : RatsC w v l := h.1.reads
theorem RatsU.moveIn {w w1 : World} {base u : Nat} {v : Value} {l : List (Int × Int)} (h : RatsU w base u v l) (e : ∀ b, base ≤ b → b < u → w1.heap[b]? = w.heap[b]?) : RatsU w1 base u v l := by
 obtain ⟨⟨inner, ho, hr⟩, hu⟩ := h
 exact ⟨⟨inner, own_move ho fun k hk => e k (own_base ho k hk) (hu k hk), hr⟩, hu⟩
theorem RatsU.below {w w1 : World} {base u : Nat} {v : Value} {l : List (Int × Int)} (h : RatsU w base u v l) (hu : u ≤ w.heap.size) (hB : Below w.heap.size w w1) : RatsU w1 base u v l := h.moveIn fun b _ hb => hB.block b (by omega)
theorem RatsU.drewN {w : World} {base u : Nat} {v : Value} {l : List (Int × Int)} (h : RatsU w base u v l) (n : Nat) : RatsU (w.drewN n) base u v l := h.moveIn fun _ _ _ => by simp
def toS (x : Int × Int) : S27 := ⟨x.1, x.2⟩
theorem rats_C {w : World} {A : Option Addr} {n : Nat} {l : List (Int × Int)} (h : ReadsRow RatR 2 w A n l) : Kd.C GR.k27 w A n (l.map toS) := reads_map toS h fun p c hc => by
 unfold RatR at hc
 rw [hc]
 exact GR.k27_mk w (toS p)
theorem rats_R {w : World} {base : Nat} {v : Value} {l : List (Int × Int)} {ok : Nat → Prop} (h : RatsD w base v l) (hok : ∀ k, v.ownBlock = some k → ok k) : Kd.R GR.k27 27 w base ok v (l.map toS) := ⟨hok, own_map toS h fun p c hc => by
 unfold RatR at hc
 rw [hc]
 exact GR.k27_mkM w base _ (toS p)⟩
theorem rats_of {w : World} {base : Nat} {v : Value} {l : List S27} {ok : Nat → Prop} (h : Kd.R GR.k27 27 w base ok v l) : RatsD w base v (l.map fun x => (x.f0, x.f1)) := own_map _ h.2 fun p c hc => GR.k27_openM hc
theorem rats_ofT {w : World} {base : Nat} {v : Value} {l : List GT.S27} {ok : Nat → Prop} (h : Kd.R GT.k27 27 w base ok v l) : RatsD w base v (l.map fun x => (x.f0, x.f1)) := own_map _ h.2 fun p c hc => GT.k27_openM hc
theorem rats_ofV {w : World} {base : Nat} {v : Value} {l : List GV.S27} {ok : Nat → Prop} (h : Kd.R GV.k27 27 w base ok v l) : RatsD w base v (l.map fun x => (x.f0, x.f1)) := own_map _ h.2 fun p c hc => GV.k27_openM hc
def FitsQ (R : List (Int × Int)) : Prop := R.length ≤ 1000000
def marksQ (n : Nat) (m : Int) : List (Int × Int) := (List.range n).map fun (i : Nat) => (m + 2 * (i : Int), m + 2 * (i : Int) + 1)
theorem rdT_at (l : List S27) (i : Nat) (h : i < l.length) : GR.rd_T27 l (i : Int) = l[i] := by
 unfold GR.rd_T27
 rw [Int.toNat_natCast, List.getD_eq_getElem?_getD, List.getElem?_eq_getElem h]
 rfl
theorem eqRS_loop (l : List S27) (hn : l.length ≤ 1000000) (d : Nat) : ∀ (k i : Nat), i + d = l.length → d < k → laws_eqRatioS.l0 k l l (i : Int) = some true := by
 induction d with
 | zero =>
  intro k i hi hk
  obtain ⟨k, rfl⟩ := KA.succ_of hk
  unfold laws_eqRatioS.l0
  rw [if_neg (by omega)]
 | succ d ih =>
  intro k i hi hk
  obtain ⟨k, rfl⟩ := KA.succ_of (show 0 < k by omega)
  unfold laws_eqRatioS.l0
  rw [if_pos (by omega), if_pos (by omega), if_pos (by omega), show (laws_eqRatio.f ((rd_T27 l (i : Int)).f0) ((rd_T27 l (i : Int)).f1) ((rd_T27 l (i : Int)).f0) ((rd_T27 l (i : Int)).f1)) = some true by simp [laws_eqRatio.f], Option.bind_some, if_pos rfl, KA.wrap_up (show i < l.length by omega) (by omega)]
  exact ih k (i + 1) (by omega) (by omega)
theorem eqRS_c (w : World) (v u : Value) (R : List (Int × Int)) (hv : RatsC w v R) (hu : RatsC w u R) (hf : FitsQ R) : Calls Try.prog 48 #[v, u] w fun e w' => e = .returned (.bool true) ∧ Below w.heap.size w w' := by
 obtain ⟨A, c, rfl, hc, hC⟩ := hv
 obtain ⟨A2, c2, rfl, hc2, hC2⟩ := hu
 have e : (R.map toS).length = R.length := List.length_map ..
 have := laws_eqRatioS.calls (R.length + 2) A c (R.map toS) A2 c2 (R.map toS) true w (by rw [e]; exact rats_C hC) (by rw [e]; exact hc) (by rw [e]; exact rats_C hC2) (by rw [e]; exact hc2) (by
  unfold laws_eqRatioS.f
  rw [if_pos rfl]
  exact eqRS_loop _ (by rw [e]; exact hf) (R.map toS).length _ 0 (by omega) (by omega))
 rwa [e] at this
theorem markRS_from (n : Nat) (m : Int) (hm : 0 ≤ m ∧ m + 2 * (n : Int) ≤ 1000000000000) (d : Nat) : ∀ (k i : Nat) (l : List S27), l.length = n → i + d = n → d < k → l.take i = (marksQ i m).map toS →
  laws_markRatioS.l0 k l (m + 2 * (i : Int)) (i : Int) = some (m + 2 * (n : Int), (marksQ n m).map toS) := by
 induction d with
 | zero =>
  intro k i l hl hi hk ht
  obtain ⟨k, rfl⟩ := KA.succ_of hk
  obtain rfl : i = n := by omega
  unfold laws_markRatioS.l0
  rw [if_neg (by omega), ← ht, List.take_of_length_le (by omega)]
 | succ d ih =>
  intro k i l hl hi hk ht
  obtain ⟨k, rfl⟩ := KA.succ_of (show 0 < k by omega)
  have hlt : i < l.length := by omega
  have e1 : wrap64 (m + 2 * (i : Int) + 1) = m + 2 * (i : Int) + 1 := wrap_id (by omega) (by omega)
  have e2 : wrap64 (m + 2 * (i : Int) + 1 + 1) = m + 2 * ((i + 1 : Nat) : Int) := by rw [wrap_id (by omega) (by omega)]; omega
  unfold laws_markRatioS.l0
  rw [if_pos (by omega), if_pos (by omega), Option.bind_some, e1, e2, KA.wrap_up (show i < l.length by omega) (by omega), Int.toNat_natCast, rdT_at l i hlt, rdT_at (l.set i _) i (by simpa using hlt)]
  simp only [List.getElem_set_self, List.set_set]
  refine ih k (i + 1) _ (by simpa using hl) (by omega) (by omega) ?_
  rw [List.take_add_one, List.take_set_of_le (by omega), ht]
  simp [marksQ, List.range_succ, hlt, toS]
def MarkQ (w : World) (n u : Nat) (v : Value) (l : List (Int × Int)) (m : Int) (e : Ending) (w' : World) : Prop := e = .returned (.int .i64 (m + 2 * (l.length : Int))) ∧ Below n w w' ∧ Aside0 (RatsU w' n u v (marksQ l.length m)) ∧ Aside0 (∀ b, u ≤ b → b < w.heap.size → w'.heap[b]? = w.heap[b]?)
theorem markRS_U (n u : Nat) (w : World) (hn : n ≤ w.heap.size) (v : Value) (l : List (Int × Int)) (m : Int) (hm1 : m = 1) (h : RatsU w n u v l) (hf : FitsQ l) : Calls Try.prog 49 #[v, .int .i64 m] w (MarkQ w n u v l m) := by
 have hs := cutW_size hn
 have hb := cutW_below hn
 have e : (l.map toS).length = l.length := List.length_map ..
 unfold FitsQ at hf
 have hR : Kd.R GR.k27 27 w (cutW w n).heap.size (fun k => v.ownBlock = some k) v (l.map toS) := by rw [hs]; exact rats_R h.1 (fun _ hk => hk)
 refine (laws_markRatioS.calls (l.length + 1) (fun k => v.ownBlock = some k) v (l.map toS) m (m + 2 * (l.length : Int)) ((marksQ l.length m).map toS) (cutW w n) w hb hR (by
  unfold laws_markRatioS.f
  have := markRS_from l.length m (by omega) l.length (l.length + 1) 0 (l.map toS) e (by omega) (by omega) (by simp [marksQ])
  simpa using this)).mono ?_
 rintro e w1 ⟨rfl, ho, h1, hk⟩
 rw [hs] at h1 hb
 have ho2 := rats_of ho
 rw [hs, List.map_map] at ho2
 have ho3 : RatsD w1 n v (marksQ l.length m) := by
  have : (marksQ l.length m).map ((fun x : S27 => (x.f0, x.f1)) ∘ toS) = marksQ l.length m := by
   conv => rhs; rw [← List.map_id (marksQ l.length m)]
   rfl
  rwa [this] at ho2
 exact ⟨rfl, ⟨h1.os.trans hb.os.symm, h1.tape.trans hb.tape.symm, h1.output.trans hb.output.symm, hk.1, fun k hlt => (h1.block k hlt).trans (hb.block k hlt).symm⟩, ⟨ho3, h.2⟩, ⟨fun b h2 h3 => hk.2 b h3 fun c => by have := h.2 b c; omega⟩⟩
theorem heldRS_from (n : Nat) (m : Int) (hm : 0 ≤ m ∧ m + 2 * (n : Int) ≤ 1000000000000) (d : Nat) : ∀ (k i : Nat), i + d = n → d < k → laws_heldRatioS.l0 k ((marksQ n m).map toS) (m + 2 * (i : Int)) (i : Int) = some (m + 2 * (n : Int)) := by
 have hl : ((marksQ n m).map toS).length = n := by simp [marksQ]
 induction d with
 | zero =>
  intro k i hi hk
  obtain ⟨k, rfl⟩ := KA.succ_of hk
  obtain rfl : i = n := by omega
  unfold laws_heldRatioS.l0
  rw [if_neg (by omega)]
 | succ d ih =>
  intro k i hi hk
  obtain ⟨k, rfl⟩ := KA.succ_of (show 0 < k by omega)
  have e1 : wrap64 (m + 2 * (i : Int) + 1) = m + 2 * (i : Int) + 1 := wrap_id (by omega) (by omega)
  have e2 : wrap64 (m + 2 * (i : Int) + 1 + 1) = m + 2 * ((i + 1 : Nat) : Int) := by rw [wrap_id (by omega) (by omega)]; omega
  have e3 : GR.rd_T27 ((marksQ n m).map toS) (i : Int) = ⟨m + 2 * (i : Int), m + 2 * (i : Int) + 1⟩ := by rw [rdT_at _ _ (by omega)]; simp [marksQ, toS]
  unfold laws_heldRatioS.l0
  rw [if_pos (by omega), if_pos (by omega), e3, if_pos rfl, e1, if_pos rfl, e2, KA.wrap_up (show i < n by omega) (by omega)]
  exact ih k (i + 1) (by omega) (by omega)
theorem heldRS_c (w : World) (v : Value) (R : List (Int × Int)) (h : RatsC w v (marksQ R.length 1)) (hf : FitsQ R) : Calls Try.prog 50 #[v, .int .i64 1] w fun e w' => e = .returned (.int .i64 (1 + 2 * (R.length : Int))) ∧ Drawn0 w w' := by
 obtain ⟨A, c, rfl, hc, hC⟩ := h
 unfold FitsQ at hf
 have e : ((marksQ R.length 1).map toS).length = (marksQ R.length 1).length := List.length_map ..
 have := laws_heldRatioS.calls (R.length + 2) A c ((marksQ R.length 1).map toS) 1 (1 + 2 * (R.length : Int)) w (by rw [e]; exact rats_C hC) (by rw [e]; exact hc) (by
  unfold laws_heldRatioS.f
  exact heldRS_from R.length 1 (by omega) R.length _ 0 (by omega) (by omega))
 rwa [e] at this
def ResQC (w : World) (R : List (Int × Int)) (ok : Bool) (e : Ending) (w' : World) : Prop := ∃ v, e = .returned (.tuple #[v, .bool ok]) ∧ Below w.heap.size w w' ∧ Aside0 (RatsC w' v R)
def ResQD (w : World) (R : List (Int × Int)) (ok : Bool) (e : Ending) (w' : World) : Prop := ∃ v, e = .returned (.tuple #[v, .bool ok]) ∧ Below w.heap.size w w' ∧ Aside0 (RatsD w' w.heap.size v R)
def chancesA (l : List (List Int)) (a b : Int) : List (Int × Int) := (chL l a b).map fun c => ratV c (denOf l a b)
noncomputable def chancesB (l : List (List Int)) (a b : Int) : List (Int × Int) := if goodB l a b = true then chancesA l a b else []
theorem chances_fit (l : List (List Int)) (a b : Int) : FitsQ (chancesB l a b) := by
 unfold FitsQ chancesB
 split
 ·rename_i hg
  have h := vals_of hg
  have := h.len
  have := h.l8
  simp only [chancesA, List.length_map]
  omega
 ·simp
theorem spec_chances_f (l : List (List Int)) (a b : Int) : ∃ y : List GT.S27, GT.spec_ChancesOf.f 200000000 l a b = some (y, goodB l a b) ∧ y.map (fun x => (x.f0, x.f1)) = chancesB l a b := by
 unfold GT.spec_ChancesOf.f
 rw [((goodB_is l a b).1 200000000 (by omega)).1, Option.bind_some]
 cases hg : goodB l a b with
 | false => exact ⟨[], rfl, by unfold chancesB; rw [hg]; rfl⟩
 | true =>
  obtain ⟨y, hy, hR⟩ := hiChances_f hg 200000000 (by omega)
  refine ⟨y, by rw [if_pos rfl, hy]; rfl, ?_⟩
  have hv := vals_of hg
  have hl := hv.len
  have hyl := hR.len
  unfold chancesB chancesA
  rw [if_pos hg]
  apply List.ext_getElem (by simp; omega)
  intro i h1 h2
  simp only [List.length_map] at h1 h2
  have := ratK_at hg hR (p := (i : Int)) (by omega) (by omega)
  unfold GT.rd_T27 at this
  rw [Int.toNat_natCast, List.getD_eq_getElem?_getD, List.getElem?_eq_getElem h1, rd_at _ i h2] at this
  simp only [List.getElem_map]
  rw [show y[i] = _ from this]
theorem impl_chances_loop {v : List Int} {den : Int} (hv : ∀ x ∈ v, x.natAbs ≤ 11250000) (hl : v.length ≤ 8) (h0 : 0 < den) (h1 : den ≤ 11250000) (d : Nat) : ∀ (k i : Nat), i + d = v.length → 100000010 + d < k →
  GV.impl_ChancesOf.l0 k ((v.take i).map fun c => (⟨(ratV c den).1, (ratV c den).2⟩ : GV.S27)) den v (v.length : Int) (i : Int) = some (v.map fun c => (⟨(ratV c den).1, (ratV c den).2⟩ : GV.S27), true) := by
 induction d with
 | zero =>
  intro k i hi hk
  obtain ⟨k, rfl⟩ := KA.succ_of (show 0 < k by omega)
  unfold GV.impl_ChancesOf.l0
  rw [if_neg (by omega), List.take_of_length_le (by omega)]
 | succ d ih =>
  intro k i hi hk
  obtain ⟨k, rfl⟩ := KA.succ_of (show 0 < k by omega)
  have hlt : i < v.length := by omega
  have hx := hv v[i] (List.getElem_mem hlt)
  unfold GV.impl_ChancesOf.l0
  rw [if_pos (by omega), if_pos (by omega), if_pos (by omega), rd_at _ i hlt, impl_ratio_f (by omega) h0 (by omega) k (by omega), Option.bind_some, if_pos (by simp; omega), KA.wrap_up hlt (by omega)]
  have := ih k (i + 1) (by omega) (by omega)
  rw [List.take_succ_eq_append_getElem hlt, List.map_append] at this
  exact this
theorem impl_chances_f (l : List (List Int)) (a b : Int) : ∃ y : List GV.S27, GV.impl_ChancesOf.f 200000000 l a b = some (y, goodB l a b) ∧ y.map (fun x => (x.f0, x.f1)) = chancesB l a b := by
 unfold GV.impl_ChancesOf.f impl_goodEnd.f
 rw [Option.bind_some]
 cases hg : goodB l a b with
 | false => exact ⟨[], rfl, by unfold chancesB; rw [hg]; rfl⟩
 | true =>
  have hv := vals_of hg
  have hd0 := hv.d0
  have hd1 := hv.d1
  have hl := hv.len
  have h8 := hv.l8
  have hch : impl_chances.f l a b = some (chL l a b, denOf l a b) := by unfold impl_chances.f; rw [if_pos hg]
  have := impl_chances_loop (v := chL l a b) (den := denOf l a b) (fun x hx => by
   obtain ⟨i, hi, rfl⟩ := List.getElem_of_mem hx
   have := hv.bnd (i : Int) (by omega) (by omega)
   rwa [rd_at _ i hi] at this) (by omega) hd0 hd1 (chL l a b).length 200000000 0 (by omega) (by omega)
  refine ⟨(chL l a b).map fun c => (⟨(ratV c (denOf l a b)).1, (ratV c (denOf l a b)).2⟩ : GV.S27), ?_, ?_⟩
  ·rw [if_pos rfl, hch, Option.bind_some]
   exact this
  ·unfold chancesB chancesA
   rw [if_pos hg, List.map_map]
   rfl
theorem spec_ChancesOf_c (l : List (List Int)) (a b : Int) (W : World) (v : Value) (hv : RowsC W v l) : Calls Try.prog 46 #[.agg #[v], .int .i64 a, .int .i64 b] W (ResQC W (chancesB l a b) (goodB l a b)) := by
 obtain ⟨A, c, rfl, hc, hC⟩ := hv
 obtain ⟨y, hy, he⟩ := spec_chances_f l a b
 refine (GT.spec_ChancesOf.calls 200000000 A c l a b _ _ W hC hc hy).mono ?_
 rintro e w ⟨u, rfl, hR, hB⟩
 exact ⟨u, rfl, hB, ⟨by rw [← he]; exact (rats_ofT hR).reads⟩⟩
theorem impl_ChancesOf_c (l : List (List Int)) (a b : Int) (W : World) (v : Value) (hv : RowsC W v l) : Calls Try.prog 47 #[.agg #[v], .int .i64 a, .int .i64 b] W (ResQD W (chancesB l a b) (goodB l a b)) := by
 obtain ⟨A, c, rfl, hc, hC⟩ := hv
 obtain ⟨y, hy, he⟩ := impl_chances_f l a b
 refine (GV.impl_ChancesOf.calls 200000000 A c l a b _ _ W hC hc hy).mono ?_
 rintro e w ⟨u, rfl, hR, hB⟩
 exact ⟨u, rfl, hB, ⟨by rw [← he]; exact rats_ofV hR⟩⟩
end Go.Proofs.Ytnbnalbomflafaa.RA
namespace Go.Proofs.Ytnbnalbomflafaa.RA
open Go.RowKit YtnbnalbomflafaaW.PrintWords YtnbnalbomflafaaW.PrintLast YtnbnalbomflafaaW.PrintMore
open DT
def T12_10 : Bool × List (List Nat × List Nat) := (true, [([], []), ([], []), ([1], [1]), ([0, 2, 2], [0, 2]), ([3], [3])])
def B12_10 : List Nat := [0, 0, 2, 7, 15]
theorem tabT12_10 : rtab .any (opsOf Try.f12 10) = T12_10 := by kernel_rfl
theorem bitsB12_10 : waitsOk T12_10.2 B12_10 = true := by kernel_rfl
set_option maxHeartbeats 4000000 in
set_option maxRecDepth 100000 in
theorem law_ChancesOf.walk (v0 : Value) (l0 : List (List Int)) (a1 : Int) (a2 : Int) (w : World) (hv0 : RowsC w v0 l0)  : Calls Try.prog 12 #[.agg #[v0], .int .i64 a1, .int .i64 a2] w fun e w' => e = .returned (.bool true) ∧ Below w.heap.size w w' := by
 have HS0 := Aside0.mk hv0
 clear hv0
 obtain ⟨z0, hz0⟩ : ∃ z, z = szZ l0 1048576 := ⟨_, rfl⟩
 rcases szZ_is l0 1048576 (by omega) with hq0 | ⟨hp0, hr0, hs0⟩
 ·rw [← hz0] at hq0
  have hn0 : z0 < 0 := by omega
  replace hz0 := Aside0.mk hz0
  go_enter Try.func12, Try.ntmps12
  have HZ0 := Aside0.mk hz0.out
  go_upto_region 1 with (fail)
  have HBw : Aside0 (Below w.heap.size w (w.alloc (.cells #[v0] 24))) := ⟨(Below.refl w.heap.size w).alloc (by simp) _⟩
  have hzb : w.heap.size + 1 ≤ (w.alloc (.cells #[v0] 24)).heap.size := by simp
  have cx_0 : (w.alloc (.cells #[v0] 24)).cell? ⟨w.heap.size, 0, none⟩ = some v0 := box_10 w v0 24
  generalize (w.alloc (.cells #[v0] 24)) = Wb at *
  go_wp2_with (first | (go_at_call 19; refine (szG_c _ v0 l0 (HS0.out.below HBw.out) 1048576 (by omega)).mono ?_; rintro e W1 ⟨rfl, hB1⟩; rw [← HZ0.out]; have hz2 := hB1.size; have HB3 : Aside0 (Below w.heap.size w W1) := ⟨HBw.out.trans (hB1.mono (by omega))⟩; have cx4 : W1.cell? ⟨w.heap.size, 0, none⟩ = some v0 := (hB1.cell (p := ⟨w.heap.size, 0, none⟩) (show w.heap.size < Wb.heap.size by omega)).trans cx_0; clear cx_0; clear HBw; clear hB1))
  go_ret
  exact ⟨by first | rfl | trivial, HB3.out⟩
 ·rw [← hz0] at hp0 hr0
  have hg0 : ¬ (z0 < 0) := by omega
  have HM : Aside0 (Small l0) := ⟨hs0⟩
  have ht0 : 0 ≤ tot l0 ∧ tot l0 ≤ 1048576 := ⟨tot_pos _, HM.out.2.1⟩
  have hk : ¬ (1 + tot l0 < 0) := by omega
  have HK0 : Aside0 (0 ≤ 1 + tot l0 ∧ 1 + tot l0 ≤ 100000000) := ⟨by omega⟩
  clear ht0
  obtain ⟨R, hR⟩ : ∃ R, R = chancesB l0 a1 a2 := ⟨_, rfl⟩
  obtain ⟨ok, hok⟩ : ∃ ok, ok = goodB l0 a1 a2 := ⟨_, rfl⟩
  have hfit : FitsQ R := by rw [hR]; exact chances_fit l0 a1 a2
  have spec0 := fun W v hv => spec_ChancesOf_c l0 a1 a2 W v hv
  have impl0 := fun W v hv => impl_ChancesOf_c l0 a1 a2 W v hv
  rw [← hR, ← hok] at spec0 impl0
  have hq : ¬ (1 + 2 * (R.length : Int) < 0) := by omega
  have HF := Aside0.mk hfit
  have SP := Aside0.mk spec0
  have IM := Aside0.mk impl0
  clear hR hok hfit spec0 impl0
  have HZ0 := Aside0.mk hz0
  clear hz0
  clear hs0
  go_enter Try.func12, Try.ntmps12
  go_upto_region 1 with (fail)
  have HBw : Aside0 (Below w.heap.size w (w.alloc (.cells #[v0] 24))) := ⟨(Below.refl w.heap.size w).alloc (by simp) _⟩
  have hzb : w.heap.size + 1 ≤ (w.alloc (.cells #[v0] 24)).heap.size := by simp
  have cx_0 : (w.alloc (.cells #[v0] 24)).cell? ⟨w.heap.size, 0, none⟩ = some v0 := box_10 w v0 24
  generalize (w.alloc (.cells #[v0] 24)) = Wb at *
  go_upto_region 5 with (first | (go_at_call 19; refine (szG_c _ v0 l0 (HS0.out.below HBw.out) 1048576 (by omega)).mono ?_; rintro e W1 ⟨rfl, hB5⟩; rw [← HZ0.out]; have hz6 := hB5.size; have HB7 : Aside0 (Below w.heap.size w W1) := ⟨HBw.out.trans (hB5.mono (by omega))⟩; have cx8 : W1.cell? ⟨w.heap.size, 0, none⟩ = some v0 := (hB5.cell (p := ⟨w.heap.size, 0, none⟩) (show w.heap.size < Wb.heap.size by omega)).trans cx_0; clear cx_0; clear HBw; clear hB5))
  clear HZ0
  go_upto_region 6 with (first | (go_at_call 21; refine (toG_c _ v0 l0 (HS0.out.below HB7.out) HM.out).mono ?_; rintro e W2 ⟨v9, rfl, hB10, hD11⟩; have hz12 := hB10.size; have HB13 : Aside0 (Below w.heap.size w W2) := ⟨HB7.out.trans (hB10.mono (by omega))⟩; have cx14 : W2.cell? ⟨w.heap.size, 0, none⟩ = some v0 := (hB10.cell (p := ⟨w.heap.size, 0, none⟩) (show w.heap.size < W1.heap.size by omega)).trans cx8; clear cx8; clear HB7; have HD15 := Aside0.mk hD11.out.toU; clear hD11) | (go_at_call 46; refine (SP.out _ v9 HD15.out.reads).mono ?_; rintro e W3 ⟨v16, rfl, hB17, hD18⟩; have hz19 := hB17.size; have HB20 : Aside0 (Below w.heap.size w W3) := ⟨HB13.out.trans (hB17.mono (by omega))⟩; have HD21 := Aside0.mk (HD15.out.below (by omega) hB17); have cx22 : W3.cell? ⟨w.heap.size, 0, none⟩ = some v0 := (hB17.cell (p := ⟨w.heap.size, 0, none⟩) (show w.heap.size < W2.heap.size by omega)).trans cx14; clear cx14; clear HB13 HD15))
  clear HD21
  go_upto_region 7 with (first | (go_at_call 21; refine (toG_c _ v0 l0 (HS0.out.below HB20.out) HM.out).mono ?_; rintro e W4 ⟨v23, rfl, hB24, hD25⟩; obtain ⟨A26, c27, hv_, _⟩ := hD25.out.slice; subst hv_; have hz28 := hB24.size; have HB29 : Aside0 (Below w.heap.size w W4) := ⟨HB20.out.trans (hB24.mono (by omega))⟩; have HB30 : Aside0 (Below W3.heap.size W3 W4) := ⟨hB24⟩; have cx31 : W4.cell? ⟨w.heap.size, 0, none⟩ = some v0 := (hB24.cell (p := ⟨w.heap.size, 0, none⟩) (show w.heap.size < W3.heap.size by omega)).trans cx22; clear cx22; clear HB20; have HD32 := Aside0.mk hD25.out.toU; clear hD25))
  have hB33 : Below W4.heap.size W4 (W4.alloc (.cells #[(.slice A26 l0.length c27)] 30)) := (Below.refl _ _).alloc (Nat.le_refl _) _
  have cx34 : (W4.alloc (.cells #[(.slice A26 l0.length c27)] 30)).cell? ⟨W4.heap.size, 0, none⟩ = some (.slice A26 l0.length c27) := (blk_cell (blk_new _ _) 0).trans rfl
  have hz35 : W4.heap.size < (W4.alloc (.cells #[(.slice A26 l0.length c27)] 30)).heap.size := by simp
  generalize (W4.alloc (.cells #[(.slice A26 l0.length c27)] 30)) = W5 at *
  have hz36 := hB33.size
  have HB37 : Aside0 (Below w.heap.size w W5) := ⟨HB29.out.trans (hB33.mono (by omega))⟩
  have HB38 : Aside0 (Below W3.heap.size W3 W5) := ⟨HB30.out.trans (hB33.mono (by omega))⟩
  have HD39 := Aside0.mk (HD32.out.below (by omega) hB33)
  have cx40 : W5.cell? ⟨w.heap.size, 0, none⟩ = some v0 := (hB33.cell (p := ⟨w.heap.size, 0, none⟩) (show w.heap.size < W4.heap.size by omega)).trans cx31
  clear cx31
  clear HB29 HB30 HD32
  go_upto_region 8 with (first | (go_at_call 47; refine (IM.out _ (.slice A26 l0.length c27) HD39.out.reads).mono ?_; rintro e W6 ⟨v41, rfl, hB42, hD43⟩; have hz44 := hB42.size; have HB45 : Aside0 (Below w.heap.size w W6) := ⟨HB37.out.trans (hB42.mono (by omega))⟩; have HB46 : Aside0 (Below W3.heap.size W3 W6) := ⟨HB38.out.trans (hB42.mono (by omega))⟩; have HD47 := Aside0.mk (HD39.out.below (by omega) hB42); have cx48 : W6.cell? ⟨w.heap.size, 0, none⟩ = some v0 := (hB42.cell (p := ⟨w.heap.size, 0, none⟩) (show w.heap.size < W5.heap.size by omega)).trans cx40; have cx49 : W6.cell? ⟨W4.heap.size, 0, none⟩ = some (.slice A26 l0.length c27) := (hB42.cell (p := ⟨W4.heap.size, 0, none⟩) (show W4.heap.size < W5.heap.size by omega)).trans cx34; clear cx40 cx34; clear HB37 HB38 HD39; have HD50 := Aside0.mk hD43.out.toU; clear hD43))
  go_upto_region 10 with (first | (go_at_call 48; refine (eqRS_c _ v41 v16 R HD50.out.reads (hD18.out.below HB46.out) HF.out).mono ?_; rintro e W7 ⟨rfl, hB51⟩; have hz52 := hB51.size; have HB53 : Aside0 (Below w.heap.size w W7) := ⟨HB45.out.trans (hB51.mono (by omega))⟩; have HB54 : Aside0 (Below W3.heap.size W3 W7) := ⟨HB46.out.trans (hB51.mono (by omega))⟩; have HD55 := Aside0.mk (HD47.out.below (by omega) hB51); have HD56 := Aside0.mk (HD50.out.below (by omega) hB51); have cx57 : W7.cell? ⟨w.heap.size, 0, none⟩ = some v0 := (hB51.cell (p := ⟨w.heap.size, 0, none⟩) (show w.heap.size < W6.heap.size by omega)).trans cx48; have cx58 : W7.cell? ⟨W4.heap.size, 0, none⟩ = some (.slice A26 l0.length c27) := (hB51.cell (p := ⟨W4.heap.size, 0, none⟩) (show W4.heap.size < W6.heap.size by omega)).trans cx49; clear cx48 cx49; clear HB45 HB46 HD47 HD50; clear hB51))
  go_upto_region 10 with (fail)
  have HB59 : Aside0 (Below w.heap.size w W7.drew) := ⟨bN_ HB53.out 1⟩
  have HB60 : Aside0 (Below W3.heap.size W3 W7.drew) := ⟨bN_ HB54.out 1⟩
  have HD61 : Aside0 (RowsU W7.drew W3.heap.size W4.heap.size (.slice A26 l0.length c27) l0) := ⟨HD55.out.drewN 1⟩
  clear HD55
  have HD62 : Aside0 (RatsU W7.drew W5.heap.size W6.heap.size v41 R) := ⟨HD56.out.drewN 1⟩
  clear HD56
  have cx63 : W7.drew.cell? ⟨w.heap.size, 0, none⟩ = some v0 := cx57
  have cx64 : W7.drew.cell? ⟨W4.heap.size, 0, none⟩ = some (.slice A26 l0.length c27) := cx58
  clear cx57 cx58
  have hz65 : W7.heap.size ≤ W7.drew.heap.size := by simp
  refine start_ (n := 5) (S := fun w' => w'.cell? ⟨w.heap.size, 0, none⟩ = some v0 ∧ w'.cell? ⟨W4.heap.size, 0, none⟩ = some (.slice A26 l0.length c27)) (ds := []) #[false, false, false, false, false] (by kernel_rfl) rfl rfl ⟨cx63, cx64⟩ (fun hHeld => ?_)
  refine with_tabW tabT12_10 bitsB12_10 (fun HT_ HW_ => ?_)
  generalize W7.drew = W8 at *
  refine tk_ (i := 0) (N := some 49) (v := ?_) (a' := ?_) HT_.out HW_.out rfl rfl (Or.inl ⟨by rfl, ?_⟩) hHeld ?_ ?_
  rotate_left
  ·rintro w' ⟨s0, s1⟩
   go_simp
   with_reducible rfl
  rotate_left
  ·simp only [sp_]
   rfl
  refine tk_ (i := 1) (N := some 50) (v := ?_) (a' := ?_) HT_.out HW_.out rfl rfl (Or.inl ⟨by rfl, ?_⟩) hHeld ?_ ?_
  rotate_left
  ·rintro w' ⟨s0, s1⟩
   go_simp
   with_reducible rfl
  rotate_left
  ·simp only [sp_]
   rfl
  refine one_ (i := 2) (N := some 51) #[true, true, true, false, false] rfl rfl (one_of HT_.out (by kernel_rfl)) (by decide) (fun K hK => ?_)
  refine goes_ Try.func21 (by kernel_rfl) rfl #[.agg #[v0]] (by rfl) rfl rfl (by (try simp only [List.map_toArray, List.map_cons, List.map_nil]); first | done | rfl) ?_
  (with_reducible refine (toG_c _ v0 l0 (HS0.out.below HB59.out) HM.out).mono ?_; rintro e W9 ⟨v66, rfl, hB67, hD68⟩; have hz69 := hB67.size; have HB70 : Aside0 (Below w.heap.size w W9) := ⟨HB59.out.trans (hB67.mono (by omega))⟩; have HB71 : Aside0 (Below W3.heap.size W3 W9) := ⟨HB60.out.trans (hB67.mono (by omega))⟩; have HD72 := Aside0.mk (HD61.out.below (by omega) hB67); have HD73 := Aside0.mk (HD62.out.below (by omega) hB67); have cx74 : W9.cell? ⟨w.heap.size, 0, none⟩ = some v0 := (hB67.cell (p := ⟨w.heap.size, 0, none⟩) (show w.heap.size < W8.heap.size by omega)).trans cx63; have cx75 : W9.cell? ⟨W4.heap.size, 0, none⟩ = some (.slice A26 l0.length c27) := (hB67.cell (p := ⟨W4.heap.size, 0, none⟩) (show W4.heap.size < W8.heap.size by omega)).trans cx64; clear cx63 cx64; clear HB59 HB60 HD61 HD62; have HD76 := Aside0.mk hD68.out.toU; clear hD68)
  refine ⟨_, rfl, ?_⟩
  refine hK.out _ _ ⟨cx74, cx75⟩ (fun hHeld => ?_)
  clear hK K
  refine norm_ (a' := ?_) ?_ ?_
  rotate_left
  ·show Act.put _ (some 51) _ = _
   simp only [sp_]
   rfl
  refine one_ (i := 3) (N := some 52) #[true, true, true, true, false] rfl rfl (one_of HT_.out (by kernel_rfl)) (by decide) (fun K hK => ?_)
  refine goes_ Try.func24 (by kernel_rfl) rfl #[.agg #[(.slice A26 l0.length c27)], .agg #[v66]] (by rfl) rfl rfl (by (try simp only [List.map_toArray, List.map_cons, List.map_nil]); first | done | rfl) ?_
  (with_reducible refine (eqG_c _ (.slice A26 l0.length c27) v66 l0 HD72.out.reads HD76.out.reads HM.out).mono ?_; rintro e W10 ⟨rfl, hB77⟩; have hz78 := hB77.size; have HB79 : Aside0 (Below w.heap.size w W10) := ⟨HB70.out.trans (hB77.mono (by omega))⟩; have HB80 : Aside0 (Below W3.heap.size W3 W10) := ⟨HB71.out.trans (hB77.mono (by omega))⟩; have HD81 := Aside0.mk (HD72.out.below (by omega) hB77); have HD82 := Aside0.mk (HD73.out.below (by omega) hB77); have HD83 := Aside0.mk (HD76.out.below (by omega) hB77); have cx84 : W10.cell? ⟨w.heap.size, 0, none⟩ = some v0 := (hB77.cell (p := ⟨w.heap.size, 0, none⟩) (show w.heap.size < W9.heap.size by omega)).trans cx74; have cx85 : W10.cell? ⟨W4.heap.size, 0, none⟩ = some (.slice A26 l0.length c27) := (hB77.cell (p := ⟨W4.heap.size, 0, none⟩) (show W4.heap.size < W9.heap.size by omega)).trans cx75; clear cx74 cx75; clear HB70 HB71 HD72 HD73 HD76; clear hB77)
  refine ⟨_, rfl, ?_⟩
  refine hK.out _ _ ⟨cx84, cx85⟩ (fun hHeld => ?_)
  clear hK K
  refine norm_ (a' := ?_) ?_ ?_
  rotate_left
  ·show Act.put _ (some 52) _ = _
   simp only [sp_]
   rfl
  refine pu_ (i := 4) (N := some 53) (v := ?_) (a' := ?_) HT_.out rfl rfl (Or.inl ⟨by rfl, ?_⟩) ?_ ?_
  rotate_left
  ·intro w'
   go_simp
   with_reducible rfl
  rotate_left
  ·simp only [sp_]
   rfl
  refine done_ (done_of HT_.out (by kernel_rfl)) ?_
  clear HT_ HW_ hHeld
  clear HD83
  go_upto_region 14 with (first | (go_at_call 35; refine (markG_U W3.heap.size W4.heap.size _ (by omega) (.slice A26 l0.length c27) l0 1 HD81.out HM.out HK0.out (by omega)).mono ?_; rintro e W11 ⟨rfl, hB86, HD87, hK88⟩; have hz89 := hB86.size; have HB90 : Aside0 (Below w.heap.size w W11) := ⟨HB79.out.trans (hB86.mono (by omega))⟩; have HB91 : Aside0 (Below W3.heap.size W3 W11) := ⟨HB80.out.trans (hB86.mono (by omega))⟩; have HD92 := Aside0.mk (HD82.out.moveIn fun b h1 h2 => hK88.out b (by omega) (by omega)); have cx93 : W11.cell? ⟨w.heap.size, 0, none⟩ = some v0 := (hB86.cell (p := ⟨w.heap.size, 0, none⟩) (show w.heap.size < W3.heap.size by omega)).trans cx84; have cx94 : W11.cell? ⟨W4.heap.size, 0, none⟩ = some (.slice A26 l0.length c27) := (cell_same (hK88.out (W4.heap.size) (by omega) (by omega)) 0).trans cx85; clear cx84 cx85; clear HB79 HB80 HD82; clear HD81 hB86 hK88))
  clear HD87
  go_upto_region 17 with (first | (go_at_call 48; refine (eqRS_c _ v41 v16 R HD92.out.reads (hD18.out.below HB91.out) HF.out).mono ?_; rintro e W12 ⟨rfl, hB95⟩; have hz96 := hB95.size; have HB97 : Aside0 (Below w.heap.size w W12) := ⟨HB90.out.trans (hB95.mono (by omega))⟩; have HB98 : Aside0 (Below W3.heap.size W3 W12) := ⟨HB91.out.trans (hB95.mono (by omega))⟩; have HD99 := Aside0.mk (HD92.out.below (by omega) hB95); have cx100 : W12.cell? ⟨w.heap.size, 0, none⟩ = some v0 := (hB95.cell (p := ⟨w.heap.size, 0, none⟩) (show w.heap.size < W11.heap.size by omega)).trans cx93; have cx101 : W12.cell? ⟨W4.heap.size, 0, none⟩ = some (.slice A26 l0.length c27) := (hB95.cell (p := ⟨W4.heap.size, 0, none⟩) (show W4.heap.size < W11.heap.size by omega)).trans cx94; clear cx93 cx94; clear HB90 HB91 HD92; clear hB95))
  go_upto_region 19 with (first | (go_at_call 49; refine (markRS_U W5.heap.size W6.heap.size _ (by omega) v41 R 1 rfl HD99.out HF.out).mono ?_; rintro e W13 ⟨rfl, hB102, HD103, hK104⟩; have hz105 := hB102.size; have HB106 : Aside0 (Below w.heap.size w W13) := ⟨HB97.out.trans (hB102.mono (by omega))⟩; have HB107 : Aside0 (Below W3.heap.size W3 W13) := ⟨HB98.out.trans (hB102.mono (by omega))⟩; have cx108 : W13.cell? ⟨w.heap.size, 0, none⟩ = some v0 := (hB102.cell (p := ⟨w.heap.size, 0, none⟩) (show w.heap.size < W5.heap.size by omega)).trans cx100; have cx109 : W13.cell? ⟨W4.heap.size, 0, none⟩ = some (.slice A26 l0.length c27) := (hB102.cell (p := ⟨W4.heap.size, 0, none⟩) (show W4.heap.size < W5.heap.size by omega)).trans cx101; clear cx100 cx101; clear HB97 HB98; clear HD99 hB102 hK104))
  go_upto_region 24 with (first | (go_at_call 50; refine (heldRS_c _ v41 R HD103.out.reads HF.out).mono ?_; rintro e w_ ⟨rfl, ⟨nd110, rfl⟩⟩; have HB111 : Aside0 (Below w.heap.size w (W13.drewN nd110)) := ⟨bN_ HB106.out nd110⟩; have HB112 : Aside0 (Below W3.heap.size W3 (W13.drewN nd110)) := ⟨bN_ HB107.out nd110⟩; have HD113 := Aside0.mk (HD103.out.drewN nd110); have cx114 : (W13.drewN nd110).cell? ⟨w.heap.size, 0, none⟩ = some v0 := cx108; have cx115 : (W13.drewN nd110).cell? ⟨W4.heap.size, 0, none⟩ = some (.slice A26 l0.length c27) := cx109; clear cx108 cx109; have hz116 : W13.heap.size ≤ (W13.drewN nd110).heap.size := (by simp); clear HB106 HB107 HD103; generalize W13.drewN nd110 = W14 at *))
  go_upto_region 25 with (first | (go_at_call 21; refine (toG_c _ v0 l0 (HS0.out.below HB111.out) HM.out).mono ?_; rintro e W15 ⟨v117, rfl, hB118, hD119⟩; have hz120 := hB118.size; have HB121 : Aside0 (Below w.heap.size w W15) := ⟨HB111.out.trans (hB118.mono (by omega))⟩; have HB122 : Aside0 (Below W3.heap.size W3 W15) := ⟨HB112.out.trans (hB118.mono (by omega))⟩; have HD123 := Aside0.mk (HD113.out.below (by omega) hB118); have cx124 : W15.cell? ⟨w.heap.size, 0, none⟩ = some v0 := (hB118.cell (p := ⟨w.heap.size, 0, none⟩) (show w.heap.size < W14.heap.size by omega)).trans cx114; have cx125 : W15.cell? ⟨W4.heap.size, 0, none⟩ = some (.slice A26 l0.length c27) := (hB118.cell (p := ⟨W4.heap.size, 0, none⟩) (show W4.heap.size < W14.heap.size by omega)).trans cx115; clear cx114 cx115; clear HB111 HB112 HD113; have HD126 := Aside0.mk hD119.out.toU; clear hD119) | (go_at_call 47; refine (IM.out _ v117 HD126.out.reads).mono ?_; rintro e W16 ⟨v127, rfl, hB128, hD129⟩; have hz130 := hB128.size; have HB131 : Aside0 (Below w.heap.size w W16) := ⟨HB121.out.trans (hB128.mono (by omega))⟩; have HB132 : Aside0 (Below W3.heap.size W3 W16) := ⟨HB122.out.trans (hB128.mono (by omega))⟩; have HD133 := Aside0.mk (HD123.out.below (by omega) hB128); have HD134 := Aside0.mk (HD126.out.below (by omega) hB128); have cx135 : W16.cell? ⟨w.heap.size, 0, none⟩ = some v0 := (hB128.cell (p := ⟨w.heap.size, 0, none⟩) (show w.heap.size < W15.heap.size by omega)).trans cx124; have cx136 : W16.cell? ⟨W4.heap.size, 0, none⟩ = some (.slice A26 l0.length c27) := (hB128.cell (p := ⟨W4.heap.size, 0, none⟩) (show W4.heap.size < W15.heap.size by omega)).trans cx125; clear cx124 cx125; clear HB121 HB122 HD123 HD126; have HD137 := Aside0.mk hD129.out.toU; clear hD129))
  clear HD134
  go_upto_region 28 with (first | (go_at_call 48; refine (eqRS_c _ v127 v16 R HD137.out.reads (hD18.out.below HB132.out) HF.out).mono ?_; rintro e W17 ⟨rfl, hB138⟩; have hz139 := hB138.size; have HB140 : Aside0 (Below w.heap.size w W17) := ⟨HB131.out.trans (hB138.mono (by omega))⟩; have HB141 : Aside0 (Below W3.heap.size W3 W17) := ⟨HB132.out.trans (hB138.mono (by omega))⟩; have HD142 := Aside0.mk (HD133.out.below (by omega) hB138); have HD143 := Aside0.mk (HD137.out.below (by omega) hB138); have cx144 : W17.cell? ⟨w.heap.size, 0, none⟩ = some v0 := (hB138.cell (p := ⟨w.heap.size, 0, none⟩) (show w.heap.size < W16.heap.size by omega)).trans cx135; have cx145 : W17.cell? ⟨W4.heap.size, 0, none⟩ = some (.slice A26 l0.length c27) := (hB138.cell (p := ⟨W4.heap.size, 0, none⟩) (show W4.heap.size < W16.heap.size by omega)).trans cx136; clear cx135 cx136; clear HB131 HB132 HD133 HD137; clear hB138))
  clear HD143
  go_wp2_with (first | (go_at_call 50; refine (heldRS_c _ v41 R HD142.out.reads HF.out).mono ?_; rintro e w_ ⟨rfl, ⟨nd146, rfl⟩⟩; have HB147 : Aside0 (Below w.heap.size w (W17.drewN nd146)) := ⟨bN_ HB140.out nd146⟩; have HB148 : Aside0 (Below W3.heap.size W3 (W17.drewN nd146)) := ⟨bN_ HB141.out nd146⟩; have HD149 := Aside0.mk (HD142.out.drewN nd146); have cx150 : (W17.drewN nd146).cell? ⟨w.heap.size, 0, none⟩ = some v0 := cx144; have cx151 : (W17.drewN nd146).cell? ⟨W4.heap.size, 0, none⟩ = some (.slice A26 l0.length c27) := cx145; clear cx144 cx145; have hz152 : W17.heap.size ≤ (W17.drewN nd146).heap.size := (by simp); clear HB140 HB141 HD142; generalize W17.drewN nd146 = W18 at *))
  go_ret
  exact ⟨by first | rfl | trivial, HB147.out⟩
end Go.Proofs.Ytnbnalbomflafaa.RA
namespace Go.Proofs.Ytnbnalbomflafaa.KR
open Go.RowKit YtnbnalbomflafaaW.PrintWords
open Go.ChangeShapes Go.WideShapes Go.Deep
structure RowsIn (W : World) (A : Option Addr) (n c : Nat) (l : List (List Int)) : Prop where
 len : n = l.length
 le : l.length ≤ c
 reads : Kd.C (Kd.slice 3 (Kd.int .i64)) W A l.length l
 wf : ∀ r ∈ l, ∀ x ∈ r, (Lit.int .i64 x).wf = true
 small : ∀ r ∈ l, r.length ≤ 9223372036854775807
theorem reads_of {W : World} {a' : Option Addr} {n c : Nat} {zs : List Int} (hl : n ≤ c) (hm : c ≤ maxLen) (hz : zs.length = c) (hn : a' = none → c = 0)
  (hc : ∀ ad, a' = some ad → ∀ j, j < c → W.cell? (ad.add j) = some (.int .i64 (zs.getD j 0))) : Kd.C (Kd.int .i64) W a' (zs.take n).length (zs.take n) := by
 have hln : (zs.take n).length = n := by rw [List.length_take]; omega
 rw [hln]
 refine Kd.C_of_reads (d := 0) ⟨hln, by unfold maxLen at hm; omega, fun h0 => ?_⟩
 cases a' with
 | none => have := hn rfl; omega
 | some ad =>
  refine ⟨ad, rfl, fun j hj => ?_⟩
  rw [hc ad rfl j (by omega)]
  simp [List.getD_eq_getElem?_getD, hj]
theorem array1 {α : Type} {cs : Array α} (h : cs.size = 1) : ∃ c0, cs = #[c0] := by
 obtain ⟨l⟩ := cs
 match l, h with
 | [c0], _ => exact ⟨c0, rfl⟩
section
variable {H : Type} {enc : TypeId × Value → H} {W : World} {base : Nat} {held : Bool}
theorem rows_of {fuel : Nat} {cs : List Value} {x : DataW H × List MemPlace} (h : DataW.trod enc Try.prog W base (fun _ => true) held fuel 22 cs = some x) : ∃ A n c l, cs = [.slice A n c] ∧ RowsIn W A n c l := by
 rcases open_int_rows Try.underlying22 Try.underlying37 Try.underlying3 (by kernel_rfl) (by kernel_rfl) h with ⟨rfl, _⟩ | ⟨a, len, cap, A, L, C, Z, rfl, hb, hl, hm, hx, hr⟩
 ·exact ⟨none, 0, 0, [], rfl, rfl, Nat.le_refl _, Kd.C_nil _ _, by simp, by simp⟩
 ·refine ⟨some a, len, cap, (List.range len).map fun r => (Z r).take (L r), rfl, by simp, by simpa using hl, ?_, ?_, ?_⟩
  ·refine ⟨by simp, by simp; unfold maxLen at hm; omega, fun h0 => ⟨a, rfl, fun j p hj => ?_⟩⟩
   have hjl : j < len := by
    have := (List.getElem?_eq_some_iff.1 hj).1
    simpa using this
   obtain ⟨hc, h1, h2, h3, h4, h5, h6⟩ := hr j (by omega)
   have hp : p = (Z j).take (L j) := by
    rw [List.getElem?_map, List.getElem?_range hjl] at hj
    exact (Option.some.inj hj).symm
   have hpl : p.length = L j := by rw [hp, List.length_take]; omega
   refine ⟨[.slice (A j) p.length (C j)], rfl, ⟨A j, C j, rfl, by omega, ?_⟩, fun i u hu => ?_⟩
   ·rw [hp]
    exact reads_of h1 h2 h3 h5 (fun ad e i hi => (h6 ad e).2 i hi)
   ·have hi : i = 0 := by
     have := (List.getElem?_eq_some_iff.1 hu).1
     simp at this
     exact this
    subst hi
    simp at hu
    rw [← hu, hpl]
    have e : j * (Kd.slice 3 (Kd.int .i64)).sz + 0 = j := by show j * 1 + 0 = j; omega
    rw [e]
    exact hc
  ·intro r hr' x hx'
   obtain ⟨j, hj, rfl⟩ := List.mem_map.1 hr'
   have := List.mem_range.1 hj
   exact (hr j (by omega)).2.2.2.2.1 x (List.mem_of_mem_take hx')
  ·intro r hr'
   obtain ⟨j, hj, rfl⟩ := List.mem_map.1 hr'
   have hj := List.mem_range.1 hj
   have h1 := (hr j (by omega)).2.1
   have h2 := (hr j (by omega)).2.2.1
   unfold maxLen at h2
   rw [List.length_take]
   omega
set_option maxRecDepth 100000 in
theorem open_graph {r : Reach} {b0 t : Nat} {f0 : Field} {v : Value} {d : DataW H} {p : List MemPlace} (hs : Try.prog.underlying t = some (.struct #[f0])) (hC : Try.prog.cellsOf t = 1) (hf : f0.type = 22) (ho : f0.offset = 0)
  (hv : Value.okWide Try.prog W r b0 t v) (h : DataW.Trod enc Try.prog W base (fun _ => true) held t v d p) : ∃ A n c l, v = .agg #[.slice A n c] ∧ RowsIn W A n c l := by
 obtain ⟨cs, rfl, hsz⟩ := okWide_struct hs hv
 obtain ⟨c0, rfl⟩ := array1 (hsz.trans hC)
 obtain ⟨fuel, hfu⟩ := h
 obtain ⟨y0, n, hx, _, h0⟩ := trod_struct1 hs hfu
 have hc22 : Try.prog.cellsOf 22 = 1 := by kernel_rfl
 rw [hf, ho, hc22] at h0
 obtain ⟨A, m, c, l, hcs, hR⟩ := rows_of h0
 have e : c0 = .slice A m c := by simpa [Value.cells] using hcs
 subst e
 exact ⟨A, m, c, l, rfl, hR⟩
end
end Go.Proofs.Ytnbnalbomflafaa.KR
