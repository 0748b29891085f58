/-
  Texts of the seat, merged (part 3).
-/
import Derived.Test.YtjedhjeijpbobaaX48WLast
import Derived.Test.YtjedhjeijpbobaaX48WWords
import Derived.Deep.Cut
import Derived.Deep.LoopGhost
import Derived.Test.YtjedhjeijpbobaaProg
import Derived.Below
import Derived.Deep.Draws
import Derived.Deep.AppendLies
import Derived.Maps.AppendAt
import Derived.OwnWalk
import Derived.Laws.BytesArg
import Derived.Laws.MakeOwn
import Derived.Laws.OwnMore
import Derived.Deep.OwnRows
import Derived.Tactics
import Derived.Lib.ConvBytes
import Derived.Laws.Slices
import Derived.WalkKit
import Derived.KernelRfl
import Derived.RowKit3
import Derived.Deep.QuietTactic
import Derived.BigQuiet
import Derived.WideLaws
import Derived.Deep.DeepCutAuto
import Derived.Deep.CutBlock
import Derived.Deep.RegionHeld3
import Derived.Laws.Rows
import Derived.Lib.AppendStr
import Derived.ArgAppend
import Derived.Laws.IdiomCopy
import Derived.OrdersHeld
import Derived.Laws.BitsLemmas
import Derived.RowKit
import Derived.Test.YtjedhjeijpbobaaX48WTab
import Derived.Test.YtjedhjeijpbobaaX48WFour
import Derived.Test.YtjedhjeijpbobaaX48WQPut
import Derived.Test.YtjedhjeijpbobaaX48WApart
import Derived.Test.YtjedhjeijpbobaaX48WArr
import Derived.Test.YtjedhjeijpbobaaX48WZeros
import Derived.Test.YtjedhjeijpbobaaX48WFoot
import Derived.Test.YtjedhjeijpbobaaX48WKept
import Derived.Test.YtjedhjeijpbobaaX48WShare
import Derived.Test.YtjedhjeijpbobaaX48WN
import Derived.Test.YtjedhjeijpbobaaX48WFootNe
import Derived.Test.YtjedhjeijpbobaaX48WAt
import Derived.Test.YtjedhjeijpbobaaX48WEqStruct
import Derived.Test.YtjedhjeijpbobaaX48WRepsOne
import Derived.Test.YtjedhjeijpbobaaX48WInv
import Derived.Test.YtjedhjeijpbobaaX48WInvWords
import Derived.Test.YtjedhjeijpbobaaX48WGuard
import Derived.Test.YtjedhjeijpbobaaX48WNEv
import Derived.Test.YtjedhjeijpbobaaX48WMore
import Derived.Test.YtjedhjeijpbobaaX482
set_option linter.unusedVariables false
set_option linter.unusedSimpArgs false
namespace Go.Proofs.Ytjedhjeijpbobaa.GL
open Go.RowKit YtjedhjeijpbobaaW.PrintWords YtjedhjeijpbobaaW.PrintLast YtjedhjeijpbobaaW.PrintMore
open GA GJ GK
attribute [local go_sem] max2_int min2_int max_two min_two max_three min_three max_four min_four
def laws_big.f (l0 : List Int) (l1 : List Int) : Option (Bool) := if (l0.length : Int) > 1048576 then (some true) else (some (decide ((l1.length : Int) > (wrap64 (1048576 - (l0.length : Int))))))
set_option maxHeartbeats 8000000 in
set_option maxRecDepth 100000 in
theorem laws_big.calls (A0 : Option Addr) (c0 : Nat) (l0 : List Int) (A1 : Option Addr) (c1 : Nat) (l1 : List Int) (r : Bool) (w : World) (hr0 : Kd.C (Kd.int .u8) w A0 l0.length l0) (hc0 : l0.length ≤ c0) (hr1 : Kd.C (Kd.int .u8) w A1 l1.length l1) (hc1 : l1.length ≤ c1) (h : laws_big.f l0 l1 = some r) :
  Calls Try.prog 37 #[.slice A0 l0.length c0, .slice A1 l1.length c1] w fun e w' => e = .returned (.bool r) ∧ Drawn0 w w' := by
 have HR0 := Aside0.mk hr0
 have HC0 := Aside0.mk hc0
 clear hr0 hc0
 have HR1 := Aside0.mk hr1
 have HC1 := Aside0.mk hc1
 clear hr1 hc1
 have H : (if (l0.length : Int) > 1048576 then (some true) else (some (decide ((l1.length : Int) > (wrap64 (1048576 - (l0.length : Int))))))) = some r := h
 clear h
 by_cases c3 : (l0.length : Int) > 1048576
 ·rw [if_pos c3] at H
  have c3b0 : decide (1048576 < (l0.length : Int)) = true := decide_eq_true c3
  have c3b1 : decide (1048576 < l0.length) = true := decide_eq_true (by omega)
  clear c3
  obtain rfl := Option.some.inj H
  go_enter Try.func37, Try.ntmps37
  go_wp2
  go_ret
  exact ⟨by first | rfl | (simp; done) | (simp [*]; done), by repeat (first | exact Drawn0.refl _ | apply Drawn0.step)⟩
 ·rw [if_neg c3] at H
  have c3b0 : decide (1048576 < (l0.length : Int)) = false := decide_eq_false c3
  have c3b1 : decide (1048576 < l0.length) = false := decide_eq_false (by omega)
  clear c3
  obtain rfl := Option.some.inj H
  go_enter Try.func37, Try.ntmps37
  go_wp2
  go_ret
  exact ⟨by first | rfl | (simp; done) | (simp [*]; done), by repeat (first | exact Drawn0.refl _ | apply Drawn0.step)⟩
def laws_xSame.l0 : Nat → List Int → List Int → Int → Int → Option (Bool)
 | 0, _, _, _, _ => none
 | k + 1, x0, x1, x12, x13 => if x13 < x12 then (if 0 ≤ x13 then (if x13 < (x0.length : Int) then (if x13 < (x1.length : Int) then (if (rd x0 x13) = (rd x1 x13) then (laws_xSame.l0 k x0 x1 x12 (wrap64 (x13 + 1))) else (some false)) else (none)) else (none)) else (none)) else (some true)
def laws_xSame.f (k : Nat) (l0 : List Int) (l1 : List Int) : Option (Bool) := if (l0.length : Int) = (l1.length : Int) then (laws_xSame.l0 k l0 l1 (l0.length : Int) 0) else (some false)
set_option maxHeartbeats 8000000 in
set_option maxRecDepth 100000 in
theorem laws_xSame.calls (k : Nat) (A0 : Option Addr) (c0 : Nat) (l0 : List Int) (A1 : Option Addr) (c1 : Nat) (l1 : List Int) (r : Bool) (w : World) (hr0 : Kd.C (Kd.int .i64) w A0 l0.length l0) (hc0 : l0.length ≤ c0) (hr1 : Kd.C (Kd.int .i64) w A1 l1.length l1) (hc1 : l1.length ≤ c1) (h : laws_xSame.f k l0 l1 = some r) :
  Calls Try.prog 44 #[.slice A0 l0.length c0, .slice A1 l1.length c1] w fun e w' => e = .returned (.bool r) ∧ Drawn0 w w' := by
 have HR0 := Aside0.mk hr0
 have HC0 := Aside0.mk hc0
 clear hr0 hc0
 have HR1 := Aside0.mk hr1
 have HC1 := Aside0.mk hc1
 clear hr1 hc1
 have H : (if (l0.length : Int) = (l1.length : Int) then (laws_xSame.l0 k l0 l1 (l0.length : Int) 0) else (some false)) = some r := h
 clear h
 by_cases c3 : (l0.length : Int) = (l1.length : Int)
 ·rw [if_pos c3] at H
  have c3b0 : ((l0.length : Int) == (l1.length : Int)) = true := beq_iff_eq.mpr c3
  have c3b1 : ((l0.length : Int) != (l1.length : Int)) = false := bne_eq_false_iff_eq.mpr c3
  have c3b2 : (l0.length == l1.length) = true := by first | simpa using c3 | (simp at c3 ⊢; omega)
  clear c3
  have H' := Aside0.mk H
  clear H
  go_enter Try.func44, Try.ntmps44
  go_wp2
  repeat (go_quiet (fail); try go_wp2)
  go_loopg [13] k (fun kq v13 w' => ∃ (x13_1 : Int), v13 = .int .i64 x13_1 ∧ Aside0 (laws_xSame.l0 kq l0 l1 (l0.length : Int) x13_1 = some r) ∧ Aside0 (kq ≤ k) ∧ Drawn0 w w')
  case atStart => exact ⟨(0), (by first | rfl | (simp; done) | (simp [*]; done)), H', ⟨Nat.le_refl _⟩, by repeat (first | exact Drawn0.refl _ | apply Drawn0.step)⟩
  case round =>
   clear H'
   try clear c1
   try clear p2
   try clear c3
   try clear c3b0
   try clear c3b1
   try clear c3b2
   obtain ⟨x13_1, rfl, HA, HK1, ⟨m1, rfl⟩⟩ := hrel
   cases gk with
   | zero => exact absurd HA.out (by simp [laws_xSame.l0])
   | succ k1 =>
    have H := HA.out
    clear HA
    simp only [laws_xSame.l0] at H
    by_cases c4 : x13_1 < (l0.length : Int)
    ·rw [if_pos c4] at H
     have c4b0 : decide (x13_1 < (l0.length : Int)) = true := decide_eq_true c4
     clear c4
     by_cases c5 : 0 ≤ x13_1
     ·rw [if_pos c5] at H
      have c5b0 : decide (0 ≤ x13_1) = true := decide_eq_true c5
      clear c5
      by_cases c6 : x13_1 < (l0.length : Int)
      ·rw [if_pos c6] at H
       have c6b0 : decide (x13_1 < (l0.length : Int)) = true := decide_eq_true c6
       clear c6
       by_cases c7 : x13_1 < (l1.length : Int)
       ·rw [if_pos c7] at H
        have c7b0 : decide (x13_1 < (l1.length : Int)) = true := decide_eq_true c7
        clear c7
        by_cases c8 : (rd l0 x13_1) = (rd l1 x13_1)
        ·rw [if_pos c8] at H
         have c8b0 : ((rd l0 x13_1) == (rd l1 x13_1)) = true := beq_iff_eq.mpr c8
         have c8b1 : ((rd l0 x13_1) != (rd l1 x13_1)) = false := bne_eq_false_iff_eq.mpr c8
         clear c8
         have H' := Aside0.mk H
         clear H
         have p142 : 0 ≤ (x13_1 : Int) := of_decide_eq_true (by first | (with_reducible assumption) | assumption)
         have q142 : x13_1 < (l0.length : Int) := of_decide_eq_true (by first | (with_reducible assumption) | assumption)
         obtain ⟨ad142, e142, hx142_0⟩ := Kd.at_int HR0.out x13_1 p142 q142
         cases e142
         replace p142 := eq_true p142
         replace q142 := eq_true q142
         have p143 : 0 ≤ (x13_1 : Int) := of_decide_eq_true (by first | (with_reducible assumption) | assumption)
         have q143 : x13_1 < (l1.length : Int) := of_decide_eq_true (by first | (with_reducible assumption) | assumption)
         obtain ⟨ad143, e143, hx143_0⟩ := Kd.at_int HR1.out x13_1 p143 q143
         cases e143
         replace p143 := eq_true p143
         replace q143 := eq_true q143
         go_wp2
         repeat (go_quiet (fail); try go_wp2)
         go_roundg k1
         case measure => have := HK1.out; omega
         case rel => exact ⟨(wrap64 (x13_1 + 1)), (by first | rfl | (simp; done) | (simp [*]; done)), H', ⟨by have := HK1.out; omega⟩, by repeat (first | exact Drawn0.refl _ | apply Drawn0.step)⟩
        ·rw [if_neg c8] at H
         have c8b0 : ((rd l0 x13_1) == (rd l1 x13_1)) = false := beq_eq_false_iff_ne.mpr c8
         have c8b1 : ((rd l0 x13_1) != (rd l1 x13_1)) = true := bne_iff_ne.mpr c8
         obtain rfl := Option.some.inj H
         have p142 : 0 ≤ (x13_1 : Int) := of_decide_eq_true (by first | (with_reducible assumption) | assumption)
         have q142 : x13_1 < (l0.length : Int) := of_decide_eq_true (by first | (with_reducible assumption) | assumption)
         obtain ⟨ad142, e142, hx142_0⟩ := Kd.at_int HR0.out x13_1 p142 q142
         cases e142
         replace p142 := eq_true p142
         replace q142 := eq_true q142
         have p143 : 0 ≤ (x13_1 : Int) := of_decide_eq_true (by first | (with_reducible assumption) | assumption)
         have q143 : x13_1 < (l1.length : Int) := of_decide_eq_true (by first | (with_reducible assumption) | assumption)
         obtain ⟨ad143, e143, hx143_0⟩ := Kd.at_int HR1.out x13_1 p143 q143
         cases e143
         replace p143 := eq_true p143
         replace q143 := eq_true q143
         go_wp2
         repeat (go_quiet (fail); try go_wp2)
         go_ret
         exact ⟨by first | rfl | (simp; done) | (simp [*]; done), by repeat (first | exact Drawn0.refl _ | apply Drawn0.step)⟩
       ·rw [if_neg c7] at H
        exact absurd H (by simp)
      ·rw [if_neg c6] at H
       exact absurd H (by simp)
     ·rw [if_neg c5] at H
      exact absurd H (by simp)
    ·rw [if_neg c4] at H
     have c4b0 : decide (x13_1 < (l0.length : Int)) = false := decide_eq_false c4
     clear c4
     obtain rfl := Option.some.inj H
     go_wp2
     repeat (go_quiet (fail); try go_wp2)
     go_ret
     exact ⟨by first | rfl | (simp; done) | (simp [*]; done), by repeat (first | exact Drawn0.refl _ | apply Drawn0.step)⟩
 ·rw [if_neg c3] at H
  have c3b0 : ((l0.length : Int) == (l1.length : Int)) = false := beq_eq_false_iff_ne.mpr c3
  have c3b1 : ((l0.length : Int) != (l1.length : Int)) = true := bne_iff_ne.mpr c3
  have c3b2 : (l0.length == l1.length) = false := by first | simpa using c3 | (simp at c3 ⊢; omega)
  obtain rfl := Option.some.inj H
  go_enter Try.func44, Try.ntmps44
  go_wp2
  repeat (go_quiet (fail); try go_wp2)
  go_ret
  exact ⟨by first | rfl | (simp; done) | (simp [*]; done), by repeat (first | exact Drawn0.refl _ | apply Drawn0.step)⟩
def laws_xRows.l0 : Nat → List (List Int) → List (List Int) → Int → Int → Option (Bool)
 | 0, _, _, _, _ => none
 | k + 1, x0, x1, x12, x13 => if x13 < x12 then (if 0 ≤ x13 then (if x13 < (x0.length : Int) then (if x13 < (x1.length : Int) then ((laws_xSame.f k (rd_L4 x0 x13) (rd_L4 x1 x13)).bind fun t146 => (if t146 = true then (laws_xRows.l0 k x0 x1 x12 (wrap64 (x13 + 1))) else (some false))) else (none)) else (none)) else (none)) else (some true)
def laws_xRows.f (k : Nat) (l0 : List (List Int)) (l1 : List (List Int)) : Option (Bool) := if (l0.length : Int) = (l1.length : Int) then (laws_xRows.l0 k l0 l1 (l0.length : Int) 0) else (some false)
set_option maxHeartbeats 8000000 in
set_option maxRecDepth 100000 in
theorem laws_xRows.calls (k : Nat) (A0 : Option Addr) (c0 : Nat) (l0 : List (List Int)) (A1 : Option Addr) (c1 : Nat) (l1 : List (List Int)) (r : Bool) (w : World) (hr0 : Kd.C (Kd.slice 3 (Kd.int .i64)) w A0 l0.length l0) (hc0 : l0.length ≤ c0) (hr1 : Kd.C (Kd.slice 3 (Kd.int .i64)) w A1 l1.length l1) (hc1 : l1.length ≤ c1) (h : laws_xRows.f k l0 l1 = some r) :
  Calls Try.prog 43 #[.slice A0 l0.length c0, .slice A1 l1.length c1] w fun e w' => e = .returned (.bool r) ∧ Drawn0 w w' := by
 have HR0 := Aside0.mk hr0
 have HC0 := Aside0.mk hc0
 clear hr0 hc0
 have HR1 := Aside0.mk hr1
 have HC1 := Aside0.mk hc1
 clear hr1 hc1
 have H : (if (l0.length : Int) = (l1.length : Int) then (laws_xRows.l0 k l0 l1 (l0.length : Int) 0) else (some false)) = some r := h
 clear h
 by_cases c3 : (l0.length : Int) = (l1.length : Int)
 ·rw [if_pos c3] at H
  have c3b0 : ((l0.length : Int) == (l1.length : Int)) = true := beq_iff_eq.mpr c3
  have c3b1 : ((l0.length : Int) != (l1.length : Int)) = false := bne_eq_false_iff_eq.mpr c3
  have c3b2 : (l0.length == l1.length) = true := by first | simpa using c3 | (simp at c3 ⊢; omega)
  clear c3
  have H' := Aside0.mk H
  clear H
  go_enter Try.func43, Try.ntmps43
  go_wp2
  repeat (go_quiet (fail); try go_wp2)
  go_loopg [13] k (fun kq v13 w' => ∃ (x13_1 : Int), v13 = .int .i64 x13_1 ∧ Aside0 (laws_xRows.l0 kq l0 l1 (l0.length : Int) x13_1 = some r) ∧ Aside0 (kq ≤ k) ∧ Drawn0 w w')
  case atStart => exact ⟨(0), (by first | rfl | (simp; done) | (simp [*]; done)), H', ⟨Nat.le_refl _⟩, by repeat (first | exact Drawn0.refl _ | apply Drawn0.step)⟩
  case round =>
   clear H'
   try clear c1
   try clear p2
   try clear c3
   try clear c3b0
   try clear c3b1
   try clear c3b2
   obtain ⟨x13_1, rfl, HA, HK1, ⟨m1, rfl⟩⟩ := hrel
   cases gk with
   | zero => exact absurd HA.out (by simp [laws_xRows.l0])
   | succ k1 =>
    have H := HA.out
    clear HA
    simp only [laws_xRows.l0] at H
    by_cases c4 : x13_1 < (l0.length : Int)
    ·rw [if_pos c4] at H
     have c4b0 : decide (x13_1 < (l0.length : Int)) = true := decide_eq_true c4
     clear c4
     by_cases c5 : 0 ≤ x13_1
     ·rw [if_pos c5] at H
      have c5b0 : decide (0 ≤ x13_1) = true := decide_eq_true c5
      clear c5
      by_cases c6 : x13_1 < (l0.length : Int)
      ·rw [if_pos c6] at H
       have c6b0 : decide (x13_1 < (l0.length : Int)) = true := decide_eq_true c6
       clear c6
       by_cases c7 : x13_1 < (l1.length : Int)
       ·rw [if_pos c7] at H
        have c7b0 : decide (x13_1 < (l1.length : Int)) = true := decide_eq_true c7
        clear c7
        replace H := Option.bind_eq_some_iff.mp H
        obtain ⟨t146, A80, H⟩ := H
        replace H : (if t146 = true then (laws_xRows.l0 k1 l0 l1 (l0.length : Int) (wrap64 (x13_1 + 1))) else (some false)) = some r := H
        have A8 := Aside0.mk A80
        clear A80
        by_cases c9 : t146 = true
        ·subst c9
         have H1 : (laws_xRows.l0 k1 l0 l1 (l0.length : Int) (wrap64 (x13_1 + 1))) = some r := by rw [if_pos rfl] at H; exact H
         clear H
         have H := H1
         clear H1
         have H' := Aside0.mk H
         clear H
         have p144 : 0 ≤ (x13_1 : Int) := of_decide_eq_true (by first | (with_reducible assumption) | assumption)
         have q144 : x13_1 < (l0.length : Int) := of_decide_eq_true (by first | (with_reducible assumption) | assumption)
         obtain ⟨ad144, A144_0, c144_0, e144, hx144_0, hl144_0, hi144_0⟩ := at_L4 HR0.out x13_1 p144 q144
         cases e144
         have HR144_0 := Aside0.mk hi144_0
         have HC144_0 := Aside0.mk hl144_0
         clear hi144_0 hl144_0
         replace p144 := eq_true p144
         replace q144 := eq_true q144
         have p145 : 0 ≤ (x13_1 : Int) := of_decide_eq_true (by first | (with_reducible assumption) | assumption)
         have q145 : x13_1 < (l1.length : Int) := of_decide_eq_true (by first | (with_reducible assumption) | assumption)
         obtain ⟨ad145, A145_0, c145_0, e145, hx145_0, hl145_0, hi145_0⟩ := at_L4 HR1.out x13_1 p145 q145
         cases e145
         have HR145_0 := Aside0.mk hi145_0
         have HC145_0 := Aside0.mk hl145_0
         clear hi145_0 hl145_0
         replace p145 := eq_true p145
         replace q145 := eq_true q145
         go_wp2_with (first | (go_at_call 44; (with_reducible refine (laws_xSame.calls k1 _ _ (rd_L4 l0 x13_1) _ _ (rd_L4 l1 x13_1) true _ ?side1 ?side2 ?side3 ?side4 A8.out).mono ?_); (case side1 => repeat (first | exact HR144_0.out | (with_reducible refine Kd.C_alloc ?_ _) | (with_reducible refine Kd.C_drewN ?_ _) | (with_reducible refine Kd.C_drew ?_))); (case side2 => exact HC144_0.out); (case side3 => repeat (first | exact HR145_0.out | (with_reducible refine Kd.C_alloc ?_ _) | (with_reducible refine Kd.C_drewN ?_ _) | (with_reducible refine Kd.C_drew ?_))); (case side4 => exact HC145_0.out); rintro e w' ⟨rfl, ⟨nd, rfl⟩⟩; (try first | exact ⟨rfl, _, World.drewN_drewN _ _ _⟩ | exact ⟨rfl, _, Eq.trans (World.drewN_drewN _ _ _) (congrArg (World.drewN _) (Nat.add_assoc _ _ _))⟩)))
         repeat (go_quiet (first | (go_at_call 44; (with_reducible refine (laws_xSame.calls k1 _ _ (rd_L4 l0 x13_1) _ _ (rd_L4 l1 x13_1) true _ ?side1 ?side2 ?side3 ?side4 A8.out).mono ?_); (case side1 => repeat (first | exact HR144_0.out | (with_reducible refine Kd.C_alloc ?_ _) | (with_reducible refine Kd.C_drewN ?_ _) | (with_reducible refine Kd.C_drew ?_))); (case side2 => exact HC144_0.out); (case side3 => repeat (first | exact HR145_0.out | (with_reducible refine Kd.C_alloc ?_ _) | (with_reducible refine Kd.C_drewN ?_ _) | (with_reducible refine Kd.C_drew ?_))); (case side4 => exact HC145_0.out); rintro e w' ⟨rfl, ⟨nd, rfl⟩⟩; (try first | exact ⟨rfl, _, World.drewN_drewN _ _ _⟩ | exact ⟨rfl, _, Eq.trans (World.drewN_drewN _ _ _) (congrArg (World.drewN _) (Nat.add_assoc _ _ _))⟩))); try go_wp2_with (first | (go_at_call 44; (with_reducible refine (laws_xSame.calls k1 _ _ (rd_L4 l0 x13_1) _ _ (rd_L4 l1 x13_1) true _ ?side1 ?side2 ?side3 ?side4 A8.out).mono ?_); (case side1 => repeat (first | exact HR144_0.out | (with_reducible refine Kd.C_alloc ?_ _) | (with_reducible refine Kd.C_drewN ?_ _) | (with_reducible refine Kd.C_drew ?_))); (case side2 => exact HC144_0.out); (case side3 => repeat (first | exact HR145_0.out | (with_reducible refine Kd.C_alloc ?_ _) | (with_reducible refine Kd.C_drewN ?_ _) | (with_reducible refine Kd.C_drew ?_))); (case side4 => exact HC145_0.out); rintro e w' ⟨rfl, ⟨nd, rfl⟩⟩; (try first | exact ⟨rfl, _, World.drewN_drewN _ _ _⟩ | exact ⟨rfl, _, Eq.trans (World.drewN_drewN _ _ _) (congrArg (World.drewN _) (Nat.add_assoc _ _ _))⟩))))
         go_roundg k1
         case measure => have := HK1.out; omega
         case rel => exact ⟨(wrap64 (x13_1 + 1)), (by first | rfl | (simp; done) | (simp [*]; done)), H', ⟨by have := HK1.out; omega⟩, by repeat (first | exact Drawn0.refl _ | apply Drawn0.step)⟩
        ·replace c9 := Bool.eq_false_iff.mpr c9
         subst c9
         have H1 : (some false) = some r := by rw [if_neg (show ¬ (false = true) by decide)] at H; exact H
         clear H
         have H := H1
         clear H1
         obtain rfl := Option.some.inj H
         have p144 : 0 ≤ (x13_1 : Int) := of_decide_eq_true (by first | (with_reducible assumption) | assumption)
         have q144 : x13_1 < (l0.length : Int) := of_decide_eq_true (by first | (with_reducible assumption) | assumption)
         obtain ⟨ad144, A144_0, c144_0, e144, hx144_0, hl144_0, hi144_0⟩ := at_L4 HR0.out x13_1 p144 q144
         cases e144
         have HR144_0 := Aside0.mk hi144_0
         have HC144_0 := Aside0.mk hl144_0
         clear hi144_0 hl144_0
         replace p144 := eq_true p144
         replace q144 := eq_true q144
         have p145 : 0 ≤ (x13_1 : Int) := of_decide_eq_true (by first | (with_reducible assumption) | assumption)
         have q145 : x13_1 < (l1.length : Int) := of_decide_eq_true (by first | (with_reducible assumption) | assumption)
         obtain ⟨ad145, A145_0, c145_0, e145, hx145_0, hl145_0, hi145_0⟩ := at_L4 HR1.out x13_1 p145 q145
         cases e145
         have HR145_0 := Aside0.mk hi145_0
         have HC145_0 := Aside0.mk hl145_0
         clear hi145_0 hl145_0
         replace p145 := eq_true p145
         replace q145 := eq_true q145
         go_wp2_with (first | (go_at_call 44; (with_reducible refine (laws_xSame.calls k1 _ _ (rd_L4 l0 x13_1) _ _ (rd_L4 l1 x13_1) false _ ?side1 ?side2 ?side3 ?side4 A8.out).mono ?_); (case side1 => repeat (first | exact HR144_0.out | (with_reducible refine Kd.C_alloc ?_ _) | (with_reducible refine Kd.C_drewN ?_ _) | (with_reducible refine Kd.C_drew ?_))); (case side2 => exact HC144_0.out); (case side3 => repeat (first | exact HR145_0.out | (with_reducible refine Kd.C_alloc ?_ _) | (with_reducible refine Kd.C_drewN ?_ _) | (with_reducible refine Kd.C_drew ?_))); (case side4 => exact HC145_0.out); rintro e w' ⟨rfl, ⟨nd, rfl⟩⟩; (try first | exact ⟨rfl, _, World.drewN_drewN _ _ _⟩ | exact ⟨rfl, _, Eq.trans (World.drewN_drewN _ _ _) (congrArg (World.drewN _) (Nat.add_assoc _ _ _))⟩)))
         repeat (go_quiet (first | (go_at_call 44; (with_reducible refine (laws_xSame.calls k1 _ _ (rd_L4 l0 x13_1) _ _ (rd_L4 l1 x13_1) false _ ?side1 ?side2 ?side3 ?side4 A8.out).mono ?_); (case side1 => repeat (first | exact HR144_0.out | (with_reducible refine Kd.C_alloc ?_ _) | (with_reducible refine Kd.C_drewN ?_ _) | (with_reducible refine Kd.C_drew ?_))); (case side2 => exact HC144_0.out); (case side3 => repeat (first | exact HR145_0.out | (with_reducible refine Kd.C_alloc ?_ _) | (with_reducible refine Kd.C_drewN ?_ _) | (with_reducible refine Kd.C_drew ?_))); (case side4 => exact HC145_0.out); rintro e w' ⟨rfl, ⟨nd, rfl⟩⟩; (try first | exact ⟨rfl, _, World.drewN_drewN _ _ _⟩ | exact ⟨rfl, _, Eq.trans (World.drewN_drewN _ _ _) (congrArg (World.drewN _) (Nat.add_assoc _ _ _))⟩))); try go_wp2_with (first | (go_at_call 44; (with_reducible refine (laws_xSame.calls k1 _ _ (rd_L4 l0 x13_1) _ _ (rd_L4 l1 x13_1) false _ ?side1 ?side2 ?side3 ?side4 A8.out).mono ?_); (case side1 => repeat (first | exact HR144_0.out | (with_reducible refine Kd.C_alloc ?_ _) | (with_reducible refine Kd.C_drewN ?_ _) | (with_reducible refine Kd.C_drew ?_))); (case side2 => exact HC144_0.out); (case side3 => repeat (first | exact HR145_0.out | (with_reducible refine Kd.C_alloc ?_ _) | (with_reducible refine Kd.C_drewN ?_ _) | (with_reducible refine Kd.C_drew ?_))); (case side4 => exact HC145_0.out); rintro e w' ⟨rfl, ⟨nd, rfl⟩⟩; (try first | exact ⟨rfl, _, World.drewN_drewN _ _ _⟩ | exact ⟨rfl, _, Eq.trans (World.drewN_drewN _ _ _) (congrArg (World.drewN _) (Nat.add_assoc _ _ _))⟩))))
         go_ret
         exact ⟨by first | rfl | (simp; done) | (simp [*]; done), by repeat (first | exact Drawn0.refl _ | apply Drawn0.step)⟩
       ·rw [if_neg c7] at H
        exact absurd H (by simp)
      ·rw [if_neg c6] at H
       exact absurd H (by simp)
     ·rw [if_neg c5] at H
      exact absurd H (by simp)
    ·rw [if_neg c4] at H
     have c4b0 : decide (x13_1 < (l0.length : Int)) = false := decide_eq_false c4
     clear c4
     obtain rfl := Option.some.inj H
     go_wp2
     repeat (go_quiet (fail); try go_wp2)
     go_ret
     exact ⟨by first | rfl | (simp; done) | (simp [*]; done), by repeat (first | exact Drawn0.refl _ | apply Drawn0.step)⟩
 ·rw [if_neg c3] at H
  have c3b0 : ((l0.length : Int) == (l1.length : Int)) = false := beq_eq_false_iff_ne.mpr c3
  have c3b1 : ((l0.length : Int) != (l1.length : Int)) = true := bne_iff_ne.mpr c3
  have c3b2 : (l0.length == l1.length) = false := by first | simpa using c3 | (simp at c3 ⊢; omega)
  obtain rfl := Option.some.inj H
  go_enter Try.func43, Try.ntmps43
  go_wp2
  repeat (go_quiet (fail); try go_wp2)
  go_ret
  exact ⟨by first | rfl | (simp; done) | (simp [*]; done), by repeat (first | exact Drawn0.refl _ | apply Drawn0.step)⟩
def laws_xPlace.l0 : Nat → List Int → List (List Int) → Int → Int → Option (Int)
 | 0, _, _, _, _ => none
 | k + 1, x1, x7, x8, x9 => if x9 < x8 then (if 0 ≤ x9 then (if x9 < (x7.length : Int) then ((laws_xSame.f k (rd_L4 x7 x9) x1).bind fun t148 => (if t148 = true then (some x9) else (laws_xPlace.l0 k x1 x7 x8 (wrap64 (x9 + 1))))) else (none)) else (none)) else (some (-1))
def laws_xPlace.f (k : Nat) (l0 : List (List Int)) (l1 : List Int) : Option (Int) := laws_xPlace.l0 k l1 l0 (l0.length : Int) 0
set_option maxHeartbeats 8000000 in
set_option maxRecDepth 100000 in
theorem laws_xPlace.calls (k : Nat) (A0 : Option Addr) (c0 : Nat) (l0 : List (List Int)) (A1 : Option Addr) (c1 : Nat) (l1 : List Int) (r : Int) (w : World) (hr0 : Kd.C (Kd.slice 3 (Kd.int .i64)) w A0 l0.length l0) (hc0 : l0.length ≤ c0) (hr1 : Kd.C (Kd.int .i64) w A1 l1.length l1) (hc1 : l1.length ≤ c1) (h : laws_xPlace.f k l0 l1 = some r) :
  Calls Try.prog 46 #[.slice A0 l0.length c0, .slice A1 l1.length c1] w fun e w' => e = .returned (.int .i64 r) ∧ Drawn0 w w' := by
 have HR0 := Aside0.mk hr0
 have HC0 := Aside0.mk hc0
 clear hr0 hc0
 have HR1 := Aside0.mk hr1
 have HC1 := Aside0.mk hc1
 clear hr1 hc1
 have H : (laws_xPlace.l0 k l1 l0 (l0.length : Int) 0) = some r := h
 clear h
 have H' := Aside0.mk H
 clear H
 go_enter Try.func46, Try.ntmps46
 go_wp2
 go_loopg [9] k (fun kq v9 w' => ∃ (x9_1 : Int), v9 = .int .i64 x9_1 ∧ Aside0 (laws_xPlace.l0 kq l1 l0 (l0.length : Int) x9_1 = some r) ∧ Aside0 (kq ≤ k) ∧ Drawn0 w w')
 case atStart => exact ⟨(0), (by first | rfl | (simp; done) | (simp [*]; done)), H', ⟨Nat.le_refl _⟩, by repeat (first | exact Drawn0.refl _ | apply Drawn0.step)⟩
 case round =>
  clear H'
  try clear c1
  try clear p2
  obtain ⟨x9_1, rfl, HA, HK1, ⟨m1, rfl⟩⟩ := hrel
  cases gk with
  | zero => exact absurd HA.out (by simp [laws_xPlace.l0])
  | succ k1 =>
   have H := HA.out
   clear HA
   simp only [laws_xPlace.l0] at H
   by_cases c3 : x9_1 < (l0.length : Int)
   ·rw [if_pos c3] at H
    have c3b0 : decide (x9_1 < (l0.length : Int)) = true := decide_eq_true c3
    clear c3
    by_cases c4 : 0 ≤ x9_1
    ·rw [if_pos c4] at H
     have c4b0 : decide (0 ≤ x9_1) = true := decide_eq_true c4
     clear c4
     by_cases c5 : x9_1 < (l0.length : Int)
     ·rw [if_pos c5] at H
      have c5b0 : decide (x9_1 < (l0.length : Int)) = true := decide_eq_true c5
      clear c5
      replace H := Option.bind_eq_some_iff.mp H
      obtain ⟨t148, A60, H⟩ := H
      replace H : (if t148 = true then (some x9_1) else (laws_xPlace.l0 k1 l1 l0 (l0.length : Int) (wrap64 (x9_1 + 1)))) = some r := H
      have A6 := Aside0.mk A60
      clear A60
      by_cases c7 : t148 = true
      ·subst c7
       have H1 : (some x9_1) = some r := by rw [if_pos rfl] at H; exact H
       clear H
       have H := H1
       clear H1
       obtain rfl := Option.some.inj H
       have p147 : 0 ≤ (x9_1 : Int) := of_decide_eq_true (by first | (with_reducible assumption) | assumption)
       have q147 : x9_1 < (l0.length : Int) := of_decide_eq_true (by first | (with_reducible assumption) | assumption)
       obtain ⟨ad147, A147_0, c147_0, e147, hx147_0, hl147_0, hi147_0⟩ := at_L4 HR0.out x9_1 p147 q147
       cases e147
       have HR147_0 := Aside0.mk hi147_0
       have HC147_0 := Aside0.mk hl147_0
       clear hi147_0 hl147_0
       replace p147 := eq_true p147
       replace q147 := eq_true q147
       go_wp2_with (first | ((with_reducible refine gate_callee (f := 44) rfl ?_); refine goesL_ (some 16) rfl rfl Try.func44 (by kernel_rfl) rfl #[.slice A147_0 (rd_L4 l0 x9_1).length c147_0, .slice A1 l1.length c1] rfl (by (try simp only [List.map_toArray, List.map_cons, List.map_nil]); first | done | rfl | (simp only [List.length_drop, List.length_take]; rfl)) ?_; (with_reducible refine (laws_xSame.calls k1 _ _ (rd_L4 l0 x9_1) _ _ l1 true _ ?side1 ?side2 ?side3 ?side4 A6.out).mono ?_); (case side1 => repeat (first | exact HR147_0.out | (with_reducible refine Kd.C_alloc ?_ _) | (with_reducible refine Kd.C_drewN ?_ _) | (with_reducible refine Kd.C_drew ?_))); (case side2 => exact HC147_0.out); (case side3 => repeat (first | exact HR1.out | (with_reducible refine Kd.C_alloc ?_ _) | (with_reducible refine Kd.C_drewN ?_ _) | (with_reducible refine Kd.C_drew ?_))); (case side4 => exact HC1.out); rintro e w' ⟨rfl, ⟨nd, rfl⟩⟩; refine ⟨_, rfl, ?_⟩))
       go_ret
       exact ⟨by first | rfl | (simp; done) | (simp [*]; done), by repeat (first | exact Drawn0.refl _ | apply Drawn0.step)⟩
      ·replace c7 := Bool.eq_false_iff.mpr c7
       subst c7
       have H1 : (laws_xPlace.l0 k1 l1 l0 (l0.length : Int) (wrap64 (x9_1 + 1))) = some r := by rw [if_neg (show ¬ (false = true) by decide)] at H; exact H
       clear H
       have H := H1
       clear H1
       have H' := Aside0.mk H
       clear H
       have p147 : 0 ≤ (x9_1 : Int) := of_decide_eq_true (by first | (with_reducible assumption) | assumption)
       have q147 : x9_1 < (l0.length : Int) := of_decide_eq_true (by first | (with_reducible assumption) | assumption)
       obtain ⟨ad147, A147_0, c147_0, e147, hx147_0, hl147_0, hi147_0⟩ := at_L4 HR0.out x9_1 p147 q147
       cases e147
       have HR147_0 := Aside0.mk hi147_0
       have HC147_0 := Aside0.mk hl147_0
       clear hi147_0 hl147_0
       replace p147 := eq_true p147
       replace q147 := eq_true q147
       go_wp2_with (first | ((with_reducible refine gate_callee (f := 44) rfl ?_); refine goesL_ (some 16) rfl rfl Try.func44 (by kernel_rfl) rfl #[.slice A147_0 (rd_L4 l0 x9_1).length c147_0, .slice A1 l1.length c1] rfl (by (try simp only [List.map_toArray, List.map_cons, List.map_nil]); first | done | rfl | (simp only [List.length_drop, List.length_take]; rfl)) ?_; (with_reducible refine (laws_xSame.calls k1 _ _ (rd_L4 l0 x9_1) _ _ l1 false _ ?side1 ?side2 ?side3 ?side4 A6.out).mono ?_); (case side1 => repeat (first | exact HR147_0.out | (with_reducible refine Kd.C_alloc ?_ _) | (with_reducible refine Kd.C_drewN ?_ _) | (with_reducible refine Kd.C_drew ?_))); (case side2 => exact HC147_0.out); (case side3 => repeat (first | exact HR1.out | (with_reducible refine Kd.C_alloc ?_ _) | (with_reducible refine Kd.C_drewN ?_ _) | (with_reducible refine Kd.C_drew ?_))); (case side4 => exact HC1.out); rintro e w' ⟨rfl, ⟨nd, rfl⟩⟩; refine ⟨_, rfl, ?_⟩))
       go_roundg k1
       case measure => have := HK1.out; omega
       case rel => exact ⟨(wrap64 (x9_1 + 1)), (by first | rfl | (simp; done) | (simp [*]; done)), H', ⟨by have := HK1.out; omega⟩, by repeat (first | exact Drawn0.refl _ | apply Drawn0.step)⟩
     ·rw [if_neg c5] at H
      exact absurd H (by simp)
    ·rw [if_neg c4] at H
     exact absurd H (by simp)
   ·rw [if_neg c3] at H
    have c3b0 : decide (x9_1 < (l0.length : Int)) = false := decide_eq_false c3
    clear c3
    obtain rfl := Option.some.inj H
    go_wp2
    go_ret
    exact ⟨by first | rfl | (simp; done) | (simp [*]; done), by repeat (first | exact Drawn0.refl _ | apply Drawn0.step)⟩
def IsS84 (w0 W : World) (g : Nat) (f0 : List Int) (f1 : Int) (f2 : Int) : Prop := ∃ A0 c0, W.heap[g]? = some (.cells #[.slice A0 f0.length c0, .int .i64 f1, .int .u64 f2] 84 (0, 0)) ∧ w0.heap.size ≤ g ∧ Kd.C (Kd.int .u8) w0 A0 f0.length f0
theorem IsS84.grown {w0 W : World} {g : Nat} {f0 : List Int} {f1 : Int} {f2 : Int} {W1 : World} {row : Option Nat} (h : IsS84 w0 W g f0 f1 f2) (hw : W.grownBy W1 row) (hne : some g ≠ row) : IsS84 w0 W1 g f0 f1 f2 := by
 obtain ⟨A0, c0, hb, hg, hr0⟩ := h
 exact ⟨A0, c0, blk_grown hb hw hne, hg, hr0⟩
theorem IsS84.below {w0 W : World} {g : Nat} {f0 : List Int} {f1 : Int} {f2 : Int} {W1 : World} (h : IsS84 w0 W g f0 f1 f2) (hw : Below W.heap.size W W1) : IsS84 w0 W1 g f0 f1 f2 := h.grown (grown_of_below hw none) (by simp)
theorem IsS84.drewN {w0 W : World} {g : Nat} {f0 : List Int} {f1 : Int} {f2 : Int} (h : IsS84 w0 W g f0 f1 f2) (m : Nat) : IsS84 w0 (W.drewN m) g f0 f1 f2 := h
theorem IsS84.apart {w0 W : World} {g : Nat} {f0 : List Int} {f1 : Int} {f2 : Int} {α : Type} {d : Kd α} {e : Nat} {base : Nat} {ok : Nat → Prop} {v : Value} {xs : List α} (h : IsS84 w0 W g f0 f1 f2) (ho : d.R e W base ok v xs) (ht : ∀ q, q ∈ e :: d.E → q ≠ 84) : d.R e W base (fun k => ok k ∧ k ≠ g) v xs := by
 obtain ⟨A0, c0, hb, hg, hr0⟩ := h
 exact Kd.R_types ho hb ht
theorem IsS84.own_ne {w0 W : World} {g : Nat} {f0 : List Int} {f1 : Int} {f2 : Int} {α : Type} {d : Kd α} {e : Nat} {base : Nat} {ok : Nat → Prop} {v : Value} {xs : List α} (h : IsS84 w0 W g f0 f1 f2) (ho : d.R e W base ok v xs) (ht : e ≠ 84) : some g ≠ v.ownBlock := by
 obtain ⟨A0, c0, hb, hg, hr0⟩ := h
 exact Kd.R_ne ho hb ht
theorem IsS84.ge {w0 W : World} {g : Nat} {f0 : List Int} {f1 : Int} {f2 : Int} (h : IsS84 w0 W g f0 f1 f2) : w0.heap.size ≤ g := by
 obtain ⟨A0, c0, hb, hg, hr0⟩ := h
 exact hg
theorem cellS84_0 {W : World} {g : Nat} {A0 : Option Addr} {c0 : Nat} {f0 : List Int} {f1 : Int} {f2 : Int} (h : W.heap[g]? = some (.cells #[.slice A0 f0.length c0, .int .i64 f1, .int .u64 f2] 84 (0, 0))) : W.cell? ⟨g, 0, none⟩ = some (.slice A0 f0.length c0) := (blk_cell h 0).trans rfl
theorem cellS84_1 {W : World} {g : Nat} {A0 : Option Addr} {c0 : Nat} {f0 : List Int} {f1 : Int} {f2 : Int} (h : W.heap[g]? = some (.cells #[.slice A0 f0.length c0, .int .i64 f1, .int .u64 f2] 84 (0, 0))) : W.cell? ⟨g, 1, none⟩ = some (.int .i64 f1) := (blk_cell h 1).trans rfl
theorem IsS84.set_1 {w0 W : World} {g : Nat} {f0 : List Int} {f1 : Int} {f2 : Int} (h : IsS84 w0 W g f0 f1 f2) (x : Int) : IsS84 w0 (W.setCell ⟨g, 1, none⟩ (.int .i64 x)) g f0 x f2 := by
 obtain ⟨A0, c0, hb, hg, hr0⟩ := h
 exact ⟨A0, c0, by simpa using blk_set hb 1 (.int .i64 x), hg, hr0⟩
theorem cellS84_2 {W : World} {g : Nat} {A0 : Option Addr} {c0 : Nat} {f0 : List Int} {f1 : Int} {f2 : Int} (h : W.heap[g]? = some (.cells #[.slice A0 f0.length c0, .int .i64 f1, .int .u64 f2] 84 (0, 0))) : W.cell? ⟨g, 2, none⟩ = some (.int .u64 f2) := (blk_cell h 2).trans rfl
theorem IsS84.set_2 {w0 W : World} {g : Nat} {f0 : List Int} {f1 : Int} {f2 : Int} (h : IsS84 w0 W g f0 f1 f2) (x : Int) : IsS84 w0 (W.setCell ⟨g, 2, none⟩ (.int .u64 x)) g f0 f1 x := by
 obtain ⟨A0, c0, hb, hg, hr0⟩ := h
 exact ⟨A0, c0, by simpa using blk_set hb 2 (.int .u64 x), hg, hr0⟩
theorem IsS84.new (w0 W : World) (A0 : Option Addr) (c0 : Nat) (f0 : List Int) (f1 : Int) (f2 : Int) (hB : Below w0.heap.size w0 W) (hr0 : Kd.C (Kd.int .u8) w0 A0 f0.length f0) : IsS84 w0 (W.alloc (.cells #[.slice A0 f0.length c0, .int .i64 f1, .int .u64 f2] 84)) W.heap.size f0 f1 f2 := ⟨A0, c0, by simpa using heap_alloc_new W _, hB.size, hr0⟩
def spec_l1Cur_next.f (s0_0 : List Int) (s0_1 : Int) (s0_2 : Int) : Option (Int × Int × Int) := if s0_1 < (s0_0.length : Int) then (if 0 ≤ s0_1 then (if (wrap64 (s0_1 + 1)) ≤ (s0_0.length : Int) then (some (wrap64 (rd s0_0 s0_1), wrap64 (s0_1 + 1), IntKind.u64.wrap ((IntKind.u64.wrap ((IntKind.u64.wrap (s0_2 * 6364136223846793005)) + (IntKind.u64.wrap (wrap64 (rd s0_0 s0_1))))) + 1442695040888963407))) else (some (wrap64 (Go.bits .and .u64 ((IntKind.u64.wrap ((IntKind.u64.wrap ((IntKind.u64.wrap (s0_2 * 6364136223846793005)) + (IntKind.u64.wrap (wrap64 (rd s0_0 s0_1))))) + 1442695040888963407)) / 1099511627776) 255), wrap64 (s0_1 + 1), IntKind.u64.wrap ((IntKind.u64.wrap ((IntKind.u64.wrap (s0_2 * 6364136223846793005)) + (IntKind.u64.wrap (wrap64 (rd s0_0 s0_1))))) + 1442695040888963407)))) else (none)) else (if (wrap64 (s0_1 + 1)) ≤ (s0_0.length : Int) then (some (0, wrap64 (s0_1 + 1), IntKind.u64.wrap ((IntKind.u64.wrap ((IntKind.u64.wrap (s0_2 * 6364136223846793005)))) + 1442695040888963407))) else (some (wrap64 (Go.bits .and .u64 ((IntKind.u64.wrap ((IntKind.u64.wrap ((IntKind.u64.wrap (s0_2 * 6364136223846793005)))) + 1442695040888963407)) / 1099511627776) 255), wrap64 (s0_1 + 1), IntKind.u64.wrap ((IntKind.u64.wrap ((IntKind.u64.wrap (s0_2 * 6364136223846793005)))) + 1442695040888963407))))
set_option maxHeartbeats 8000000 in
set_option maxRecDepth 100000 in
theorem spec_l1Cur_next.calls (g : Nat) (s0_0 : List Int) (s0_1 : Int) (s0_2 : Int) (r1 : Int) (r2 : Int) (r3 : Int) (w0 w : World) (hI : IsS84 w0 w g s0_0 s0_1 s0_2) (hB : Below w0.heap.size w0 w) (h : spec_l1Cur_next.f s0_0 s0_1 s0_2 = some (r1, r2, r3)) :
  Calls Try.prog 104 #[.pointer (some ⟨g, 0, none⟩)] w fun e w' => e = .returned (.int .i64 r1) ∧ IsS84 w0 w' g s0_0 r2 r3 ∧ Below w0.heap.size w0 w' ∧ KeepBut w w' g none := by
 have HI0 := Aside0.mk hI
 have HK := Aside0.mk (KeepBut.refl w g none)
 have HL := Aside0.mk hB.size
 clear hI
 have HW0 := Aside0.mk hB.size
 have HB := Aside0.mk hB
 clear hB
 have H : (if s0_1 < (s0_0.length : Int) then (if 0 ≤ s0_1 then (if (wrap64 (s0_1 + 1)) ≤ (s0_0.length : Int) then (some (wrap64 (rd s0_0 s0_1), wrap64 (s0_1 + 1), IntKind.u64.wrap ((IntKind.u64.wrap ((IntKind.u64.wrap (s0_2 * 6364136223846793005)) + (IntKind.u64.wrap (wrap64 (rd s0_0 s0_1))))) + 1442695040888963407))) else (some (wrap64 (Go.bits .and .u64 ((IntKind.u64.wrap ((IntKind.u64.wrap ((IntKind.u64.wrap (s0_2 * 6364136223846793005)) + (IntKind.u64.wrap (wrap64 (rd s0_0 s0_1))))) + 1442695040888963407)) / 1099511627776) 255), wrap64 (s0_1 + 1), IntKind.u64.wrap ((IntKind.u64.wrap ((IntKind.u64.wrap (s0_2 * 6364136223846793005)) + (IntKind.u64.wrap (wrap64 (rd s0_0 s0_1))))) + 1442695040888963407)))) else (none)) else (if (wrap64 (s0_1 + 1)) ≤ (s0_0.length : Int) then (some (0, wrap64 (s0_1 + 1), IntKind.u64.wrap ((IntKind.u64.wrap ((IntKind.u64.wrap (s0_2 * 6364136223846793005)))) + 1442695040888963407))) else (some (wrap64 (Go.bits .and .u64 ((IntKind.u64.wrap ((IntKind.u64.wrap ((IntKind.u64.wrap (s0_2 * 6364136223846793005)))) + 1442695040888963407)) / 1099511627776) 255), wrap64 (s0_1 + 1), IntKind.u64.wrap ((IntKind.u64.wrap ((IntKind.u64.wrap (s0_2 * 6364136223846793005)))) + 1442695040888963407))))) = some (r1, r2, r3) := h
 clear h
 by_cases c2 : s0_1 < (s0_0.length : Int)
 ·rw [if_pos c2] at H
  have c2b0 : decide (s0_1 < (s0_0.length : Int)) = true := decide_eq_true c2
  clear c2
  by_cases c3 : 0 ≤ s0_1
  ·rw [if_pos c3] at H
   have c3b0 : decide (0 ≤ s0_1) = true := decide_eq_true c3
   clear c3
   by_cases c4 : (wrap64 (s0_1 + 1)) ≤ (s0_0.length : Int)
   ·rw [if_pos c4] at H
    have c4b0 : decide ((wrap64 (s0_1 + 1)) ≤ (s0_0.length : Int)) = true := decide_eq_true c4
    clear c4
    simp only [Option.some.injEq, Prod.mk.injEq] at H
    obtain ⟨rfl, rfl, rfl⟩ := H
    obtain ⟨ASz5_0, cSz5_0, HGz5, hgz5, HSz5_0⟩ := HI0.out
    have hcz5_0 := cellS84_0 HGz5
    have hcz5_1 := cellS84_1 HGz5
    have hcz5_2 := cellS84_2 HGz5
    have hfz5_1 := kF_ HGz5 1
    have hfz5_2 := kF_ HGz5 2
    clear HGz5 hgz5
    have p172 : 0 ≤ (s0_1 : Int) := of_decide_eq_true (by first | (with_reducible assumption) | assumption)
    have q172 : s0_1 < (s0_0.length : Int) := of_decide_eq_true (by first | (with_reducible assumption) | assumption)
    obtain ⟨ad172, e172, hx172_0⟩ := Kd.at_int HSz5_0 s0_1 p172 q172
    cases e172
    replace hx172_0 := pw_cell_below HB.out hx172_0
    replace p172 := eq_true p172
    replace q172 := eq_true q172
    go_enter Try.func104, Try.ntmps104
    go_wp2
    repeat (go_quiet (fail); try go_wp2)
    go_ret
    exact ⟨by first | rfl | (simp [errW_none, errW_some] <;> rfl) | (simp [*, errW_none, errW_some] <;> rfl), by repeat (first | (with_reducible first | exact HI0.out | apply IsS84.alloc | apply IsS84.drewN | apply IsS84.drew | apply IsS84.set_1 | apply IsS84.set_2) | exact HI0.out), by repeat (first | (with_reducible first | exact HB.out | apply bA_ | apply bN_ | apply bD_ | refine bS_ ?_ (IsS84.ge HI0.out)) | exact HB.out), by repeat (first | (with_reducible first | exact HK.out | apply KeepBut.set_ | apply keep_drewN | apply keep_drew | apply keep_alloc) | exact HK.out)⟩
   ·rw [if_neg c4] at H
    have c4b0 : decide ((wrap64 (s0_1 + 1)) ≤ (s0_0.length : Int)) = false := decide_eq_false c4
    clear c4
    simp only [Option.some.injEq, Prod.mk.injEq] at H
    obtain ⟨rfl, rfl, rfl⟩ := H
    obtain ⟨ASz6_0, cSz6_0, HGz6, hgz6, HSz6_0⟩ := HI0.out
    have hcz6_0 := cellS84_0 HGz6
    have hcz6_1 := cellS84_1 HGz6
    have hcz6_2 := cellS84_2 HGz6
    have hfz6_1 := kF_ HGz6 1
    have hfz6_2 := kF_ HGz6 2
    clear HGz6 hgz6
    have p172 : 0 ≤ (s0_1 : Int) := of_decide_eq_true (by first | (with_reducible assumption) | assumption)
    have q172 : s0_1 < (s0_0.length : Int) := of_decide_eq_true (by first | (with_reducible assumption) | assumption)
    obtain ⟨ad172, e172, hx172_0⟩ := Kd.at_int HSz6_0 s0_1 p172 q172
    cases e172
    replace hx172_0 := pw_cell_below HB.out hx172_0
    replace p172 := eq_true p172
    replace q172 := eq_true q172
    go_enter Try.func104, Try.ntmps104
    go_wp2
    repeat (go_quiet (fail); try go_wp2)
    go_ret
    exact ⟨by first | rfl | (simp [errW_none, errW_some] <;> rfl) | (simp [*, errW_none, errW_some] <;> rfl), by repeat (first | (with_reducible first | exact HI0.out | apply IsS84.alloc | apply IsS84.drewN | apply IsS84.drew | apply IsS84.set_1 | apply IsS84.set_2) | exact HI0.out), by repeat (first | (with_reducible first | exact HB.out | apply bA_ | apply bN_ | apply bD_ | refine bS_ ?_ (IsS84.ge HI0.out)) | exact HB.out), by repeat (first | (with_reducible first | exact HK.out | apply KeepBut.set_ | apply keep_drewN | apply keep_drew | apply keep_alloc) | exact HK.out)⟩
  ·rw [if_neg c3] at H
   exact absurd H (by simp)
 ·rw [if_neg c2] at H
  have c2b0 : decide (s0_1 < (s0_0.length : Int)) = false := decide_eq_false c2
  clear c2
  by_cases c7 : (wrap64 (s0_1 + 1)) ≤ (s0_0.length : Int)
  ·rw [if_pos c7] at H
   have c7b0 : decide ((wrap64 (s0_1 + 1)) ≤ (s0_0.length : Int)) = true := decide_eq_true c7
   clear c7
   simp only [Option.some.injEq, Prod.mk.injEq] at H
   obtain ⟨rfl, rfl, rfl⟩ := H
   obtain ⟨ASz8_0, cSz8_0, HGz8, hgz8, HSz8_0⟩ := HI0.out
   have hcz8_0 := cellS84_0 HGz8
   have hcz8_1 := cellS84_1 HGz8
   have hcz8_2 := cellS84_2 HGz8
   have hfz8_1 := kF_ HGz8 1
   have hfz8_2 := kF_ HGz8 2
   clear HGz8 hgz8
   go_enter Try.func104, Try.ntmps104
   go_wp2
   repeat (go_quiet (fail); try go_wp2)
   go_ret
   exact ⟨by first | rfl | (simp [errW_none, errW_some] <;> rfl) | (simp [*, errW_none, errW_some] <;> rfl), by repeat (first | (with_reducible first | exact HI0.out | apply IsS84.alloc | apply IsS84.drewN | apply IsS84.drew | apply IsS84.set_1 | apply IsS84.set_2) | exact HI0.out), by repeat (first | (with_reducible first | exact HB.out | apply bA_ | apply bN_ | apply bD_ | refine bS_ ?_ (IsS84.ge HI0.out)) | exact HB.out), by repeat (first | (with_reducible first | exact HK.out | apply KeepBut.set_ | apply keep_drewN | apply keep_drew | apply keep_alloc) | exact HK.out)⟩
  ·rw [if_neg c7] at H
   have c7b0 : decide ((wrap64 (s0_1 + 1)) ≤ (s0_0.length : Int)) = false := decide_eq_false c7
   clear c7
   simp only [Option.some.injEq, Prod.mk.injEq] at H
   obtain ⟨rfl, rfl, rfl⟩ := H
   obtain ⟨ASz9_0, cSz9_0, HGz9, hgz9, HSz9_0⟩ := HI0.out
   have hcz9_0 := cellS84_0 HGz9
   have hcz9_1 := cellS84_1 HGz9
   have hcz9_2 := cellS84_2 HGz9
   have hfz9_1 := kF_ HGz9 1
   have hfz9_2 := kF_ HGz9 2
   clear HGz9 hgz9
   go_enter Try.func104, Try.ntmps104
   go_wp2
   repeat (go_quiet (fail); try go_wp2)
   go_ret
   exact ⟨by first | rfl | (simp [errW_none, errW_some] <;> rfl) | (simp [*, errW_none, errW_some] <;> rfl), by repeat (first | (with_reducible first | exact HI0.out | apply IsS84.alloc | apply IsS84.drewN | apply IsS84.drew | apply IsS84.set_1 | apply IsS84.set_2) | exact HI0.out), by repeat (first | (with_reducible first | exact HB.out | apply bA_ | apply bN_ | apply bD_ | refine bS_ ?_ (IsS84.ge HI0.out)) | exact HB.out), by repeat (first | (with_reducible first | exact HK.out | apply KeepBut.set_ | apply keep_drewN | apply keep_drew | apply keep_alloc) | exact HK.out)⟩
def spec_l1Cur_pick.f (s0_0 : List Int) (s0_1 : Int) (s0_2 : Int) (a1 : Int) : Option (Int × Int × Int) := if a1 ≤ 1 then (some (0, s0_1, s0_2)) else ((spec_l1Cur_next.f s0_0 s0_1 s0_2).bind fun bt173 => (if a1 > 200 then ((spec_l1Cur_next.f s0_0 bt173.2.1 bt173.2.2).bind fun bt176 => (if a1 = 0 then (none) else (some (Int.tmod (wrap64 ((wrap64 (bt173.1 * 256)) + bt176.1)) a1, bt176.2.1, bt176.2.2)))) else (if a1 = 0 then (none) else (some (Int.tmod bt173.1 a1, bt173.2.1, bt173.2.2)))))
set_option maxHeartbeats 8000000 in
set_option maxRecDepth 100000 in
theorem spec_l1Cur_pick.calls (g : Nat) (s0_0 : List Int) (s0_1 : Int) (s0_2 : Int) (a1 : Int) (r1 : Int) (r2 : Int) (r3 : Int) (w0 w : World) (hI : IsS84 w0 w g s0_0 s0_1 s0_2) (hB : Below w0.heap.size w0 w) (h : spec_l1Cur_pick.f s0_0 s0_1 s0_2 a1 = some (r1, r2, r3)) :
  Calls Try.prog 89 #[.pointer (some ⟨g, 0, none⟩), .int .i64 a1] w fun e w' => e = .returned (.int .i64 r1) ∧ IsS84 w0 w' g s0_0 r2 r3 ∧ Below w0.heap.size w0 w' ∧ KeepBut w w' g none := by
 have HI0 := Aside0.mk hI
 have HK := Aside0.mk (KeepBut.refl w g none)
 have HL := Aside0.mk hB.size
 clear hI
 have HW0 := Aside0.mk hB.size
 have HB := Aside0.mk hB
 clear hB
 have H : (if a1 ≤ 1 then (some (0, s0_1, s0_2)) else ((spec_l1Cur_next.f s0_0 s0_1 s0_2).bind fun bt173 => (if a1 > 200 then ((spec_l1Cur_next.f s0_0 bt173.2.1 bt173.2.2).bind fun bt176 => (if a1 = 0 then (none) else (some (Int.tmod (wrap64 ((wrap64 (bt173.1 * 256)) + bt176.1)) a1, bt176.2.1, bt176.2.2)))) else (if a1 = 0 then (none) else (some (Int.tmod bt173.1 a1, bt173.2.1, bt173.2.2)))))) = some (r1, r2, r3) := h
 clear h
 by_cases c3 : a1 ≤ 1
 ·rw [if_pos c3] at H
  have c3b0 : decide (a1 ≤ 1) = true := decide_eq_true c3
  clear c3
  simp only [Option.some.injEq, Prod.mk.injEq] at H
  obtain ⟨rfl, rfl, rfl⟩ := H
  go_enter Try.func89, Try.ntmps89
  go_wp2
  go_ret
  exact ⟨by first | rfl | (simp [errW_none, errW_some] <;> rfl) | (simp [*, errW_none, errW_some] <;> rfl), by repeat (first | (with_reducible first | exact HI0.out | apply IsS84.alloc | apply IsS84.drewN | apply IsS84.drew | apply IsS84.set_1 | apply IsS84.set_2) | exact HI0.out), by repeat (first | (with_reducible first | exact HB.out | apply bA_ | apply bN_ | apply bD_ | refine bS_ ?_ (IsS84.ge HI0.out)) | exact HB.out), by repeat (first | (with_reducible first | exact HK.out | apply KeepBut.set_ | apply keep_drewN | apply keep_drew | apply keep_alloc) | exact HK.out)⟩
 ·rw [if_neg c3] at H
  have c3b0 : decide (a1 ≤ 1) = false := decide_eq_false c3
  clear c3
  replace H := Option.bind_eq_some_iff.mp H
  obtain ⟨⟨t173, t174, t175⟩, A40, H⟩ := H
  replace H : (if a1 > 200 then ((spec_l1Cur_next.f s0_0 t174 t175).bind fun bt176 => (if a1 = 0 then (none) else (some (Int.tmod (wrap64 ((wrap64 (t173 * 256)) + bt176.1)) a1, bt176.2.1, bt176.2.2)))) else (if a1 = 0 then (none) else (some (Int.tmod t173 a1, t174, t175)))) = some (r1, r2, r3) := H
  have A4 := Aside0.mk A40
  clear A40
  by_cases c5 : a1 > 200
  ·rw [if_pos c5] at H
   have c5b0 : decide (200 < a1) = true := decide_eq_true c5
   clear c5
   replace H := Option.bind_eq_some_iff.mp H
   obtain ⟨⟨t176, t177, t178⟩, A60, H⟩ := H
   replace H : (if a1 = 0 then (none) else (some (Int.tmod (wrap64 ((wrap64 (t173 * 256)) + t176)) a1, t177, t178))) = some (r1, r2, r3) := H
   have A6 := Aside0.mk A60
   clear A60
   by_cases c7 : a1 = 0
   ·rw [if_pos c7] at H
    exact absurd H (by simp)
   ·rw [if_neg c7] at H
    have c7b0 : (a1 == 0) = false := beq_eq_false_iff_ne.mpr c7
    have c7b1 : (a1 != 0) = true := bne_iff_ne.mpr c7
    simp only [Option.some.injEq, Prod.mk.injEq] at H
    obtain ⟨rfl, rfl, rfl⟩ := H
    go_enter Try.func89, Try.ntmps89
    go_wp2_with (first | ((with_reducible refine gate_callee (f := 104) rfl ?_); refine goesL_ (some 9) rfl rfl Try.func104 (by kernel_rfl) rfl #[.pointer (some ⟨g, 0, none⟩)] rfl (by (try simp only [List.map_toArray, List.map_cons, List.map_nil]); first | done | rfl | (simp only [List.length_drop, List.length_take]; rfl)) ?_; (with_reducible refine (spec_l1Cur_next.calls g s0_0 s0_1 s0_2 t173 t174 t175 w0 _ ?side1 ?side2 A4.out).mono ?_); (case side1 => repeat (first | (with_reducible first | exact HI0.out | apply IsS84.alloc | apply IsS84.drewN | apply IsS84.drew | apply IsS84.set_1 | apply IsS84.set_2) | exact HI0.out)); (case side2 => repeat (first | (with_reducible first | exact HB.out | apply bA_ | apply bN_ | apply bD_ | refine bS_ ?_ (IsS84.ge HI0.out)) | exact HB.out)); rintro e w8 ⟨rfl, hi, hb, hk⟩; refine ⟨_, rfl, ?_⟩; have n0_ := Aside0.mk (KeepBut.trans (by repeat (first | (with_reducible first | exact HK.out | apply KeepBut.set_ | apply keep_drewN | apply keep_drew | apply keep_alloc) | exact HK.out)) hk (.inl rfl)); have n1_ := Aside0.mk (hb); have n2_ := Aside0.mk (hi); clear HK; clear HB; clear HI0; have HK := n0_; have HB := n1_; have HI0 := n2_; clear n0_ n1_ n2_; (try clear hb); (try clear hb2); (try clear hk); (try clear hi)) | ((with_reducible refine gate_callee (f := 104) rfl ?_); refine goesL_ (some 15) rfl rfl Try.func104 (by kernel_rfl) rfl #[.pointer (some ⟨g, 0, none⟩)] rfl (by (try simp only [List.map_toArray, List.map_cons, List.map_nil]); first | done | rfl | (simp only [List.length_drop, List.length_take]; rfl)) ?_; (with_reducible refine (spec_l1Cur_next.calls g s0_0 t174 t175 t176 t177 t178 w0 _ ?side1 ?side2 A6.out).mono ?_); (case side1 => repeat (first | (with_reducible first | exact HI0.out | apply IsS84.alloc | apply IsS84.drewN | apply IsS84.drew | apply IsS84.set_1 | apply IsS84.set_2) | exact HI0.out)); (case side2 => repeat (first | (with_reducible first | exact HB.out | apply bA_ | apply bN_ | apply bD_ | refine bS_ ?_ (IsS84.ge HI0.out)) | exact HB.out)); rintro e w9 ⟨rfl, hi, hb, hk⟩; refine ⟨_, rfl, ?_⟩; have n0_ := Aside0.mk (KeepBut.trans (by repeat (first | (with_reducible first | exact HK.out | apply KeepBut.set_ | apply keep_drewN | apply keep_drew | apply keep_alloc) | exact HK.out)) hk (.inl rfl)); have n1_ := Aside0.mk (hb); have n2_ := Aside0.mk (hi); clear HK; clear HB; clear HI0; have HK := n0_; have HB := n1_; have HI0 := n2_; clear n0_ n1_ n2_; (try clear hb); (try clear hb2); (try clear hk); (try clear hi)))
    go_ret
    exact ⟨by first | rfl | (simp [errW_none, errW_some] <;> rfl) | (simp [*, errW_none, errW_some] <;> rfl), by repeat (first | (with_reducible first | exact HI0.out | apply IsS84.alloc | apply IsS84.drewN | apply IsS84.drew | apply IsS84.set_1 | apply IsS84.set_2) | exact HI0.out), by repeat (first | (with_reducible first | exact HB.out | apply bA_ | apply bN_ | apply bD_ | refine bS_ ?_ (IsS84.ge HI0.out)) | exact HB.out), by repeat (first | (with_reducible first | exact HK.out | apply KeepBut.set_ | apply keep_drewN | apply keep_drew | apply keep_alloc) | exact HK.out)⟩
  ·rw [if_neg c5] at H
   have c5b0 : decide (200 < a1) = false := decide_eq_false c5
   clear c5
   by_cases c10 : a1 = 0
   ·rw [if_pos c10] at H
    exact absurd H (by simp)
   ·rw [if_neg c10] at H
    have c10b0 : (a1 == 0) = false := beq_eq_false_iff_ne.mpr c10
    have c10b1 : (a1 != 0) = true := bne_iff_ne.mpr c10
    simp only [Option.some.injEq, Prod.mk.injEq] at H
    obtain ⟨rfl, rfl, rfl⟩ := H
    go_enter Try.func89, Try.ntmps89
    go_wp2_with (first | ((with_reducible refine gate_callee (f := 104) rfl ?_); refine goesL_ (some 9) rfl rfl Try.func104 (by kernel_rfl) rfl #[.pointer (some ⟨g, 0, none⟩)] rfl (by (try simp only [List.map_toArray, List.map_cons, List.map_nil]); first | done | rfl | (simp only [List.length_drop, List.length_take]; rfl)) ?_; (with_reducible refine (spec_l1Cur_next.calls g s0_0 s0_1 s0_2 t173 t174 t175 w0 _ ?side1 ?side2 A4.out).mono ?_); (case side1 => repeat (first | (with_reducible first | exact HI0.out | apply IsS84.alloc | apply IsS84.drewN | apply IsS84.drew | apply IsS84.set_1 | apply IsS84.set_2) | exact HI0.out)); (case side2 => repeat (first | (with_reducible first | exact HB.out | apply bA_ | apply bN_ | apply bD_ | refine bS_ ?_ (IsS84.ge HI0.out)) | exact HB.out)); rintro e w11 ⟨rfl, hi, hb, hk⟩; refine ⟨_, rfl, ?_⟩; have n0_ := Aside0.mk (KeepBut.trans (by repeat (first | (with_reducible first | exact HK.out | apply KeepBut.set_ | apply keep_drewN | apply keep_drew | apply keep_alloc) | exact HK.out)) hk (.inl rfl)); have n1_ := Aside0.mk (hb); have n2_ := Aside0.mk (hi); clear HK; clear HB; clear HI0; have HK := n0_; have HB := n1_; have HI0 := n2_; clear n0_ n1_ n2_; (try clear hb); (try clear hb2); (try clear hk); (try clear hi)))
    go_ret
    exact ⟨by first | rfl | (simp [errW_none, errW_some] <;> rfl) | (simp [*, errW_none, errW_some] <;> rfl), by repeat (first | (with_reducible first | exact HI0.out | apply IsS84.alloc | apply IsS84.drewN | apply IsS84.drew | apply IsS84.set_1 | apply IsS84.set_2) | exact HI0.out), by repeat (first | (with_reducible first | exact HB.out | apply bA_ | apply bN_ | apply bD_ | refine bS_ ?_ (IsS84.ge HI0.out)) | exact HB.out), by repeat (first | (with_reducible first | exact HK.out | apply KeepBut.set_ | apply keep_drewN | apply keep_drew | apply keep_alloc) | exact HK.out)⟩
def spec_l1Cur_among.f (s0_0 : List Int) (s0_1 : Int) (s0_2 : Int) (l1 : List Int) : Option (Int × Int × Int) := (spec_l1Cur_pick.f s0_0 s0_1 s0_2 (l1.length : Int)).bind fun bt179 => (if 0 ≤ bt179.1 then (if bt179.1 < (l1.length : Int) then (some (rd l1 bt179.1, bt179.2.1, bt179.2.2)) else (none)) else (none))
set_option maxHeartbeats 8000000 in
set_option maxRecDepth 100000 in
theorem spec_l1Cur_among.calls (g : Nat) (s0_0 : List Int) (s0_1 : Int) (s0_2 : Int) (A1 : Option Addr) (c1 : Nat) (l1 : List Int) (r1 : Int) (r2 : Int) (r3 : Int) (w0 w : World) (hI : IsS84 w0 w g s0_0 s0_1 s0_2) (hB : Below w0.heap.size w0 w) (hr1 : Kd.C (Kd.int .i64) w A1 l1.length l1) (hc1 : l1.length ≤ c1) (hf1 : ∀ ad, A1 = some ad → 0 < l1.length → ad.block ≠ g) (h : spec_l1Cur_among.f s0_0 s0_1 s0_2 l1 = some (r1, r2, r3)) :
  Calls Try.prog 83 #[.pointer (some ⟨g, 0, none⟩), .slice A1 l1.length c1] w fun e w' => e = .returned (.int .i64 r1) ∧ IsS84 w0 w' g s0_0 r2 r3 ∧ Below w0.heap.size w0 w' ∧ KeepBut w w' g none := by
 have HR1 := Aside0.mk hr1
 have HC1 := Aside0.mk hc1
 clear hr1 hc1
 have HI0 := Aside0.mk hI
 have HK := Aside0.mk (KeepBut.refl w g none)
 have HL := Aside0.mk hB.size
 clear hI
 have HW0 := Aside0.mk hB.size
 have HB := Aside0.mk hB
 clear hB
 have H : ((spec_l1Cur_pick.f s0_0 s0_1 s0_2 (l1.length : Int)).bind fun bt179 => (if 0 ≤ bt179.1 then (if bt179.1 < (l1.length : Int) then (some (rd l1 bt179.1, bt179.2.1, bt179.2.2)) else (none)) else (none))) = some (r1, r2, r3) := h
 clear h
 replace H := Option.bind_eq_some_iff.mp H
 obtain ⟨⟨t179, t180, t181⟩, A30, H⟩ := H
 replace H : (if 0 ≤ t179 then (if t179 < (l1.length : Int) then (some (rd l1 t179, t180, t181)) else (none)) else (none)) = some (r1, r2, r3) := H
 have A3 := Aside0.mk A30
 clear A30
 by_cases c4 : 0 ≤ t179
 ·rw [if_pos c4] at H
  have c4b0 : decide (0 ≤ t179) = true := decide_eq_true c4
  clear c4
  by_cases c5 : t179 < (l1.length : Int)
  ·rw [if_pos c5] at H
   have c5b0 : decide (t179 < (l1.length : Int)) = true := decide_eq_true c5
   clear c5
   simp only [Option.some.injEq, Prod.mk.injEq] at H
   obtain ⟨rfl, rfl, rfl⟩ := H
   go_enter Try.func83, Try.ntmps83
   go_wp2_with (first | ((with_reducible refine gate_callee (f := 89) rfl ?_); refine goesL_ (some 9) rfl rfl Try.func89 (by kernel_rfl) rfl #[.pointer (some ⟨g, 0, none⟩), .int .i64 (l1.length : Int)] rfl (by (try simp only [List.map_toArray, List.map_cons, List.map_nil]); first | done | rfl | (simp only [List.length_drop, List.length_take]; rfl)) ?_; (with_reducible refine (spec_l1Cur_pick.calls g s0_0 s0_1 s0_2 (l1.length : Int) t179 t180 t181 w0 _ ?side1 ?side2 A3.out).mono ?_); (case side1 => repeat (first | (with_reducible first | exact HI0.out | apply IsS84.alloc | apply IsS84.drewN | apply IsS84.drew | apply IsS84.set_1 | apply IsS84.set_2) | exact HI0.out)); (case side2 => repeat (first | (with_reducible first | exact HB.out | apply bA_ | apply bN_ | apply bD_ | refine bS_ ?_ (IsS84.ge HI0.out)) | exact HB.out)); rintro e w6 ⟨rfl, hi, hb, hk⟩; refine ⟨_, rfl, ?_⟩; have n0_ := Aside0.mk (KeepBut.trans (by repeat (first | (with_reducible first | exact HK.out | apply KeepBut.set_ | apply keep_drewN | apply keep_drew | apply keep_alloc) | exact HK.out)) hk (.inl rfl)); have n1_ := Aside0.mk (hb); have n2_ := Aside0.mk (hi); clear HK; clear HB; clear HI0; have HK := n0_; have HB := n1_; have HI0 := n2_; clear n0_ n1_ n2_; (try clear hb); (try clear hb2); (try clear hk); (try clear hi); have p182 : 0 ≤ (t179 : Int) := of_decide_eq_true (by first | (with_reducible assumption) | assumption); have q182 : t179 < (l1.length : Int) := of_decide_eq_true (by first | (with_reducible assumption) | assumption); obtain ⟨ad182, e182, hx182_0⟩ := Kd.at_int HR1.out t179 p182 q182; cases e182; replace hx182_0 := keep_cell HK.out hx182_0 (by first | (rw [add_block]; exact hf1 _ rfl (by omega)) | exact hf1 _ rfl (by omega) | exact hf1 ad182 rfl (by omega)); replace p182 := eq_true p182; replace q182 := eq_true q182))
   go_ret
   exact ⟨by first | rfl | (simp [errW_none, errW_some] <;> rfl) | (simp [*, errW_none, errW_some] <;> rfl), by repeat (first | (with_reducible first | exact HI0.out | apply IsS84.alloc | apply IsS84.drewN | apply IsS84.drew | apply IsS84.set_1 | apply IsS84.set_2) | exact HI0.out), by repeat (first | (with_reducible first | exact HB.out | apply bA_ | apply bN_ | apply bD_ | refine bS_ ?_ (IsS84.ge HI0.out)) | exact HB.out), by repeat (first | (with_reducible first | exact HK.out | apply KeepBut.set_ | apply keep_drewN | apply keep_drew | apply keep_alloc) | exact HK.out)⟩
  ·rw [if_neg c5] at H
   exact absurd H (by simp)
 ·rw [if_neg c4] at H
  exact absurd H (by simp)
def spec_l1Cur_grown.f (s0_0 : List Int) (s0_1 : Int) (s0_2 : Int) : Option (Int × Int × Int) := (spec_l1Cur_pick.f s0_0 s0_1 s0_2 80).bind fun bt183 => ((spec_l1Cur_pick.f s0_0 bt183.2.1 bt183.2.2 80).bind fun bt186 => ((spec_l1Cur_among.f s0_0 bt186.2.1 bt186.2.2 (([0, 1, 2, 5, 9, 20, 37, 60, 100, 250, 251, (-1), bt183.1, bt186.1] : List Int))).bind fun bt192 => (some (bt192.1, bt192.2.1, bt192.2.2))))
set_option maxHeartbeats 8000000 in
set_option maxRecDepth 100000 in
theorem spec_l1Cur_grown.calls (g : Nat) (s0_0 : List Int) (s0_1 : Int) (s0_2 : Int) (r1 : Int) (r2 : Int) (r3 : Int) (w0 w : World) (hI : IsS84 w0 w g s0_0 s0_1 s0_2) (hB : Below w0.heap.size w0 w) (h : spec_l1Cur_grown.f s0_0 s0_1 s0_2 = some (r1, r2, r3)) :
  Calls Try.prog 82 #[.pointer (some ⟨g, 0, none⟩)] w fun e w' => e = .returned (.int .i64 r1) ∧ IsS84 w0 w' g s0_0 r2 r3 ∧ Below w0.heap.size w0 w' ∧ KeepBut w w' g none := by
 have HI0 := Aside0.mk hI
 have HK := Aside0.mk (KeepBut.refl w g none)
 have HL := Aside0.mk hB.size
 clear hI
 have HW0 := Aside0.mk hB.size
 have HB := Aside0.mk hB
 clear hB
 have H : ((spec_l1Cur_pick.f s0_0 s0_1 s0_2 80).bind fun bt183 => ((spec_l1Cur_pick.f s0_0 bt183.2.1 bt183.2.2 80).bind fun bt186 => ((spec_l1Cur_among.f s0_0 bt186.2.1 bt186.2.2 (([0, 1, 2, 5, 9, 20, 37, 60, 100, 250, 251, (-1), bt183.1, bt186.1] : List Int))).bind fun bt192 => (some (bt192.1, bt192.2.1, bt192.2.2))))) = some (r1, r2, r3) := h
 clear h
 replace H := Option.bind_eq_some_iff.mp H
 obtain ⟨⟨t183, t184, t185⟩, A20, H⟩ := H
 replace H : ((spec_l1Cur_pick.f s0_0 t184 t185 80).bind fun bt186 => ((spec_l1Cur_among.f s0_0 bt186.2.1 bt186.2.2 (([0, 1, 2, 5, 9, 20, 37, 60, 100, 250, 251, (-1), t183, bt186.1] : List Int))).bind fun bt192 => (some (bt192.1, bt192.2.1, bt192.2.2)))) = some (r1, r2, r3) := H
 have A2 := Aside0.mk A20
 clear A20
 replace H := Option.bind_eq_some_iff.mp H
 obtain ⟨⟨t186, t187, t188⟩, A30, H⟩ := H
 replace H : ((spec_l1Cur_among.f s0_0 t187 t188 (([0, 1, 2, 5, 9, 20, 37, 60, 100, 250, 251, (-1), t183, t186] : List Int))).bind fun bt192 => (some (bt192.1, bt192.2.1, bt192.2.2))) = some (r1, r2, r3) := H
 have A3 := Aside0.mk A30
 clear A30
 obtain ⟨y189, hy189⟩ : ∃ y_ : List Int, y_ = (([0, 1, 2, 5, 9, 20, 37, 60, 100, 250, 251, (-1), t183, t186] : List Int)) := ⟨_, rfl⟩
 replace H : ((spec_l1Cur_among.f s0_0 t187 t188 y189).bind fun bt192 => (some (bt192.1, bt192.2.1, bt192.2.2))) = some (r1, r2, r3) := by first | (rw [hy189]; with_reducible exact H) | (have H2_ := (Option.bind_some _ _).symm.trans H; rw [hy189]; with_reducible exact H2_) | (have H2_ := (Option.bind_some _ _).symm.trans H; with_reducible exact H2_) | with_reducible exact H | (rw [hy189]; exact H) | exact H
 have Ny189 := Aside0.mk hy189
 clear hy189
 replace H := Option.bind_eq_some_iff.mp H
 obtain ⟨⟨t192, t193, t194⟩, A40, H⟩ := H
 replace H : (some (t192, t193, t194)) = some (r1, r2, r3) := H
 have A4 := Aside0.mk A40
 clear A40
 simp only [Option.some.injEq, Prod.mk.injEq] at H
 obtain ⟨rfl, rfl, rfl⟩ := H
 go_enter Try.func82, Try.ntmps82
 go_wp2_with (first | ((with_reducible refine gate_callee (f := 89) rfl ?_); refine goesL_ (some 5) rfl rfl Try.func89 (by kernel_rfl) rfl #[.pointer (some ⟨g, 0, none⟩), .int .i64 80] rfl (by (try simp only [List.map_toArray, List.map_cons, List.map_nil]); first | done | rfl | (simp only [List.length_drop, List.length_take]; rfl)) ?_; (with_reducible refine (spec_l1Cur_pick.calls g s0_0 s0_1 s0_2 80 t183 t184 t185 w0 _ ?side1 ?side2 A2.out).mono ?_); (case side1 => repeat (first | (with_reducible first | exact HI0.out | apply IsS84.alloc | apply IsS84.drewN | apply IsS84.drew | apply IsS84.set_1 | apply IsS84.set_2) | exact HI0.out)); (case side2 => repeat (first | (with_reducible first | exact HB.out | apply bA_ | apply bN_ | apply bD_ | refine bS_ ?_ (IsS84.ge HI0.out)) | exact HB.out)); rintro e w5 ⟨rfl, hi, hb, hk⟩; refine ⟨_, rfl, ?_⟩; have n0_ := Aside0.mk (KeepBut.trans (by repeat (first | (with_reducible first | exact HK.out | apply KeepBut.set_ | apply keep_drewN | apply keep_drew | apply keep_alloc) | exact HK.out)) hk (.inl rfl)); have n1_ := Aside0.mk (hb); have n2_ := Aside0.mk (hi); clear HK; clear HB; clear HI0; have HK := n0_; have HB := n1_; have HI0 := n2_; clear n0_ n1_ n2_; (try clear hb); (try clear hb2); (try clear hk); (try clear hi)) | ((with_reducible refine gate_callee (f := 89) rfl ?_); refine goesL_ (some 7) rfl rfl Try.func89 (by kernel_rfl) rfl #[.pointer (some ⟨g, 0, none⟩), .int .i64 80] rfl (by (try simp only [List.map_toArray, List.map_cons, List.map_nil]); first | done | rfl | (simp only [List.length_drop, List.length_take]; rfl)) ?_; (with_reducible refine (spec_l1Cur_pick.calls g s0_0 t184 t185 80 t186 t187 t188 w0 _ ?side1 ?side2 A3.out).mono ?_); (case side1 => repeat (first | (with_reducible first | exact HI0.out | apply IsS84.alloc | apply IsS84.drewN | apply IsS84.drew | apply IsS84.set_1 | apply IsS84.set_2) | exact HI0.out)); (case side2 => repeat (first | (with_reducible first | exact HB.out | apply bA_ | apply bN_ | apply bD_ | refine bS_ ?_ (IsS84.ge HI0.out)) | exact HB.out)); rintro e w6 ⟨rfl, hi, hb, hk⟩; refine ⟨_, rfl, ?_⟩; have n0_ := Aside0.mk (KeepBut.trans (by repeat (first | (with_reducible first | exact HK.out | apply KeepBut.set_ | apply keep_drewN | apply keep_drew | apply keep_alloc) | exact HK.out)) hk (.inl rfl)); have n1_ := Aside0.mk (hb); have n2_ := Aside0.mk (hi); clear HK; clear HB; clear HI0; have HK := n0_; have HB := n1_; have HI0 := n2_; clear n0_ n1_ n2_; (try clear hb); (try clear hb2); (try clear hk); (try clear hi)) | ((with_reducible refine gate_dst (N := 8) rfl ?_); refine Kd.R_lit (Kd.int .i64) _ 3 ?hg (N := 8) ?hd (xs := ([0, 1, 2, 5, 9, 20, 37, 60, 100, 250, 251, (-1), t183, t186] : List Int)) (inner := [.int .i64 0, .int .i64 1, .int .i64 2, .int .i64 5, .int .i64 9, .int .i64 20, .int .i64 37, .int .i64 60, .int .i64 100, .int .i64 250, .int .i64 251, .int .i64 (-1), .int .i64 t183, .int .i64 t186]) (ok := fun _ => True) (okp := fun _ => True) ?hr ?hp (fun _ hk => hk) trivial (Below.refl _ _) (Nat.le_refl _) (by simp) ?_; (case hd => rfl); (case hg => rfl); (case hr => first | (go_simp; done) | (go_simp; rfl)); (case hp => exact (Reps.one (show Kd.M (Kd.int .i64) _ _ _ 0 [.int .i64 0] from rfl) (Reps.one (show Kd.M (Kd.int .i64) _ _ _ 1 [.int .i64 1] from rfl) (Reps.one (show Kd.M (Kd.int .i64) _ _ _ 2 [.int .i64 2] from rfl) (Reps.one (show Kd.M (Kd.int .i64) _ _ _ 5 [.int .i64 5] from rfl) (Reps.one (show Kd.M (Kd.int .i64) _ _ _ 9 [.int .i64 9] from rfl) (Reps.one (show Kd.M (Kd.int .i64) _ _ _ 20 [.int .i64 20] from rfl) (Reps.one (show Kd.M (Kd.int .i64) _ _ _ 37 [.int .i64 37] from rfl) (Reps.one (show Kd.M (Kd.int .i64) _ _ _ 60 [.int .i64 60] from rfl) (Reps.one (show Kd.M (Kd.int .i64) _ _ _ 100 [.int .i64 100] from rfl) (Reps.one (show Kd.M (Kd.int .i64) _ _ _ 250 [.int .i64 250] from rfl) (Reps.one (show Kd.M (Kd.int .i64) _ _ _ 251 [.int .i64 251] from rfl) (Reps.one (show Kd.M (Kd.int .i64) _ _ _ (-1) [.int .i64 (-1)] from rfl) (Reps.one (show Kd.M (Kd.int .i64) _ _ _ t183 [.int .i64 t183] from rfl) (Reps.one (show Kd.M (Kd.int .i64) _ _ _ t186 [.int .i64 t186] from rfl) (Reps.none _ _)))))))))))))))); intro v190 w7 ho8 hb hg_ hnew_; clear hg_ hnew_; (first | rw [← Ny189.out] at ho8 | (simp only [Int.reduceToNat] at ho8; rw [← Ny189.out] at ho8)); have n0_ := Aside0.mk (Kd.R_lower ho8 (keep_size (w := w) (g := g) (row := none) (by repeat (first | (with_reducible first | exact HK.out | apply KeepBut.set_ | apply keep_drewN | apply keep_drew | apply keep_alloc) | exact HK.out)))); have n1_ := Aside0.mk (IsS84.below (by repeat (first | (with_reducible first | exact HI0.out | apply IsS84.alloc | apply IsS84.drewN | apply IsS84.drew | apply IsS84.set_1 | apply IsS84.set_2) | exact HI0.out)) hb); have n2_ := Aside0.mk (KeepBut.trans (by repeat (first | (with_reducible first | exact HK.out | apply KeepBut.set_ | apply keep_drewN | apply keep_drew | apply keep_alloc) | exact HK.out)) (KeepBut.of_below hb g none) (.inl rfl)); have n3_ := Aside0.mk (bP_ (by repeat (first | (with_reducible first | exact HB.out | apply bA_ | apply bN_ | apply bD_ | refine bS_ ?_ (IsS84.ge HI0.out)) | exact HB.out)) hb); clear HI0; clear HK; clear HB; have HO191 := n0_; have HI0 := n1_; have HK := n2_; have HB := n3_; clear n0_ n1_ n2_ n3_; clear hb ho8; obtain ⟨Ao9, co9, eo9⟩ := Kd.R_slice HO191.out; subst eo9) | ((with_reducible refine gate_callee (f := 83) rfl ?_); refine goesL_ (some 9) rfl rfl Try.func83 (by kernel_rfl) rfl #[.pointer (some ⟨g, 0, none⟩), .slice Ao9 y189.length co9] rfl (by (try simp only [List.map_toArray, List.map_cons, List.map_nil]); first | done | rfl | (simp only [List.length_drop, List.length_take]; rfl)) ?_; (with_reducible refine (spec_l1Cur_among.calls g s0_0 t187 t188 _ _ y189 t192 t193 t194 w0 _ ?side1 ?side2 ?side3 ?side4 ?side5 A4.out).mono ?_); (case side1 => repeat (first | (with_reducible first | exact HI0.out | apply IsS84.alloc | apply IsS84.drewN | apply IsS84.drew | apply IsS84.set_1 | apply IsS84.set_2) | exact HI0.out)); (case side2 => repeat (first | (with_reducible first | exact HB.out | apply bA_ | apply bN_ | apply bD_ | refine bS_ ?_ (IsS84.ge HI0.out)) | exact HB.out)); (case side3 => repeat (first | exact (Kd.R_reads' HO191.out).2.2 | (with_reducible refine Kd.C_alloc ?_ _) | (with_reducible refine Kd.C_drewN ?_ _) | (with_reducible refine Kd.C_drew ?_))); (case side4 => exact (Kd.R_reads' HO191.out).2.1); (case side5 => exact far_slice (IsS84.own_ne HI0.out HO191.out (by decide))); rintro e w10 ⟨rfl, hi, hb, hk⟩; refine ⟨_, rfl, ?_⟩; have n0_ := Aside0.mk (Kd.R_mono (Kd.R_keep (IsS84.apart (show IsS84 w0 _ g s0_0 t187 t188 from by repeat (first | (with_reducible first | exact HI0.out | apply IsS84.alloc | apply IsS84.drewN | apply IsS84.drew | apply IsS84.set_1 | apply IsS84.set_2) | exact HI0.out)) (by (with_reducible repeat (first | apply Kd.R_alloc | apply Kd.R_drewN | apply Kd.R_drew)); exact HO191.out) (by decide)) hk (fun _ h => h.2)) (fun _ h => h.1)); have n1_ := Aside0.mk (KeepBut.trans (by repeat (first | (with_reducible first | exact HK.out | apply KeepBut.set_ | apply keep_drewN | apply keep_drew | apply keep_alloc) | exact HK.out)) hk (.inl rfl)); have n2_ := Aside0.mk (hb); have n3_ := Aside0.mk (hi); clear HO191; clear HK; clear HB; clear HI0; have HO191 := n0_; have HK := n1_; have HB := n2_; have HI0 := n3_; clear n0_ n1_ n2_ n3_; (try clear hb); (try clear hb2); (try clear hk); (try clear hi)))
 go_ret
 exact ⟨by first | rfl | (simp [errW_none, errW_some] <;> rfl) | (simp [*, errW_none, errW_some] <;> rfl), by repeat (first | (with_reducible first | exact HI0.out | apply IsS84.alloc | apply IsS84.drewN | apply IsS84.drew | apply IsS84.set_1 | apply IsS84.set_2) | exact HI0.out), by repeat (first | (with_reducible first | exact HB.out | apply bA_ | apply bN_ | apply bD_ | refine bS_ ?_ (IsS84.ge HI0.out)) | exact HB.out), by repeat (first | (with_reducible first | exact HK.out | apply KeepBut.set_ | apply keep_drewN | apply keep_drew | apply keep_alloc) | exact HK.out)⟩
end Go.Proofs.Ytjedhjeijpbobaa.GL
namespace Go.Proofs.Ytjedhjeijpbobaa.H8
open Go.RowKit YtjedhjeijpbobaaW.PrintWords YtjedhjeijpbobaaW.PrintLast YtjedhjeijpbobaaW.PrintMore
open GA GL
open G8 (RowsD RowsAt heapRows okH0 own_len)
open Classical in
theorem S_of_rowsD {w : World} {base : Nat} {v : Value} {rows : List (List Int)} (h : RowsD w base v rows) : Kd.S (Kd.slice 3 (Kd.int .i64)) 29 w base (fun _ => True) v rows := by
 obtain ⟨L, h1, h2⟩ := h
 have hn : L.length = rows.length := by have := own_len h1; omega
 refine ⟨fun k => if q : ∃ (i : Nat) (u : Value), L[i]? = some u ∧ u.ownBlock = some k then q.choose else 0, fun _ _ => trivial, L, by rw [List.length_zipIdx]; exact h1, by show L.length = rows.zipIdx.length * 1; rw [List.length_zipIdx]; omega, ?_⟩
 rintro j ⟨r, i⟩ hj
 rw [List.getElem?_zipIdx] at hj
 obtain ⟨r', hr', he⟩ := Option.map_eq_some_iff.1 hj
 simp only [Prod.mk.injEq, Nat.zero_add] at he
 obtain ⟨rfl, rfl⟩ := he
 obtain ⟨u, hu, ho⟩ := h2.1 _ _ hr'
 have hlt := (List.getElem?_eq_some_iff.1 hu).1
 have e : L[j] = u := by rw [List.getElem?_eq_getElem hlt] at hu; exact Option.some.inj hu
 refine ⟨u, ?_, Kd.R_of_own ho fun k hk => ?_⟩
 ·show (L.drop (j * 1)).take 1 = [u]
  rw [Nat.mul_one, List.drop_eq_getElem_cons hlt, List.take_succ_cons, List.take_zero, e]
 ·refine ⟨⟨trivial, fun q => ?_⟩, ?_⟩
  ·obtain ⟨c1, t1⟩ := own_typed ho k hk
   obtain ⟨c2, t2⟩ := own_typed h1 k q.symm
   rw [t1] at t2
   cases t2
  ·have q : ∃ (i : Nat) (u : Value), L[i]? = some u ∧ u.ownBlock = some k := ⟨j, u, hu, hk⟩
   simp only [dif_pos q]
   obtain ⟨u2, hu2, hk2⟩ := q.choose_spec
   rcases Decidable.em (q.choose = j) with z | z
   ·exact z
   ·exact absurd hk (h2.2 _ _ _ _ k hu2 hu z hk2)
theorem R_of_rowsAt {w : World} {base : Nat} {v : Value} {rows : List (List Int)} (h : RowsAt w base v rows) (hs : ∀ r ∈ rows, r.length ≤ 1000) : Kd.R (Kd.slice 3 (Kd.int .i64)) 29 w base (fun _ => True) v rows := by
 obtain ⟨L, h1, h2⟩ := h
 have hn : L.length = rows.length := by have := own_len h1; omega
 refine ⟨fun _ _ => trivial, L, h1, by show L.length = rows.length * 1; omega, fun j r hj => ?_⟩
 obtain ⟨b, hu, hb, hh⟩ := h2 j r hj
 have hlt := (List.getElem?_eq_some_iff.1 hu).1
 have e : L[j] = .slice (some ⟨b, 0, none⟩) r.length r.length := by rw [List.getElem?_eq_getElem hlt] at hu; exact Option.some.inj hu
 have hml := hs r (List.mem_of_getElem? hj)
 have ho : w.ownsRow base 3 1 (.slice (some ⟨b, 0, none⟩) r.length r.length) r.length (G8.encI r) := by
  refine ⟨by simp, .inr ⟨b, r.length, G8.rowV r, rfl, hb, hh, Nat.le_refl _, by unfold maxLen; omega, by simp [G8.rowV], ?_⟩⟩
  have e : (r.map (Value.int .i64)).length = r.length * 1 := by simp
  show List.take (r.length * 1) (r.map (Value.int .i64)) = _
  rw [← e, List.take_length]
 refine ⟨_, ?_, Kd.R_of_own ho fun k hk => ⟨trivial, fun q => ?_⟩⟩
 ·show (L.drop (j * 1)).take 1 = [_]
  rw [Nat.mul_one, List.drop_eq_getElem_cons hlt, List.take_succ_cons, List.take_zero, e]
 ·obtain ⟨c1, t1⟩ := own_typed ho k hk
  obtain ⟨c2, t2⟩ := own_typed h1 k q.symm
  rw [t1] at t2
  cases t2
def impl_HeapCells.f (n : Int) : Option (List (List Int) × Bool) := some (heapRows n, okH0 n)
theorem impl_HeapCells.calls (n : Int) (r1 : List (List Int)) (r2 : Bool) (w : World) (h : impl_HeapCells.f n = some (r1, r2)) :
  Calls Try.prog 62 #[.int .i64 n] w fun e w' => ∃ v0_ : Value, e = .returned (.tuple #[v0_, .bool r2]) ∧ Kd.S (Kd.slice 3 (Kd.int .i64)) 29 w' w.heap.size (fun _ => True) v0_ r1 ∧ Below w.heap.size w w' := by
 unfold impl_HeapCells.f at h
 simp only [Option.some.injEq, Prod.mk.injEq] at h
 obtain ⟨rfl, rfl⟩ := h
 refine (G8.impl_HeapCells_calls n w).mono ?_
 rintro e w' ⟨vc, rfl, hB, hR⟩
 exact ⟨vc, rfl, S_of_rowsD hR.out, hB⟩
def spec_HeapCells.f (n : Int) : Option (List (List Int) × Bool) := some (heapRows n, okH0 n)
theorem spec_HeapCells.calls (n : Int) (r1 : List (List Int)) (r2 : Bool) (w : World) (h : spec_HeapCells.f n = some (r1, r2)) :
  Calls Try.prog 61 #[.int .i64 n] w fun e w' => ∃ v0_ : Value, e = .returned (.tuple #[v0_, .bool r2]) ∧ Kd.R (Kd.slice 3 (Kd.int .i64)) 29 w' w.heap.size (fun _ => True) v0_ r1 ∧ Below w.heap.size w w' := by
 unfold spec_HeapCells.f at h
 simp only [Option.some.injEq, Prod.mk.injEq] at h
 obtain ⟨rfl, rfl⟩ := h
 by_cases hn : 0 ≤ n ∧ n ≤ 250
 ·have hok : okH0 n = true := decide_eq_true hn
  rw [G8.heapRows1 hok, hok]
  refine (G8.heapCells_calls n hn w).mono ?_
  rintro e w' ⟨vc, cs, u, rfl, hB, hR, hL, hS, hC⟩
  have hu := G8.heapU_is hn hL.out (fun a b => (hS.out a b).2)
  subst hu
  have hcs := hC.out.eq hn
  refine ⟨vc, rfl, ?_, hB⟩
  rw [← hcs]
  refine R_of_rowsAt hR.out fun r hr => ?_
  unfold G8.hrows at hr
  obtain ⟨c, _, rfl⟩ := List.mem_map.1 hr
  exact Nat.le_of_ble_eq_true rfl
 ·have hok : okH0 n = false := decide_eq_false hn
  rw [G8.heapRows0 hok, hok]
  refine (G8.heapCells_bad n hn w).mono ?_
  rintro e w' ⟨rfl, hB⟩
  exact ⟨_, rfl, Kd.R_nil _ _ _ _ _, hB⟩
def spec_DrawHeapCells.f (l0 : List Int) : Option Int := (spec_l1Cur_grown.f l0 0 0).bind fun t => some t.1
set_option maxHeartbeats 4000000 in
set_option maxRecDepth 100000 in
theorem spec_DrawHeapCells.calls (A0 : Option Addr) (c0 : Nat) (l0 : List Int) (r1 : Int) (w : World) (hr0 : Kd.C (Kd.int .u8) w A0 l0.length l0) (hc0 : l0.length ≤ c0) (h : spec_DrawHeapCells.f l0 = some r1) :
  Calls Try.prog 64 #[.slice A0 l0.length c0] w fun e w' => e = .returned (.int .i64 r1) ∧ Below w.heap.size w w' := by
 have HR := Aside0.mk hr0
 clear hr0 hc0
 unfold spec_DrawHeapCells.f at h
 obtain ⟨⟨n, a1, s1⟩, h1, h⟩ := Option.bind_eq_some_iff.mp h
 simp only [Option.some.injEq] at h
 obtain rfl := h
 have H1 := Aside0.mk h1
 clear h1
 go_enter Try.func64, Try.ntmps64
 go_wp2_with (first | ((with_reducible refine gate_callee (f := 82) rfl ?_); refine goesL_ (some 8) rfl rfl Try.func82 (by kernel_rfl) rfl #[.pointer (some ⟨w.heap.size, 0, none⟩)] rfl (by (try simp only [List.map_toArray, List.map_cons, List.map_nil]); first | done | rfl) ?_; (with_reducible refine (spec_l1Cur_grown.calls w.heap.size l0 0 0 n a1 s1 w _ ?side1 ?side2 H1.out).mono ?_); (case side1 => exact IsS84.new w w A0 c0 l0 0 0 (Below.refl _ _) HR.out); (case side2 => exact bA_ (Below.refl _ _) _); rintro e w_ ⟨rfl, hi, hb, hk⟩; refine ⟨_, rfl, ?_⟩; have HI := Aside0.mk hi; have HB := Aside0.mk hb; clear hi hb hk))
 go_ret
 exact ⟨rfl, HB.out⟩
def spec_DrawLineEnds.f (l0 : List Int) : Option (Int × Int) :=
 (spec_l1Cur_grown.f l0 0 0).bind fun t => (spec_l1Cur_among.f l0 t.2.1 t.2.2 [0, 1, 0, 1, 2, (-1)]).bind fun y => some (t.1, y.1)
set_option maxHeartbeats 8000000 in
set_option maxRecDepth 100000 in
theorem spec_DrawLineEnds.calls (A0 : Option Addr) (c0 : Nat) (l0 : List Int) (r1 r2 : Int) (w : World) (hr0 : Kd.C (Kd.int .u8) w A0 l0.length l0) (hc0 : l0.length ≤ c0) (h : spec_DrawLineEnds.f l0 = some (r1, r2)) :
  Calls Try.prog 63 #[.slice A0 l0.length c0] w fun e w' => e = .returned (.tuple #[.int .i64 r1, .int .i64 r2]) ∧ Below w.heap.size w w' := by
 have HR := Aside0.mk hr0
 clear hr0 hc0
 unfold spec_DrawLineEnds.f at h
 obtain ⟨⟨n, a1, s1⟩, h1, h⟩ := Option.bind_eq_some_iff.mp h
 obtain ⟨⟨kk, a2, s2⟩, h2, h⟩ := Option.bind_eq_some_iff.mp h
 simp only [Option.some.injEq, Prod.mk.injEq] at h
 obtain ⟨rfl, rfl⟩ := h
 obtain ⟨y1, hy1⟩ : ∃ y_ : List Int, y_ = [0, 1, 0, 1, 2, (-1)] := ⟨_, rfl⟩
 replace h2 : spec_l1Cur_among.f l0 a1 s1 y1 = some (kk, a2, s2) := by rw [hy1]; exact h2
 have Ny1 := Aside0.mk hy1
 have H1 := Aside0.mk h1
 have H2 := Aside0.mk h2
 clear h1 h2 hy1
 go_enter Try.func63, Try.ntmps63
 go_wp2_with (first | ((with_reducible refine gate_callee (f := 82) rfl ?_); refine goesL_ (some 9) rfl rfl Try.func82 (by kernel_rfl) rfl #[.pointer (some ⟨w.heap.size, 0, none⟩)] rfl (by (try simp only [List.map_toArray, List.map_cons, List.map_nil]); first | done | rfl) ?_; (with_reducible refine (spec_l1Cur_grown.calls w.heap.size l0 0 0 n a1 s1 w _ ?side1 ?side2 H1.out).mono ?_); (case side1 => exact IsS84.new w w A0 c0 l0 0 0 (Below.refl _ _) HR.out); (case side2 => exact bA_ (Below.refl _ _) _); rintro e w_ ⟨rfl, hi, hb, hk⟩; refine ⟨_, rfl, ?_⟩; have HI := Aside0.mk hi; have HB := Aside0.mk hb; clear hi hb hk) | ((with_reducible refine gate_dst (N := 11) rfl ?_); refine Kd.R_lit (Kd.int .i64) _ 3 ?hg (N := 11) ?hd (xs := ([0, 1, 0, 1, 2, (-1)] : List Int)) (inner := [.int .i64 0, .int .i64 1, .int .i64 0, .int .i64 1, .int .i64 2, .int .i64 (-1)]) (ok := fun _ => True) (okp := fun _ => True) ?hr ?hp (fun _ hk => hk) trivial (Below.refl _ _) (Nat.le_refl _) (by simp) ?_; (case hd => rfl); (case hg => rfl); (case hr => first | (go_simp; done) | (go_simp; rfl)); (case hp => exact (Reps.one (show Kd.M (Kd.int .i64) _ _ _ 0 [.int .i64 0] from rfl) (Reps.one (show Kd.M (Kd.int .i64) _ _ _ 1 [.int .i64 1] from rfl) (Reps.one (show Kd.M (Kd.int .i64) _ _ _ 0 [.int .i64 0] from rfl) (Reps.one (show Kd.M (Kd.int .i64) _ _ _ 1 [.int .i64 1] from rfl) (Reps.one (show Kd.M (Kd.int .i64) _ _ _ 2 [.int .i64 2] from rfl) (Reps.one (show Kd.M (Kd.int .i64) _ _ _ (-1) [.int .i64 (-1)] from rfl) (Reps.none _ _)))))))); intro v_ w_ ho hb hg_ hnew_; clear hg_ hnew_; (first | rw [← Ny1.out] at ho | (simp only [Int.reduceToNat] at ho; rw [← Ny1.out] at ho)); have n1_ := Aside0.mk (IsS84.below (by repeat (first | (with_reducible first | exact HI.out | apply IsS84.alloc | apply IsS84.drewN | apply IsS84.drew) | exact HI.out)) hb); have n2_ := Aside0.mk (bP_ (by repeat (first | (with_reducible first | exact HB.out | apply bA_ | apply bN_ | apply bD_) | exact HB.out)) hb); have HO := Aside0.mk ho; clear HI HB; have HI := n1_; have HB := n2_; clear n1_ n2_ hb ho; obtain ⟨Ao, co, eo⟩ := Kd.R_slice HO.out; subst eo) | ((with_reducible refine gate_callee (f := 83) rfl ?_); refine goesL_ (some 12) rfl rfl Try.func83 (by kernel_rfl) rfl #[.pointer (some ⟨w.heap.size, 0, none⟩), .slice Ao y1.length co] rfl (by (try simp only [List.map_toArray, List.map_cons, List.map_nil]); first | done | rfl) ?_; (with_reducible refine (spec_l1Cur_among.calls w.heap.size l0 a1 s1 _ _ y1 kk a2 s2 w _ ?side1 ?side2 ?side3 ?side4 ?side5 H2.out).mono ?_); (case side1 => repeat (first | (with_reducible first | exact HI.out | apply IsS84.alloc | apply IsS84.drewN | apply IsS84.drew) | exact HI.out)); (case side2 => repeat (first | (with_reducible first | exact HB.out | apply bA_ | apply bN_ | apply bD_) | exact HB.out)); (case side3 => repeat (first | exact (Kd.R_reads' HO.out).2.2 | (with_reducible refine Kd.C_alloc ?_ _) | (with_reducible refine Kd.C_drewN ?_ _) | (with_reducible refine Kd.C_drew ?_))); (case side4 => exact (Kd.R_reads' HO.out).2.1); (case side5 => exact far_slice (IsS84.own_ne HI.out HO.out (by decide))); rintro e w_ ⟨rfl, hi, hb, hk⟩; refine ⟨_, rfl, ?_⟩; have n1_ := Aside0.mk hi; have n2_ := Aside0.mk hb; clear HI HB HO hi hb hk; have HI := n1_; have HB := n2_; clear n1_ n2_))
 refine bodyPost_ret (results_list (rs := [.tmp 2, .tmp 3]) rfl (by simp) (.tmp (.tmp .nil))) rfl ?_
 exact ⟨rfl, HB.out⟩
end Go.Proofs.Ytjedhjeijpbobaa.H8
namespace Go.Proofs.Ytjedhjeijpbobaa.H8
open Go.RowKit YtjedhjeijpbobaaW.PrintWords YtjedhjeijpbobaaW.PrintLast
open GL
open G8 (okLine okEnds lineS lo1 hi1 ends_all ends_mir ends2 endsV wrap_id heapRows okH0 heapU heapCs hrows hp inB)
theorem line_rng {n k : Int} (h : okLine n k = true) : 0 ≤ n ∧ n ≤ 250 ∧ (k = 0 ∨ k = 1) := by
 obtain ⟨m, rfl, h1, h2, h3, _⟩ := G8.line_is h
 omega
theorem ends_known {n k : Int} {l : List Int} (h : G8.impl_LineEnds.f n k = some (l, true)) : okLine n k = true ∧ n ≠ 0 ∧ l = [lo1 n k, hi1 n k] := by
 unfold G8.impl_LineEnds.f at h
 simp only [Option.some.injEq, Prod.mk.injEq] at h
 obtain ⟨rfl, ho⟩ := h
 have ho2 := ho
 unfold okEnds at ho2
 simp only [Bool.and_eq_true, Bool.not_eq_true', decide_eq_false_iff_not] at ho2
 exact ⟨ho2.1, ho2.2, (ends2 ho2.1 ho2.2).1⟩
theorem rd2_0 (a b : Int) : rd [a, b] 0 = a := rfl
theorem rd2_1 (a b : Int) : rd [a, b] 1 = b := rfl
section
variable {n k : Int} {l : List Int} (h : G8.impl_LineEnds.f n k = some (l, true))
include h
theorem e_len : (l.length : Int) = 2 := by obtain ⟨_, _, rfl⟩ := ends_known h; rfl
theorem e_far : wrap64 (rd l 1 - rd l 0) = wrap64 (n - 1) := by
 obtain ⟨h1, h2, rfl⟩ := ends_known h
 rw [rd2_0, rd2_1, (ends_all h1 h2).1]
theorem e_low : ¬ rd l 0 > 0 := by
 obtain ⟨h1, h2, rfl⟩ := ends_known h
 rw [rd2_0]
 have := ends_all h1 h2
 omega
theorem e_high : ¬ rd l 1 < 0 := by
 obtain ⟨h1, h2, rfl⟩ := ends_known h
 rw [rd2_1]
 have := ends_all h1 h2
 omega
theorem w_one : wrap64 (1 - k) = 1 - k := by
 obtain ⟨h1, h2, rfl⟩ := ends_known h
 have := line_rng h1
 exact wrap_id (by omega) (by omega)
theorem m_ok {l2 : List Int} {b : Bool} (h2 : G8.impl_LineEnds.f n (wrap64 (1 - k)) = some (l2, b)) : b = true := by
 rw [w_one h] at h2
 obtain ⟨h1, h0, rfl⟩ := ends_known h
 unfold G8.impl_LineEnds.f at h2
 simp only [Option.some.injEq, Prod.mk.injEq] at h2
 rw [← h2.2]
 exact (ends2 (ends_mir h1).1 h0).2
theorem m_ends {l2 : List Int} {b : Bool} (h2 : G8.impl_LineEnds.f n (wrap64 (1 - k)) = some (l2, b)) : l2 = [-(hi1 n k), -(lo1 n k)] := by
 have hb := m_ok h h2
 subst hb
 rw [w_one h] at h2
 obtain ⟨h1, h0, rfl⟩ := ends_known h
 obtain ⟨_, _, rfl⟩ := ends_known h2
 rw [(ends_mir h1).2.1, (ends_mir h1).2.2.1]
theorem m_len {l2 : List Int} {b : Bool} (h2 : G8.impl_LineEnds.f n (wrap64 (1 - k)) = some (l2, b)) : (l2.length : Int) = 2 := by rw [m_ends h h2]; rfl
theorem m_0 {l2 : List Int} {b : Bool} (h2 : G8.impl_LineEnds.f n (wrap64 (1 - k)) = some (l2, b)) : rd l2 0 = wrap64 (-(rd l 1)) := by
 rw [m_ends h h2]
 obtain ⟨h1, h0, rfl⟩ := ends_known h
 have := ends_all h1 h0
 rw [rd2_0, rd2_1, wrap_id (by omega) (by omega)]
theorem m_1 {l2 : List Int} {b : Bool} (h2 : G8.impl_LineEnds.f n (wrap64 (1 - k)) = some (l2, b)) : rd l2 1 = wrap64 (-(rd l 0)) := by
 rw [m_ends h h2]
 obtain ⟨h1, h0, rfl⟩ := ends_known h
 have := ends_all h1 h0
 rw [rd2_0, rd2_1, wrap_id (by omega) (by omega)]
theorem m_fine {s : Int} {b : Bool} (h3 : G8.impl_LineSteps.f n (wrap64 (1 - k)) = some (s, b)) : b = true := by
 rw [w_one h] at h3
 obtain ⟨h1, h0, rfl⟩ := ends_known h
 unfold G8.impl_LineSteps.f at h3
 simp only [Option.some.injEq, Prod.mk.injEq] at h3
 rw [← h3.2]
 exact (ends_mir h1).1
theorem m_steps {s s2 : Int} {b b2 : Bool} (h3 : G8.impl_LineSteps.f n (wrap64 (1 - k)) = some (s2, b)) (h4 : G8.impl_LineSteps.f n k = some (s, b2)) : s2 = s := by
 rw [w_one h] at h3
 obtain ⟨h1, h0, rfl⟩ := ends_known h
 unfold G8.impl_LineSteps.f at h3 h4
 simp only [Option.some.injEq, Prod.mk.injEq] at h3 h4
 rw [← h3.1, ← h4.1, if_pos h1, if_pos (ends_mir h1).1, (ends_mir h1).2.2.2]
theorem m_mid : ¬ wrap64 (rd l 0 + rd l 1) > 1 ∧ ¬ wrap64 (rd l 0 + rd l 1) < -1 := by
 obtain ⟨h1, h0, rfl⟩ := ends_known h
 have := ends_all h1 h0
 rw [rd2_0, rd2_1, wrap_id (by omega) (by omega)]
 omega
end
theorem same_l0 : ∀ (k : Nat) (x : List Int) (n i : Int) (t : Bool), laws_xSame.l0 k x x n i = some t → t = true
 | 0, x, n, i, t, h => by simp [laws_xSame.l0] at h
 | k + 1, x, n, i, t, h => by
  simp only [laws_xSame.l0] at h
  split at h
  ·split at h
   ·split at h
    ·rw [if_pos trivial] at h
     exact same_l0 k x n _ t h
    ·cases h
   ·cases h
  ·exact (Option.some.inj h).symm
theorem same_f {k : Nat} {x : List Int} {t : Bool} (h : laws_xSame.f k x x = some t) : t = true := by
 unfold laws_xSame.f at h
 rw [if_pos rfl] at h
 exact same_l0 _ _ _ _ _ h
theorem place_l0 : ∀ (k : Nat) (s : List Int) (rows : List (List Int)) (i t : Int) (j : Nat), laws_xPlace.l0 k s rows (rows.length : Int) i = some t → 0 ≤ i → i ≤ j → j < rows.length → rows.getD j [] = s → rows.length ≤ 1000000 → 0 ≤ t
 | 0, s, rows, i, t, j, h, _, _, _, _, _ => by simp [laws_xPlace.l0] at h
 | k + 1, s, rows, i, t, j, h, h0, hij, hj, hs, hl => by
  simp only [laws_xPlace.l0] at h
  rw [if_pos (by omega), if_pos h0, if_pos (by omega)] at h
  obtain ⟨b, hb, h⟩ := Option.bind_eq_some_iff.1 h
  by_cases e : b = true
  ·rw [if_pos e] at h
   have := Option.some.inj h
   omega
  ·rw [if_neg e, wrap_id (by omega) (by omega)] at h
   refine place_l0 k s rows (i + 1) t j h (by omega) ?_ hj hs hl
   rcases Decidable.em (i = j) with q | q
   ·subst q
    refine absurd ?_ e
    unfold rd_L4 at hb
    rw [Int.toNat_natCast, hs] at hb
    exact same_f hb
   ·omega
theorem place_f {k : Nat} {s : List Int} {rows : List (List Int)} {t : Int} (h : laws_xPlace.f k rows s = some t) (hl : rows.length ≤ 1000000) (hs : s ∈ rows) : ¬ t < 0 := by
 obtain ⟨j, hj, he⟩ := List.mem_iff_getElem.1 hs
 unfold laws_xPlace.f at h
 have := place_l0 k s rows 0 t j h (by omega) (by omega) hj (by rw [List.getD_eq_getElem?_getD, List.getElem?_eq_getElem hj, he]; rfl) hl
 omega
theorem heap_known {m : Int} {rows : List (List Int)} (h : impl_HeapCells.f m = some (rows, true)) : (0 ≤ m ∧ m ≤ 250) ∧ rows = hrows m (heapU m) (heapCs m) := by
 unfold impl_HeapCells.f at h
 simp only [Option.some.injEq, Prod.mk.injEq] at h
 obtain ⟨rfl, ho⟩ := h
 exact ⟨of_decide_eq_true ho, G8.heapRows1 ho⟩
theorem heap_row {m : Int} {rows : List (List Int)} (h : impl_HeapCells.f m = some (rows, true)) {i : Int} (h0 : 0 ≤ i) (h1 : i < (rows.length : Int)) :
  ∃ a b, (a, b) ∈ heapCs m ∧ rd_L4 rows i = [a, b, hp m (heapU m) a b] := by
 obtain ⟨hm, rfl⟩ := heap_known h
 rw [G8.hrows_len] at h1
 have hi : i.toNat < (heapCs m).length := by omega
 refine ⟨(heapCs m)[i.toNat].1, (heapCs m)[i.toNat].2, List.getElem_mem hi, ?_⟩
 unfold rd_L4
 rw [List.getD_eq_getElem?_getD, G8.hrows_at (List.getElem?_eq_getElem hi)]
 rfl
theorem row_mem {m : Int} {rows : List (List Int)} (h : impl_HeapCells.f m = some (rows, true)) {a b : Int} (hc : (a, b) ∈ heapCs m) : [a, b, hp m (heapU m) a b] ∈ rows := by
 obtain ⟨hm, rfl⟩ := heap_known h
 unfold hrows
 exact List.mem_map.2 ⟨(a, b), hc, rfl⟩
theorem rows_few {m : Int} {rows : List (List Int)} (h : impl_HeapCells.f m = some (rows, true)) : rows.length ≤ 14641 := by
 unfold impl_HeapCells.f at h
 simp only [Option.some.injEq, Prod.mk.injEq] at h
 rw [← h.1]
 exact G8.heapRows_len m
section
variable {m : Int} {rows : List (List Int)} (h : impl_HeapCells.f m = some (rows, true)) {i : Int} (h0 : 0 ≤ i) (h1 : i < (rows.length : Int))
include h h0 h1
theorem h_len : ((rd_L4 rows i).length : Int) = 3 := by obtain ⟨a, b, _, e⟩ := heap_row h h0 h1; rw [e]; rfl
theorem h_low : ¬ rd (rd_L4 rows i) 2 < 0 := by
 obtain ⟨a, b, _, e⟩ := heap_row h h0 h1
 rw [e]
 have := (G8.heapU_ok (heap_known h).1).2 a b
 show ¬ hp m (heapU m) a b < 0
 omega
theorem h_high : ¬ rd (rd_L4 rows i) 2 > 3 := by
 obtain ⟨a, b, _, e⟩ := heap_row h h0 h1
 rw [e]
 have := (G8.heapU_ok (heap_known h).1).2 a b
 show ¬ hp m (heapU m) a b > 3
 omega
theorem h_turn {k : Nat} {t : Int} {y : List Int} (hy : y = [wrap64 (-(rd (rd_L4 rows i) 1)), rd (rd_L4 rows i) 0, rd (rd_L4 rows i) 2]) (hx : laws_xPlace.f k rows y = some t) : ¬ t < 0 := by
 obtain ⟨a, b, hc, e⟩ := heap_row h h0 h1
 have hm := (heap_known h).1
 refine place_f hx (by have := rows_few h; omega) ?_
 rw [hy, e]
 have hb := G8.cs_near hm _ hc
 show [wrap64 (-b), a, hp m (heapU m) a b] ∈ rows
 rw [wrap_id (by omega) (by omega), ← (G8.hp_alike hm a b).1]
 exact row_mem h (G8.cells_alike hm hc).1
theorem h_swap {k : Nat} {t : Int} {y : List Int} (hy : y = [rd (rd_L4 rows i) 1, rd (rd_L4 rows i) 0, rd (rd_L4 rows i) 2]) (hx : laws_xPlace.f k rows y = some t) : ¬ t < 0 := by
 obtain ⟨a, b, hc, e⟩ := heap_row h h0 h1
 have hm := (heap_known h).1
 refine place_f hx (by have := rows_few h; omega) ?_
 rw [hy, e]
 show [b, a, hp m (heapU m) a b] ∈ rows
 rw [← (G8.hp_alike hm a b).2]
 exact row_mem h (G8.cells_alike hm hc).2
end
end Go.Proofs.Ytjedhjeijpbobaa.H8
namespace Go.Proofs.Ytjedhjeijpbobaa.Fc
open Go Go.RowKit YtjedhjeijpbobaaW.PrintWords
def nth : List Value → Nat → Value
 | [], _ => .bool false
 | x :: _, 0 => x
 | _ :: l, n + 1 => nth l n
def blend : List (Option Nat) → (Nat → Value) → List Value → List Value
 | [], _, l => l
 | _ :: _, _, [] => []
 | some k :: m, u, _ :: l => u k :: blend m u l
 | none :: m, u, x :: l => x :: blend m u l
def held : List (Option Nat) → List Value → List (Option Value)
 | [], l => l.map some
 | _ :: _, [] => []
 | some _ :: m, _ :: l => none :: held m l
 | none :: m, x :: l => some x :: held m l
def sound : List (Option Nat) → Nat → Bool
 | [], _ => true
 | none :: m, i => sound m (i + 1)
 | some k :: m, i => k == i && sound m (i + 1)
theorem blend_nth : ∀ (m : List (Option Nat)) (i : Nat) (u : Nat → Value) (l l' : List Value), sound m i = true → (∀ j, u (i + j) = nth l' j) → held m l = held m l' → blend m u l = l'
 | [], i, u, l, l', _, _, h => by
  simp only [held] at h
  simp only [blend]
  exact List.map_inj_right (fun a b e => Option.some.inj e) |>.mp h
 | x :: m, i, u, [], [], _, _, _ => by cases x <;> rfl
 | x :: m, i, u, [], y :: l', _, _, h => by cases x <;> simp [held] at h
 | x :: m, i, u, y :: l, [], _, _, h => by cases x <;> simp [held] at h
 | none :: m, i, u, x :: l, y :: l', hs, hu, h => by
  simp only [held, List.cons.injEq, Option.some.injEq] at h
  simp only [sound] at hs
  simp only [blend]
  rw [h.1, blend_nth m (i + 1) u l l' hs (fun j => by have := hu (j + 1); simp only [nth] at this; rw [← this]; congr 1; omega) h.2]
 | some k :: m, i, u, x :: l, y :: l', hs, hu, h => by
  simp only [held, List.cons.injEq, true_and] at h
  simp only [sound, Bool.and_eq_true, beq_iff_eq] at hs
  simp only [blend]
  have h0 := hu 0
  simp only [Nat.add_zero, nth] at h0
  rw [hs.1, h0, blend_nth m (i + 1) u l l' hs.2 (fun j => by have := hu (j + 1); simp only [nth] at this; rw [← this]; congr 1; omega) h]
theorem cut (m : List (Option Nat)) (hs : sound m 0 = true) (R : (Nat → Value) → World → Prop) {P : Program} {s : Code} {K : Act → World → Prop} {Q' : Exit → Act → World → Prop} {L : List Value} {D : List Deferred} {w : World}
  (rest : ∀ (u : Nat → Value) w', R u w' → K ⟨(blend m u L).toArray, D⟩ w')
  (first : ∀ (J K' : Act → World → Prop), Aside0 (∀ L' w', held m L = held m L' → R (nth L') w' → J ⟨L'.toArray, D⟩ w') → (∀ a' w', Met J a' w' → K' a' w') → s.wp P (Exit.then K' Q') ⟨L.toArray, D⟩ w) :
  s.wp P (Exit.then K Q') ⟨L.toArray, D⟩ w := by
 refine wp_cut (fun a' w' => ∃ u, R u w' ∧ a' = ⟨(blend m u L).toArray, D⟩) ?_ ?_
 ·rintro a' w' ⟨u, h, rfl⟩
  exact rest u w' h
 ·intro J K' hJ hK
  exact first J K' ⟨fun L' w' he h => hJ _ _ ⟨nth L', h, by rw [blend_nth m 0 (nth L') L L' hs (fun j => by rw [Nat.zero_add]) he]⟩⟩ hK
theorem meet {J : Act → World → Prop} {m : List (Option Nat)} {R : List Value → World → Prop} {L L' : List Value} {D : List Deferred} {w' : World}
  (h : Aside0 (∀ L' w', held m L = held m L' → R L' w' → J ⟨L'.toArray, D⟩ w')) (same : held m L = held m L') (rel : R L' w') : Met J ⟨L'.toArray, D⟩ w' :=
 Met.intro (h.out L' w' same rel)
theorem loop (m : List (Option Nat)) (hs : sound m 0 = true) (R : Nat → (Nat → Value) → World → Prop) (n₀ : Nat) {P : Program} {Q : Exit → Act → World → Prop} {L : List Value} {D : List Deferred} {w : World} {c : Code}
  (atStart : R n₀ (nth L) w)
  (round : ∀ n u w, R n u w → ∀ (J : Nat → Act → World → Prop) (K : Act → World → Prop), Aside0 (∀ k L' w', held m L = held m L' → R k (nth L') w' → J k ⟨L'.toArray, D⟩ w') → (∀ a' w', Handed J n a' w' → K a' w') → c.wp P (Exit.then K Q) ⟨(blend m u L).toArray, D⟩ w) :
  (Code.loop c).wp P Q ⟨L.toArray, D⟩ w := by
 refine wp_loop_ghost_k (fun n a w => ∃ u, R n u w ∧ a = ⟨(blend m u L).toArray, D⟩) n₀ ⟨nth L, atStart, ?_⟩ ?_
 ·rw [blend_nth m 0 (nth L) L L hs (fun j => by rw [Nat.zero_add]) rfl]
 ·rintro n a w ⟨u, h, rfl⟩ J K hJ hK
  exact round n u w h J K ⟨fun k L' w' he h' => hJ _ _ _ ⟨nth L', h', by rw [blend_nth m 0 (nth L') L L' hs (fun j => by rw [Nat.zero_add]) he]⟩⟩ hK
theorem hand (k : Nat) {n : Nat} {J : Nat → Act → World → Prop} {m : List (Option Nat)} {R : Nat → List Value → World → Prop} {L L' : List Value} {D : List Deferred} {w' : World}
  (h : Aside0 (∀ k L' w', held m L = held m L' → R k L' w' → J k ⟨L'.toArray, D⟩ w')) (same : held m L = held m L') (measure : k < n) (rel : R k L' w') : Handed J n ⟨L'.toArray, D⟩ w' :=
 Handed.intro k measure (h.out k L' w' same rel)
end Go.Proofs.Ytjedhjeijpbobaa.Fc
namespace Go.Proofs.Ytjedhjeijpbobaa.GM
open Go.RowKit YtjedhjeijpbobaaW.PrintWords YtjedhjeijpbobaaW.PrintLast YtjedhjeijpbobaaW.PrintMore
open GA GJ GK GL G8 H8
attribute [local go_sem] max2_int min2_int max_two min_two max_three min_three max_four min_four
def errW : Option Int → Value
 | none => .nilIface
 | some c => .iface 0 (.int .i64 c)
theorem errW_none : errW none = .nilIface := rfl
theorem errW_some (c : Int) : errW (some c) = .iface 0 (.int .i64 c) := rfl
def rd_L4 (xs : List (List Int)) (i : Int) : (List Int) := xs.getD i.toNat ([] : List Int)
theorem at_L4 {w : World} {A : Option Addr} {n : Nat} {xs : List (List Int)} (h : Kd.C (Kd.slice 3 (Kd.int .i64)) w A n xs) (i : Int) (h0 : 0 ≤ i) (h1 : i < n) : ∃ ad A0 c0, A = some ad ∧ w.cell? (ad.add i.toNat) = some (.slice A0 (rd_L4 xs i).length c0) ∧ (rd_L4 xs i).length ≤ c0 ∧ (Kd.int .i64).C w A0 (rd_L4 xs i).length (rd_L4 xs i) := by
 obtain ⟨ad, c, e, _, hK, hc0⟩ := Kd.C_get h ([] : List Int) i h0 h1
 have hc : ∀ j u, c[j]? = some u → w.cell? (ad.add (i.toNat * 1 + j)) = some u := hc0
 obtain ⟨A0, c0, rfl, l0, g0⟩ := hK
 exact ⟨ad, A0, c0, e, by have hq := hc 0 _ rfl; rwa [Nat.mul_one, Nat.add_zero] at hq, l0, g0⟩
end Go.Proofs.Ytjedhjeijpbobaa.GM
namespace Go.Proofs.Ytjedhjeijpbobaa.GM
open Go.Proofs.Ytjedhjeijpbobaa
open Go.RowKit YtjedhjeijpbobaaW.PrintWords YtjedhjeijpbobaaW.PrintLast YtjedhjeijpbobaaW.PrintMore
open GA GJ GK GL G8 H8
attribute [local go_sem] max2_int min2_int max_two min_two max_three min_three max_four min_four
mutual
def laws_FnLinesAndHeaps.j0 : Nat → List Int → Int → Int → List Int → Bool → Int → Bool → Option (Bool)
 | 0, _, _, _, _, _, _, _ => none
 | k + 1, x1, x5, x6, x7, x8, x11, x93 => if x93 = true then (some false) else (if x8 = true then (if (x7.length : Int) = 2 then (if 1 < (x7.length : Int) then (if 0 < (x7.length : Int) then (if (wrap64 ((rd x7 1) - (rd x7 0))) = (wrap64 (x5 - 1)) then (if (rd x7 0) > 0 then (laws_FnLinesAndHeaps.j1 k x1 x5 x6 x7 x11 true) else (laws_FnLinesAndHeaps.j1 k x1 x5 x6 x7 x11 (decide ((rd x7 1) < 0)))) else (laws_FnLinesAndHeaps.j1 k x1 x5 x6 x7 x11 true)) else (none)) else (none)) else (laws_FnLinesAndHeaps.j1 k x1 x5 x6 x7 x11 true)) else (laws_FnLinesAndHeaps.j2 k x1))
def laws_FnLinesAndHeaps.j2 : Nat → List Int → Option (Bool)
 | 0, _ => none
 | k + 1, x1 => (spec_DrawHeapCells.f x1).bind fun t227 => ((impl_HeapCells.f t227).bind fun bt228 => ((spec_HeapCells.f t227).bind fun bt232 => ((impl_HeapSquare.f t227).bind fun bt236 => ((spec_HeapSquare.f t227).bind fun bt238 => (if (bt228.2 != bt232.2) = true then (laws_FnLinesAndHeaps.j3 k t227 bt228.1 bt228.2 bt236.1 true) else ((laws_xRows.f k bt228.1 bt232.1).bind fun t240 => (if t240 = true then (if (bt236.2 != bt238.2) = true then (laws_FnLinesAndHeaps.j3 k t227 bt228.1 bt228.2 bt236.1 true) else (if bt236.1 = bt238.1 then (if bt228.2 = true then (laws_FnLinesAndHeaps.j3 k t227 bt228.1 bt228.2 bt236.1 (bt236.2 != (decide (t227 > 0)))) else (laws_FnLinesAndHeaps.j3 k t227 bt228.1 bt228.2 bt236.1 (bt236.2 != false))) else (laws_FnLinesAndHeaps.j3 k t227 bt228.1 bt228.2 bt236.1 true))) else (laws_FnLinesAndHeaps.j3 k t227 bt228.1 bt228.2 bt236.1 true))))))))
def laws_FnLinesAndHeaps.j3 : Nat → Int → List (List Int) → Bool → Int → Bool → Option (Bool)
 | 0, _, _, _, _, _ => none
 | k + 1, x20, x21, x22, x25, x231 => if x231 = true then (some false) else (if x22 = true then (laws_FnLinesAndHeaps.l0 k x20 x21 x25 0 0 x21 (x21.length : Int) 0) else (some true))
def laws_FnLinesAndHeaps.l0 : Nat → Int → List (List Int) → Int → Int → Int → List (List Int) → Int → Int → Option (Bool)
 | 0, _, _, _, _, _, _, _, _ => none
 | k + 1, x20, x21, x25, x29, x30, x233, x234, x235 => if x235 < x234 then (if 0 ≤ x235 then (if x235 < (x233.length : Int) then (if ((rd_L4 x233 x235).length : Int) = 3 then (if 2 < ((rd_L4 x233 x235).length : Int) then (if (rd (rd_L4 x233 x235) 2) < 0 then (some false) else (if (rd (rd_L4 x233 x235) 2) > 3 then (some false) else (if 0 < ((rd_L4 x233 x235).length : Int) then (if 1 < ((rd_L4 x233 x235).length : Int) then (if (wrap64 ((wrap64 ((rd (rd_L4 x233 x235) 0) * (rd (rd_L4 x233 x235) 0))) + (wrap64 ((rd (rd_L4 x233 x235) 1) * (rd (rd_L4 x233 x235) 1))))) > x30 then ((laws_xPlace.f k x21 (([wrap64 (-(rd (rd_L4 x233 x235) 1)), rd (rd_L4 x233 x235) 0, rd (rd_L4 x233 x235) 2] : List Int))).bind fun t255 => (if t255 < 0 then (some false) else ((laws_xPlace.f k x21 (([rd (rd_L4 x233 x235) 1, rd (rd_L4 x233 x235) 0, rd (rd_L4 x233 x235) 2] : List Int))).bind fun t262 => (if t262 < 0 then (some false) else (laws_FnLinesAndHeaps.l0 k x20 x21 x25 (wrap64 (x29 + (rd (rd_L4 x233 x235) 2))) (wrap64 ((wrap64 ((rd (rd_L4 x233 x235) 0) * (rd (rd_L4 x233 x235) 0))) + (wrap64 ((rd (rd_L4 x233 x235) 1) * (rd (rd_L4 x233 x235) 1))))) x233 x234 (wrap64 (x235 + 1))))))) else ((laws_xPlace.f k x21 (([wrap64 (-(rd (rd_L4 x233 x235) 1)), rd (rd_L4 x233 x235) 0, rd (rd_L4 x233 x235) 2] : List Int))).bind fun t269 => (if t269 < 0 then (some false) else ((laws_xPlace.f k x21 (([rd (rd_L4 x233 x235) 1, rd (rd_L4 x233 x235) 0, rd (rd_L4 x233 x235) 2] : List Int))).bind fun t276 => (if t276 < 0 then (some false) else (laws_FnLinesAndHeaps.l0 k x20 x21 x25 (wrap64 (x29 + (rd (rd_L4 x233 x235) 2))) x30 x233 x234 (wrap64 (x235 + 1)))))))) else (none)) else (none)))) else (none)) else (some false)) else (none)) else (none)) else (if x29 = x20 then (if x20 = 0 then (some true) else (some (x30 == x25))) else (some false))
def laws_FnLinesAndHeaps.j1 : Nat → List Int → Int → Int → List Int → Int → Bool → Option (Bool)
 | 0, _, _, _, _, _, _ => none
 | k + 1, x1, x5, x6, x7, x11, x121 => if x121 = true then (some false) else ((impl_LineEnds.f x5 (wrap64 (1 - x6))).bind fun bt215 => ((impl_LineSteps.f x5 (wrap64 (1 - x6))).bind fun bt219 => (if 0 < (x7.length : Int) then (if 1 < (x7.length : Int) then (if bt215.2 = true then (if 0 < (bt215.1.length : Int) then (if (rd bt215.1 0) = (wrap64 (-(rd x7 1))) then (if 1 < (bt215.1.length : Int) then (if (rd bt215.1 1) = (wrap64 (-(rd x7 0))) then (if bt219.2 = true then (if bt219.1 = x11 then (if (wrap64 ((rd x7 0) + (rd x7 1))) > 1 then (some false) else (if (wrap64 ((rd x7 0) + (rd x7 1))) < (-1) then (some false) else (laws_FnLinesAndHeaps.j2 k x1))) else (some false)) else (some false)) else (some false)) else (none)) else (some false)) else (none)) else (some false)) else (none)) else (none))))
end
def laws_FnLinesAndHeaps.f (k : Nat) (l0 : List Int) (l1 : List Int) : Option (Bool) := (laws_big.f l0 l1).bind fun t195 => (if t195 = true then (some true) else ((spec_DrawLineEnds.f l0).bind fun bt196 => ((impl_LineEnds.f bt196.1 bt196.2).bind fun bt198 => ((spec_LineEnds.f k bt196.1 bt196.2).bind fun bt202 => ((impl_LineSteps.f bt196.1 bt196.2).bind fun bt206 => ((spec_LineSteps.f k bt196.1 bt196.2).bind fun bt208 => (if (bt198.2 != bt202.2) = true then (laws_FnLinesAndHeaps.j0 k l1 bt196.1 bt196.2 bt198.1 bt198.2 bt206.1 true) else ((laws_xSame.f k bt198.1 bt202.1).bind fun t210 => (if t210 = true then (if (bt206.2 != bt208.2) = true then (laws_FnLinesAndHeaps.j0 k l1 bt196.1 bt196.2 bt198.1 bt198.2 bt206.1 true) else (if bt206.1 = bt208.1 then (if bt206.2 = true then (laws_FnLinesAndHeaps.j0 k l1 bt196.1 bt196.2 bt198.1 bt198.2 bt206.1 (bt198.2 != (decide (bt196.1 > 0)))) else (laws_FnLinesAndHeaps.j0 k l1 bt196.1 bt196.2 bt198.1 bt198.2 bt206.1 (bt198.2 != false))) else (laws_FnLinesAndHeaps.j0 k l1 bt196.1 bt196.2 bt198.1 bt198.2 bt206.1 true))) else (laws_FnLinesAndHeaps.j0 k l1 bt196.1 bt196.2 bt198.1 bt198.2 bt206.1 true))))))))))
def laws_FnLinesAndHeaps.T11 : Bool × List (List Nat × List Nat) := (true, [([], []), ([0], [0]), ([1], [1]), ([2], [2]), ([3], [3]), ([4, 3], [3, 4]), ([5, 3], [3, 5]), ([3], [3]), ([7, 3], [3, 7]), ([8, 3], [3, 8]), ([6, 9, 3], [3, 6, 9]), ([3], [3]), ([11, 3], [3, 11]), ([10, 12, 3], [3, 10, 12]), ([3, 13], [3, 13]), ([14, 3], [14]), ([15], [15]), ([16, 15], [15, 16]), ([17, 15], [15, 17]), ([18, 15], [15, 18]), ([15, 19], [15, 19]), ([20, 15], [20]), ([21], [21]), ([22, 21], [21, 22]), ([23, 21], [21, 23]), ([24, 21], [21, 24]), ([21, 25], [21, 25])])
def laws_FnLinesAndHeaps.B11 : List Nat := [0, 1, 3, 7, 15, 31, 63, 15, 143, 399, 1023, 15, 2063, 8191, 16383, 32767, 65535, 131071, 262143, 524287, 1048575, 2097151, 4194303, 8388607, 16777215, 33554431, 67108863]
theorem laws_FnLinesAndHeaps.tab11 : rtab .any (opsOf Try.f17 11) = laws_FnLinesAndHeaps.T11 := by kernel_rfl
theorem laws_FnLinesAndHeaps.bits11 : waitsOk laws_FnLinesAndHeaps.T11.2 laws_FnLinesAndHeaps.B11 = true := by kernel_rfl
def laws_FnLinesAndHeaps.T15 : Bool × List (List Nat × List Nat) := (true, [([], []), ([0], [0]), ([1], [1]), ([], []), ([3], [3]), ([4], [4]), ([2, 5], [2, 5]), ([6, 0, 1, 2, 3, 4, 5, 6], [6])])
def laws_FnLinesAndHeaps.B15 : List Nat := [0, 1, 3, 0, 8, 24, 63, 127]
theorem laws_FnLinesAndHeaps.tab15 : rtab .any (opsOf Try.f17 15) = laws_FnLinesAndHeaps.T15 := by kernel_rfl
theorem laws_FnLinesAndHeaps.bits15 : waitsOk laws_FnLinesAndHeaps.T15.2 laws_FnLinesAndHeaps.B15 = true := by kernel_rfl
def laws_FnLinesAndHeaps.T16 : Bool × List (List Nat × List Nat) := (true, [([], []), ([0], [0]), ([1], [1]), ([2], [2]), ([3, 2], [2, 3]), ([4, 2], [2, 4]), ([2], [2]), ([6, 2], [2, 6]), ([7, 2], [2, 7]), ([8, 2], [2, 8]), ([5, 9, 2], [2, 5, 9]), ([2, 10], [2, 10]), ([11, 2], [11]), ([12], [12]), ([13, 12], [12, 13]), ([14, 12], [12, 14]), ([12], [12]), ([16, 12], [12, 16]), ([17, 12], [12, 17]), ([18, 12], [12, 18]), ([15, 19, 12], [12, 15, 19]), ([12, 20], [12, 20]), ([21, 12], [21]), ([22], [22]), ([23, 22], [22, 23]), ([22, 24], [22, 24]), ([25, 22], [25]), ([26], [26]), ([26], [26]), ([27, 28, 26], [26, 27, 28]), ([26, 29], [26, 29]), ([30, 26], [30]), ([31], [31]), ([32, 31], [31, 32]), ([31, 33], [31, 33]), ([34, 31], [34]), ([35], [35]), ([36, 35], [35, 36]), ([35, 37], [35, 37])])
def laws_FnLinesAndHeaps.B16 : List Nat := [0, 1, 3, 7, 15, 31, 7, 71, 199, 455, 1023, 2047, 4095, 8191, 16383, 32767, 8191, 73727, 204799, 466943, 1048575, 2097151, 4194303, 8388607, 16777215, 33554431, 67108863, 134217727, 134217727, 536870911, 1073741823, 2147483647, 4294967295, 8589934591, 17179869183, 34359738367, 68719476735, 137438953471, 274877906943]
theorem laws_FnLinesAndHeaps.tab16 : rtab .any (opsOf Try.f17 16) = laws_FnLinesAndHeaps.T16 := by kernel_rfl
theorem laws_FnLinesAndHeaps.bits16 : waitsOk laws_FnLinesAndHeaps.T16.2 laws_FnLinesAndHeaps.B16 = true := by kernel_rfl
def laws_FnLinesAndHeaps.T33 : Bool × List (List Nat × List Nat) := (true, [([], []), ([0], [0]), ([1], [1]), ([], []), ([3], [3]), ([4], [4]), ([2, 5], [2, 5]), ([], []), ([7], [7]), ([8], [8]), ([], []), ([10], [10]), ([11], [11]), ([9, 12], [9, 12]), ([6, 13], [6, 13]), ([14, 0, 1, 2, 3, 4, 5, 6, 7, 8, 9, 10, 11, 12, 13, 14], [14])])
def laws_FnLinesAndHeaps.B33 : List Nat := [0, 1, 3, 0, 8, 24, 63, 0, 128, 384, 0, 1024, 3072, 8064, 16383, 32767]
theorem laws_FnLinesAndHeaps.tab33 : rtab .any (opsOf Try.f17 33) = laws_FnLinesAndHeaps.T33 := by kernel_rfl
theorem laws_FnLinesAndHeaps.bits33 : waitsOk laws_FnLinesAndHeaps.T33.2 laws_FnLinesAndHeaps.B33 = true := by kernel_rfl
def laws_FnLinesAndHeaps.T36 : Bool × List (List Nat × List Nat) := (true, [([], []), ([], []), ([1], [1]), ([2], [2]), ([3], [3]), ([], []), ([5], [5]), ([6], [6]), ([], []), ([8], [8]), ([9], [9]), ([4, 7, 10], [4, 7, 10]), ([0, 11], [0, 11]), ([12], [12]), ([13, 12], [13]), ([14], [14]), ([14], [14]), ([16, 14], [14, 16]), ([17, 14], [14, 17]), ([14], [14]), ([19, 14], [14, 19]), ([20, 14], [14, 20]), ([14], [14]), ([22, 14], [14, 22]), ([23, 14], [14, 23]), ([18, 21, 24, 14], [14, 18, 21, 24]), ([15, 25, 14, 14], [14, 15, 25]), ([26, 14], [14, 26]), ([14, 27], [14, 27])])
def laws_FnLinesAndHeaps.B36 : List Nat := [0, 0, 2, 6, 14, 0, 32, 96, 0, 256, 768, 2046, 4095, 8191, 16383, 32767, 32767, 98303, 229375, 32767, 557055, 1605631, 32767, 4227071, 12615679, 33521663, 67108863, 134217727, 268435455]
theorem laws_FnLinesAndHeaps.tab36 : rtab .any (opsOf Try.f17 36) = laws_FnLinesAndHeaps.T36 := by kernel_rfl
theorem laws_FnLinesAndHeaps.bits36 : waitsOk laws_FnLinesAndHeaps.T36.2 laws_FnLinesAndHeaps.B36 = true := by kernel_rfl
end Go.Proofs.Ytjedhjeijpbobaa.GM
