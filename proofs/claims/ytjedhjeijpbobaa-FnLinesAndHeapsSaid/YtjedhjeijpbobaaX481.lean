/-
  Texts of the seat, merged (part 1).
-/
import Derived.Test.YtjedhjeijpbobaaProg
import Derived.Below
import Derived.Deep.Draws
import Derived.Deep.AppendLies
import Derived.Maps.AppendAt
import Derived.OwnWalk
import Derived.Laws.BytesArg
import Derived.Laws.MakeOwn
import Derived.Laws.OwnMore
import Derived.Deep.OwnRows
import Derived.Tactics
import Derived.Lib.ConvBytes
import Derived.Laws.Slices
import Derived.WalkKit
import Derived.KernelRfl
import Derived.RowKit3
import Derived.Deep.LoopGhost
import Derived.Deep.QuietTactic
import Derived.BigQuiet
import Derived.WideLaws
import Derived.Deep.DeepCutAuto
import Derived.Deep.CutBlock
import Derived.Deep.RegionHeld3
import Derived.Laws.Rows
import Derived.Lib.AppendStr
import Derived.ArgAppend
import Derived.Laws.IdiomCopy
import Derived.OrdersHeld
import Derived.Laws.BitsLemmas
import Derived.RowKit
import Derived.Test.YtjedhjeijpbobaaX48WWords
import Derived.Test.YtjedhjeijpbobaaX48WLast
import Derived.Test.YtjedhjeijpbobaaX48WTab
import Derived.Test.YtjedhjeijpbobaaX48WFour
import Derived.Test.YtjedhjeijpbobaaX48WQPut
import Derived.Test.YtjedhjeijpbobaaX48WApart
import Derived.Test.YtjedhjeijpbobaaX48WArr
import Derived.Test.YtjedhjeijpbobaaX48WZeros
import Derived.Test.YtjedhjeijpbobaaX48WFoot
import Derived.Test.YtjedhjeijpbobaaX48WKept
import Derived.Test.YtjedhjeijpbobaaX48WShare
import Derived.Test.YtjedhjeijpbobaaX48WN
import Derived.Test.YtjedhjeijpbobaaX48WFootNe
import Derived.Test.YtjedhjeijpbobaaX48WAt
import Derived.Test.YtjedhjeijpbobaaX48WEqStruct
import Derived.Test.YtjedhjeijpbobaaX48WRepsOne
import Derived.Test.YtjedhjeijpbobaaX48WInv
import Derived.Test.YtjedhjeijpbobaaX48WInvWords
import Derived.Test.YtjedhjeijpbobaaX48WGuard
import Derived.Test.YtjedhjeijpbobaaX48WNEv
import Derived.Test.YtjedhjeijpbobaaX48WMore
import Derived.DeepKeys4
import Derived.Maps.OwnSet
import Derived.Deep.RegionWith
import Derived.Shelf.SlGeneric
import Derived.Shelf.Small.Bits
import Derived.Shelf.Small.Wraps
import Derived.Ground.Names2Prog
import Derived.Ground.NamesProg
import Derived.Ground.SlsfProg
import Derived.Shelf.Slices.SearchI
import Derived.Shelf.SlSortCmp.NoneTotal
set_option linter.unusedVariables false
set_option linter.unusedSimpArgs false
namespace Go.Proofs.Ytjedhjeijpbobaa.GA
end Go.Proofs.Ytjedhjeijpbobaa.GA
namespace Go.Proofs.Ytjedhjeijpbobaa.G8
end Go.Proofs.Ytjedhjeijpbobaa.G8
namespace Go.Proofs
end Go.Proofs
namespace Go.Proofs.Ytjedhjeijpbobaa.GJ
end Go.Proofs.Ytjedhjeijpbobaa.GJ
namespace Go.Proofs.Ytjedhjeijpbobaa.GK
end Go.Proofs.Ytjedhjeijpbobaa.GK
namespace Go.Proofs.Ytjedhjeijpbobaa.GL
end Go.Proofs.Ytjedhjeijpbobaa.GL
namespace Go.Proofs.Ytjedhjeijpbobaa.H8
end Go.Proofs.Ytjedhjeijpbobaa.H8
namespace Go.Proofs.Ytjedhjeijpbobaa.Fc
end Go.Proofs.Ytjedhjeijpbobaa.Fc
namespace Go.Proofs.Ytjedhjeijpbobaa.GM
end Go.Proofs.Ytjedhjeijpbobaa.GM
namespace Go.Proofs.Ytjedhjeijpbobaa.Pure
end Go.Proofs.Ytjedhjeijpbobaa.Pure
namespace Go.Proofs.Ytjedhjeijpbobaa.fnLinesAndHeaps
end Go.Proofs.Ytjedhjeijpbobaa.fnLinesAndHeaps
namespace Go.Proofs.Ytjedhjeijpbobaa
end Go.Proofs.Ytjedhjeijpbobaa
namespace Go.Proofs.Ytjedhjeijpbobaa.GA
open Go.RowKit YtjedhjeijpbobaaW.PrintWords YtjedhjeijpbobaaW.PrintLast YtjedhjeijpbobaaW.PrintMore
attribute [local go_sem] max2_int min2_int max_two min_two max_three min_three max_four min_four
def errW : Option Int → Value
 | none => .nilIface
 | some c => .iface 0 (.int .i64 c)
theorem errW_none : errW none = .nilIface := rfl
theorem errW_some (c : Int) : errW (some c) = .iface 0 (.int .i64 c) := rfl
theorem info3 : (Try.prog.info? 3).map (fun i => (i.zero, i.size, i.bytes)) = some (some (.int .i64 0), 1, 8) := by kernel_rfl
structure S76 where
 f0 : Int
 f1 : Int
def z76 : S76 := ⟨(0 : Int), (0 : Int)⟩
def k76 : Kd S76 := Kd.iso (Kd.pair (Kd.int .i64) (Kd.int .i64)) (fun x : S76 => (x.f0, x.f1))
theorem k76_open {w : World} {x : S76} {cs : List Value} (h : k76.K w x cs) : cs = [.int .i64 x.f0, .int .i64 x.f1] := by
 obtain ⟨_, _, rfl, rfl, rfl⟩ := h
 exact rfl
theorem k76_mk (w : World) (x : S76)  : k76.K w x [.int .i64 x.f0, .int .i64 x.f1] := ⟨[.int .i64 x.f0], [.int .i64 x.f1], rfl, rfl, rfl⟩
def rd_T76 (xs : List S76) (i : Int) : S76 := xs.getD i.toNat z76
theorem at_T76 {w : World} {A : Option Addr} {n : Nat} {xs : List S76} (h : Kd.C k76 w A n xs) (i : Int) (h0 : 0 ≤ i) (h1 : i < n) : ∃ ad , A = some ad ∧ w.cell? (ad.add (i.toNat * 2)) = some (.int .i64 (rd_T76 xs i).f0) ∧ w.cell? ⟨(ad.add (i.toNat * 2)).block, (ad.add (i.toNat * 2)).off + 1, none⟩ = some (.int .i64 (rd_T76 xs i).f1) := by
 obtain ⟨ad, c, e, _, hK, hc0⟩ := Kd.C_get h z76 i h0 h1
 have hc : ∀ j u, c[j]? = some u → w.cell? (ad.add (i.toNat * 2 + j)) = some u := hc0
 obtain rfl := k76_open hK
 exact ⟨ad, e, hc 0 _ rfl, by rw [← add_field _ _ 1 (by omega)]; exact hc 1 _ rfl⟩
end Go.Proofs.Ytjedhjeijpbobaa.GA
namespace Go.Proofs.Ytjedhjeijpbobaa.GA
open Go.RowKit YtjedhjeijpbobaaW.PrintWords YtjedhjeijpbobaaW.PrintLast YtjedhjeijpbobaaW.PrintMore
attribute [local go_sem] max2_int min2_int max_two min_two max_three min_three max_four min_four
def spec_l1In.f (a0 : Int) (a1 : Int) (a2 : Int) : Option (Bool) := if a0 ≥ a1 then (some (decide (a0 ≤ a2))) else (some false)
set_option maxHeartbeats 8000000 in
set_option maxRecDepth 100000 in
theorem spec_l1In.calls (a0 : Int) (a1 : Int) (a2 : Int) (r : Bool) (w : World) (h : spec_l1In.f a0 a1 a2 = some r) :
  Calls Try.prog 72 #[.int .i64 a0, .int .i64 a1, .int .i64 a2] w fun e w' => e = .returned (.bool r) ∧ Drawn0 w w' := by
 have H : (if a0 ≥ a1 then (some (decide (a0 ≤ a2))) else (some false)) = some r := h
 clear h
 by_cases c4 : a0 ≥ a1
 ·rw [if_pos c4] at H
  have c4b0 : decide (a1 ≤ a0) = true := decide_eq_true c4
  clear c4
  obtain rfl := Option.some.inj H
  go_enter Try.func72, Try.ntmps72
  go_wp2
  go_ret
  exact ⟨by first | rfl | (simp; done) | (simp [*]; done), by repeat (first | exact Drawn0.refl _ | apply Drawn0.step)⟩
 ·rw [if_neg c4] at H
  have c4b0 : decide (a1 ≤ a0) = false := decide_eq_false c4
  clear c4
  obtain rfl := Option.some.inj H
  go_enter Try.func72, Try.ntmps72
  go_wp2
  go_ret
  exact ⟨by first | rfl | (simp; done) | (simp [*]; done), by repeat (first | exact Drawn0.refl _ | apply Drawn0.step)⟩
def spec_gwAt.f (a0 : Int) (a1 : Int) : Option (Int) := some (wrap64 ((wrap64 ((wrap64 ((wrap64 (a0 + 60)) * 121)) + a1)) + 60))
set_option maxHeartbeats 8000000 in
set_option maxRecDepth 100000 in
theorem spec_gwAt.calls (a0 : Int) (a1 : Int) (r : Int) (w : World) (h : spec_gwAt.f a0 a1 = some r) :
  Calls Try.prog 73 #[.int .i64 a0, .int .i64 a1] w fun e w' => e = .returned (.int .i64 r) ∧ Drawn0 w w' := by
 have H : (some (wrap64 ((wrap64 ((wrap64 ((wrap64 (a0 + 60)) * 121)) + a1)) + 60))) = some r := h
 clear h
 obtain rfl := Option.some.inj H
 go_enter Try.func73, Try.ntmps73
 go_wp2
 go_ret
 exact ⟨by first | rfl | (simp; done) | (simp [*]; done), by repeat (first | exact Drawn0.refl _ | apply Drawn0.step)⟩
def spec_gwMove.f (a0 : Int) (a1 : Int) (a2 : Int) : Option (Int × Int) := if a2 = 0 then (some (wrap64 (a0 + 1), a1)) else (if a2 = 1 then (some (a0, wrap64 (a1 + 1))) else (if a2 = 2 then (some (wrap64 (a0 - 1), a1)) else (some (a0, wrap64 (a1 - 1)))))
set_option maxHeartbeats 8000000 in
set_option maxRecDepth 100000 in
theorem spec_gwMove.calls (a0 : Int) (a1 : Int) (a2 : Int) (r1 : Int) (r2 : Int) (w : World) (h : spec_gwMove.f a0 a1 a2 = some (r1, r2)) :
  Calls Try.prog 96 #[.int .i64 a0, .int .i64 a1, .int .i64 a2] w fun e w' => e = .returned (.tuple #[.int .i64 r1, .int .i64 r2]) ∧ Drawn0 w w' := by
 have H : (if a2 = 0 then (some (wrap64 (a0 + 1), a1)) else (if a2 = 1 then (some (a0, wrap64 (a1 + 1))) else (if a2 = 2 then (some (wrap64 (a0 - 1), a1)) else (some (a0, wrap64 (a1 - 1)))))) = some (r1, r2) := h
 clear h
 by_cases c4 : a2 = 0
 ·rw [if_pos c4] at H
  have c4b0 : (a2 == 0) = true := beq_iff_eq.mpr c4
  have c4b1 : (a2 != 0) = false := bne_eq_false_iff_eq.mpr c4
  clear c4
  simp only [Option.some.injEq, Prod.mk.injEq] at H
  obtain ⟨rfl, rfl⟩ := H
  go_enter Try.func96, Try.ntmps96
  go_wp2
  go_ret2
  exact ⟨by first | rfl | (simp; done) | (simp [*]; done), by repeat (first | exact Drawn0.refl _ | apply Drawn0.step)⟩
 ·rw [if_neg c4] at H
  have c4b0 : (a2 == 0) = false := beq_eq_false_iff_ne.mpr c4
  have c4b1 : (a2 != 0) = true := bne_iff_ne.mpr c4
  by_cases c5 : a2 = 1
  ·rw [if_pos c5] at H
   have c5b0 : (a2 == 1) = true := beq_iff_eq.mpr c5
   have c5b1 : (a2 != 1) = false := bne_eq_false_iff_eq.mpr c5
   clear c5
   simp only [Option.some.injEq, Prod.mk.injEq] at H
   obtain ⟨rfl, rfl⟩ := H
   go_enter Try.func96, Try.ntmps96
   go_wp2
   go_ret2
   exact ⟨by first | rfl | (simp; done) | (simp [*]; done), by repeat (first | exact Drawn0.refl _ | apply Drawn0.step)⟩
  ·rw [if_neg c5] at H
   have c5b0 : (a2 == 1) = false := beq_eq_false_iff_ne.mpr c5
   have c5b1 : (a2 != 1) = true := bne_iff_ne.mpr c5
   by_cases c6 : a2 = 2
   ·rw [if_pos c6] at H
    have c6b0 : (a2 == 2) = true := beq_iff_eq.mpr c6
    have c6b1 : (a2 != 2) = false := bne_eq_false_iff_eq.mpr c6
    clear c6
    simp only [Option.some.injEq, Prod.mk.injEq] at H
    obtain ⟨rfl, rfl⟩ := H
    go_enter Try.func96, Try.ntmps96
    go_wp2
    go_ret2
    exact ⟨by first | rfl | (simp; done) | (simp [*]; done), by repeat (first | exact Drawn0.refl _ | apply Drawn0.step)⟩
   ·rw [if_neg c6] at H
    have c6b0 : (a2 == 2) = false := beq_eq_false_iff_ne.mpr c6
    have c6b1 : (a2 != 2) = true := bne_iff_ne.mpr c6
    simp only [Option.some.injEq, Prod.mk.injEq] at H
    obtain ⟨rfl, rfl⟩ := H
    go_enter Try.func96, Try.ntmps96
    go_wp2
    go_ret2
    exact ⟨by first | rfl | (simp; done) | (simp [*]; done), by repeat (first | exact Drawn0.refl _ | apply Drawn0.step)⟩
def impl_in.f (a0 : Int) (a1 : Int) (a2 : Int) : Option (Bool) := if a1 ≤ a0 then (some (decide (a0 ≤ a2))) else (some false)
set_option maxHeartbeats 8000000 in
set_option maxRecDepth 100000 in
theorem impl_in.calls (a0 : Int) (a1 : Int) (a2 : Int) (r : Bool) (w : World) (h : impl_in.f a0 a1 a2 = some r) :
  Calls Try.prog 79 #[.int .i64 a0, .int .i64 a1, .int .i64 a2] w fun e w' => e = .returned (.bool r) ∧ Drawn0 w w' := by
 have H : (if a1 ≤ a0 then (some (decide (a0 ≤ a2))) else (some false)) = some r := h
 clear h
 by_cases c4 : a1 ≤ a0
 ·rw [if_pos c4] at H
  have c4b0 : decide (a1 ≤ a0) = true := decide_eq_true c4
  clear c4
  obtain rfl := Option.some.inj H
  go_enter Try.func79, Try.ntmps79
  go_wp2
  go_ret
  exact ⟨by first | rfl | (simp; done) | (simp [*]; done), by repeat (first | exact Drawn0.refl _ | apply Drawn0.step)⟩
 ·rw [if_neg c4] at H
  have c4b0 : decide (a1 ≤ a0) = false := decide_eq_false c4
  clear c4
  obtain rfl := Option.some.inj H
  go_enter Try.func79, Try.ntmps79
  go_wp2
  go_ret
  exact ⟨by first | rfl | (simp; done) | (simp [*]; done), by repeat (first | exact Drawn0.refl _ | apply Drawn0.step)⟩
def spec_gwLined.f (a0 : Int) (a1 : Int) : Option (Bool) := (spec_l1In.f a0 0 250).bind fun t128 => (if t128 = true then ((spec_l1In.f a1 0 1).bind fun t129 => (some t129)) else (some false))
set_option maxHeartbeats 8000000 in
set_option maxRecDepth 100000 in
theorem spec_gwLined.calls (a0 : Int) (a1 : Int) (r : Bool) (w : World) (h : spec_gwLined.f a0 a1 = some r) :
  Calls Try.prog 68 #[.int .i64 a0, .int .i64 a1] w fun e w' => e = .returned (.bool r) ∧ Drawn0 w w' := by
 have H : ((spec_l1In.f a0 0 250).bind fun t128 => (if t128 = true then ((spec_l1In.f a1 0 1).bind fun t129 => (some t129)) else (some false))) = some r := h
 clear h
 replace H := Option.bind_eq_some_iff.mp H
 obtain ⟨t128, A30, H⟩ := H
 replace H : (if t128 = true then ((spec_l1In.f a1 0 1).bind fun t129 => (some t129)) else (some false)) = some r := H
 have A3 := Aside0.mk A30
 clear A30
 by_cases c4 : t128 = true
 ·subst c4
  have H1 : ((spec_l1In.f a1 0 1).bind fun t129 => (some t129)) = some r := by rw [if_pos rfl] at H; exact H
  clear H
  have H := H1
  clear H1
  replace H := Option.bind_eq_some_iff.mp H
  obtain ⟨t129, A50, H⟩ := H
  replace H : (some t129) = some r := H
  have A5 := Aside0.mk A50
  clear A50
  obtain rfl := Option.some.inj H
  go_enter Try.func68, Try.ntmps68
  go_wp2_with (first | ((with_reducible refine gate_callee (f := 72) rfl ?_); refine goesL_ (some 6) rfl rfl Try.func72 (by kernel_rfl) rfl #[.int .i64 a0, .int .i64 0, .int .i64 250] rfl (by (try simp only [List.map_toArray, List.map_cons, List.map_nil]); first | done | rfl | (simp only [List.length_drop, List.length_take]; rfl)) ?_; (with_reducible refine (spec_l1In.calls a0 0 250 true _ A3.out).mono ?_); rintro e w' ⟨rfl, ⟨nd, rfl⟩⟩; refine ⟨_, rfl, ?_⟩) | (go_at_call 72; (with_reducible refine (spec_l1In.calls a1 0 1 t129 _ A5.out).mono ?_); rintro e w' ⟨rfl, ⟨nd, rfl⟩⟩))
  go_ret
  exact ⟨by first | rfl | (simp; done) | (simp [*]; done), by repeat (first | exact Drawn0.refl _ | apply Drawn0.step)⟩
 ·replace c4 := Bool.eq_false_iff.mpr c4
  subst c4
  have H1 : (some false) = some r := by rw [if_neg (show ¬ (false = true) by decide)] at H; exact H
  clear H
  have H := H1
  clear H1
  obtain rfl := Option.some.inj H
  go_enter Try.func68, Try.ntmps68
  go_wp2_with (first | ((with_reducible refine gate_callee (f := 72) rfl ?_); refine goesL_ (some 6) rfl rfl Try.func72 (by kernel_rfl) rfl #[.int .i64 a0, .int .i64 0, .int .i64 250] rfl (by (try simp only [List.map_toArray, List.map_cons, List.map_nil]); first | done | rfl | (simp only [List.length_drop, List.length_take]; rfl)) ?_; (with_reducible refine (spec_l1In.calls a0 0 250 false _ A3.out).mono ?_); rintro e w' ⟨rfl, ⟨nd, rfl⟩⟩; refine ⟨_, rfl, ?_⟩))
  go_ret
  exact ⟨by first | rfl | (simp; done) | (simp [*]; done), by repeat (first | exact Drawn0.refl _ | apply Drawn0.step)⟩
def spec_l1Most.f (a0 : Int) (a1 : Int) : Option (Int) := if a0 > a1 then (some a0) else (some a1)
set_option maxHeartbeats 8000000 in
set_option maxRecDepth 100000 in
theorem spec_l1Most.calls (a0 : Int) (a1 : Int) (r : Int) (w : World) (h : spec_l1Most.f a0 a1 = some r) :
  Calls Try.prog 75 #[.int .i64 a0, .int .i64 a1] w fun e w' => e = .returned (.int .i64 r) ∧ Drawn0 w w' := by
 have H : (if a0 > a1 then (some a0) else (some a1)) = some r := h
 clear h
 by_cases c3 : a0 > a1
 ·rw [if_pos c3] at H
  have c3b0 : decide (a1 < a0) = true := decide_eq_true c3
  clear c3
  obtain rfl := Option.some.inj H
  go_enter Try.func75, Try.ntmps75
  go_wp2
  go_ret
  exact ⟨by first | rfl | (simp; done) | (simp [*]; done), by repeat (first | exact Drawn0.refl _ | apply Drawn0.step)⟩
 ·rw [if_neg c3] at H
  have c3b0 : decide (a1 < a0) = false := decide_eq_false c3
  clear c3
  obtain rfl := Option.some.inj H
  go_enter Try.func75, Try.ntmps75
  go_wp2
  go_ret
  exact ⟨by first | rfl | (simp; done) | (simp [*]; done), by repeat (first | exact Drawn0.refl _ | apply Drawn0.step)⟩
def spec_l1Least.f (a0 : Int) (a1 : Int) : Option (Int) := if a0 < a1 then (some a0) else (some a1)
set_option maxHeartbeats 8000000 in
set_option maxRecDepth 100000 in
theorem spec_l1Least.calls (a0 : Int) (a1 : Int) (r : Int) (w : World) (h : spec_l1Least.f a0 a1 = some r) :
  Calls Try.prog 77 #[.int .i64 a0, .int .i64 a1] w fun e w' => e = .returned (.int .i64 r) ∧ Drawn0 w w' := by
 have H : (if a0 < a1 then (some a0) else (some a1)) = some r := h
 clear h
 by_cases c3 : a0 < a1
 ·rw [if_pos c3] at H
  have c3b0 : decide (a0 < a1) = true := decide_eq_true c3
  clear c3
  obtain rfl := Option.some.inj H
  go_enter Try.func77, Try.ntmps77
  go_wp2
  go_ret
  exact ⟨by first | rfl | (simp; done) | (simp [*]; done), by repeat (first | exact Drawn0.refl _ | apply Drawn0.step)⟩
 ·rw [if_neg c3] at H
  have c3b0 : decide (a0 < a1) = false := decide_eq_false c3
  clear c3
  obtain rfl := Option.some.inj H
  go_enter Try.func77, Try.ntmps77
  go_wp2
  go_ret
  exact ⟨by first | rfl | (simp; done) | (simp [*]; done), by repeat (first | exact Drawn0.refl _ | apply Drawn0.step)⟩
mutual
def spec_gwLine.l0 : Nat → Int → Int → List Int → Int → Int → Option (Int × Int × Int)
 | 0, _, _, _, _, _ => none
 | k + 1, x0, x1, x7, x15, x16 => if x16 < x15 then (if 0 ≤ x16 then (if x16 < (x7.length : Int) then (spec_gwLine.l0 k x0 x1 (x7.set (x16 : Int).toNat x1) x15 (wrap64 (x16 + 1))) else (none)) else (none)) else (spec_gwLine.l1 k x0 x7 1 0 0)
def spec_gwLine.l1 : Nat → Int → List Int → Int → Int → Int → Option (Int × Int × Int)
 | 0, _, _, _, _, _ => none
 | k + 1, x0, x7, x9, x10, x11 => if x0 > 0 then (spec_gwLine.l2 k x0 x7 x9 x10 x11 0) else (some (x9, x10, x11))
def spec_gwLine.l2 : Nat → Int → List Int → Int → Int → Int → Int → Option (Int × Int × Int)
 | 0, _, _, _, _, _, _ => none
 | k + 1, x0, x7, x9, x10, x11, x12 => (spec_l1In.f x12 x9 x10).bind fun t134 => (if t134 = true then (if 0 ≤ (wrap64 (x12 + 600)) then (if (wrap64 (x12 + 600)) < (x7.length : Int) then ((some (x7.set ((wrap64 (x12 + 600)) : Int).toNat (wrap64 (1 - (rd x7 (wrap64 (x12 + 600))))) : List Int)).bind fun y136 => (if (rd y136 (wrap64 (x12 + 600))) = 0 then (spec_gwLine.l2 k x0 y136 x9 x10 (wrap64 (x11 + 1)) (wrap64 (x12 + 1))) else (spec_gwLine.l2 k x0 y136 x9 x10 (wrap64 (x11 + 1)) (wrap64 (x12 - 1))))) else (none)) else (none)) else ((spec_l1Least.f x9 x12).bind fun t138 => ((spec_l1Most.f x10 x12).bind fun t139 => (spec_gwLine.l1 k (wrap64 (x0 - 1)) x7 t138 t139 x11))))
end
def spec_gwLine.f (k : Nat) (a0 : Int) (a1 : Int) : Option (Int × Int × Int) := if 1201 ≤ 35184372088832 then ((some (List.replicate 1201 0 : List Int)).bind fun y130 => (spec_gwLine.l0 k a0 a1 y130 (y130.length : Int) 0)) else (none)
theorem spec_gwLine.mono_l : ∀ k, (∀ y0 y1 y2 y3 y4, LeO (spec_gwLine.l0 k y0 y1 y2 y3 y4) (spec_gwLine.l0 (k + 1) y0 y1 y2 y3 y4)) ∧ (∀ y0 y1 y2 y3 y4, LeO (spec_gwLine.l1 k y0 y1 y2 y3 y4) (spec_gwLine.l1 (k + 1) y0 y1 y2 y3 y4)) ∧ (∀ y0 y1 y2 y3 y4 y5, LeO (spec_gwLine.l2 k y0 y1 y2 y3 y4 y5) (spec_gwLine.l2 (k + 1) y0 y1 y2 y3 y4 y5))
 | 0 => ⟨fun _ _ _ _ _ r h => by simp [spec_gwLine.l0] at h, fun _ _ _ _ _ r h => by simp [spec_gwLine.l1] at h, fun _ _ _ _ _ _ r h => by simp [spec_gwLine.l2] at h⟩
 | k + 1 => by
  obtain ⟨ih0, ih1, ih2⟩ := spec_gwLine.mono_l k
  refine ⟨?_, ?_, ?_⟩
  ·intro y0 y1 y2 y3 y4
   unfold spec_gwLine.l0
   repeat' first
   | (with_reducible exact ih0 _ _ _ _ _)
   | (with_reducible exact ih1 _ _ _ _ _)
   | (with_reducible exact ih2 _ _ _ _ _ _)
   | (with_reducible exact LeO.refl _)
   | (with_reducible exact LeO.none _)
   | (with_reducible refine LeO.ite ?_ ?_)
   | (with_reducible refine LeO.bind ?_ (fun _ => ?_))
   | exact ih0 _ _ _ _ _
   | exact ih1 _ _ _ _ _
   | exact ih2 _ _ _ _ _ _
   | exact LeO.none _
   | refine LeO.ite ?_ ?_
   | refine LeO.bind ?_ (fun _ => ?_)
  ·intro y0 y1 y2 y3 y4
   unfold spec_gwLine.l1
   repeat' first
   | (with_reducible exact ih0 _ _ _ _ _)
   | (with_reducible exact ih1 _ _ _ _ _)
   | (with_reducible exact ih2 _ _ _ _ _ _)
   | (with_reducible exact LeO.refl _)
   | (with_reducible exact LeO.none _)
   | (with_reducible refine LeO.ite ?_ ?_)
   | (with_reducible refine LeO.bind ?_ (fun _ => ?_))
   | exact ih0 _ _ _ _ _
   | exact ih1 _ _ _ _ _
   | exact ih2 _ _ _ _ _ _
   | exact LeO.none _
   | refine LeO.ite ?_ ?_
   | refine LeO.bind ?_ (fun _ => ?_)
  ·intro y0 y1 y2 y3 y4 y5
   unfold spec_gwLine.l2
   repeat' first
   | (with_reducible exact ih0 _ _ _ _ _)
   | (with_reducible exact ih1 _ _ _ _ _)
   | (with_reducible exact ih2 _ _ _ _ _ _)
   | (with_reducible exact LeO.refl _)
   | (with_reducible exact LeO.none _)
   | (with_reducible refine LeO.ite ?_ ?_)
   | (with_reducible refine LeO.bind ?_ (fun _ => ?_))
   | exact ih0 _ _ _ _ _
   | exact ih1 _ _ _ _ _
   | exact ih2 _ _ _ _ _ _
   | exact LeO.none _
   | refine LeO.ite ?_ ?_
   | refine LeO.bind ?_ (fun _ => ?_)
theorem spec_gwLine.mono : ∀ a0 a1 k, LeO (spec_gwLine.f k a0 a1) (spec_gwLine.f (k + 1) a0 a1) := by
 intro a0 a1 k
 obtain ⟨ih0, ih1, ih2⟩ := spec_gwLine.mono_l k
 unfold spec_gwLine.f
 repeat' first
   | (with_reducible exact ih0 _ _ _ _ _)
   | (with_reducible exact ih1 _ _ _ _ _)
   | (with_reducible exact ih2 _ _ _ _ _ _)
   | (with_reducible exact LeO.refl _)
   | (with_reducible exact LeO.none _)
   | (with_reducible refine LeO.ite ?_ ?_)
   | (with_reducible refine LeO.bind ?_ (fun _ => ?_))
   | exact ih0 _ _ _ _ _
   | exact ih1 _ _ _ _ _
   | exact ih2 _ _ _ _ _ _
   | exact LeO.none _
   | refine LeO.ite ?_ ?_
   | refine LeO.bind ?_ (fun _ => ?_)
set_option maxHeartbeats 8000000 in
set_option maxRecDepth 100000 in
theorem spec_gwLine.calls (k : Nat) (a0 : Int) (a1 : Int) (r1 : Int) (r2 : Int) (r3 : Int) (w : World) (h : spec_gwLine.f k a0 a1 = some (r1, r2, r3)) :
  Calls Try.prog 69 #[.int .i64 a0, .int .i64 a1] w fun e w' => e = .returned (.tuple #[.int .i64 r1, .int .i64 r2, .int .i64 r3]) ∧ Below w.heap.size w w' := by
 have HB := Aside0.mk (Below.refl w.heap.size w)
 have H : (if 1201 ≤ 35184372088832 then ((some (List.replicate 1201 0 : List Int)).bind fun y130 => (spec_gwLine.l0 k a0 a1 y130 (y130.length : Int) 0)) else (none)) = some (r1, r2, r3) := h
 clear h
 by_cases c3 : 1201 ≤ 35184372088832
 ·rw [if_pos c3] at H
  have c3b0 := eq_true c3
  have c3b1 : decide (1201 ≤ 35184372088832) = true := decide_eq_true c3
  clear c3
  obtain ⟨y130, hy130⟩ : ∃ y_ : List Int, y_ = (List.replicate 1201 0) := ⟨_, rfl⟩
  replace H : (spec_gwLine.l0 k a0 a1 y130 (y130.length : Int) 0) = some (r1, r2, r3) := by first | (rw [hy130]; with_reducible exact H) | (have H2_ := (Option.bind_some _ _).symm.trans H; rw [hy130]; with_reducible exact H2_) | (have H2_ := (Option.bind_some _ _).symm.trans H; with_reducible exact H2_) | with_reducible exact H | (rw [hy130]; exact H) | exact H
  have Ny130 := Aside0.mk hy130
  clear hy130
  have H' := Aside0.mk H
  clear H
  go_enter Try.func69, Try.ntmps69
  go_wp2_with (first | ((with_reducible refine gate_dst (N := 13) rfl ?_); refine Kd.R_make (Kd.int .i64) _ 3 rfl (N := 13) rfl 29 _ _ rfl 1201 rfl rfl Try.underlying29 (.int .i64 0) 8 info3 rfl (by decide) (by omega) 0 (ok := fun _ => True) (okp := fun _ => True) rfl (fun _ hk => hk) trivial (by omega) (by omega) (Below.refl _ _) (Nat.le_refl _) ?_; intro v131 w4 ho5 hb hg_ hnew_; clear hg_ hnew_; (first | rw [← Ny130.out] at ho5 | (simp only [Int.reduceToNat] at ho5; rw [← Ny130.out] at ho5)); have n0_ := Aside0.mk (Kd.R_lower ho5 (bZ_ (by repeat (first | (with_reducible first | exact HB.out | apply bA_ | apply bN_ | apply bD_) | exact HB.out)))); have n1_ := Aside0.mk (bP_ (by repeat (first | (with_reducible first | exact HB.out | apply bA_ | apply bN_ | apply bD_) | exact HB.out)) hb); clear HB; have HO132 := n0_; have HB := n1_; clear n0_ n1_; clear hb ho5; obtain ⟨Ao6, co6, eo6⟩ := Kd.R_slice HO132.out; subst eo6))
  go_loopg [16] k (fun kq v16 w' => ∃ (x7_1 : List Int) (x16_1 : Int), v16 = .int .i64 x16_1 ∧ Aside0 (spec_gwLine.l0 kq a0 a1 x7_1 (y130.length : Int) x16_1 = some (r1, r2, r3)) ∧ Aside0 (kq ≤ k) ∧ Aside0 (Kd.R (Kd.int .i64) 3 w' w.heap.size (fun _ => True) (.slice Ao6 y130.length co6) x7_1) ∧ Aside0 (Below w.heap.size w w'))
  case atStart => exact ⟨(y130), (0), (by first | rfl | (simp; done) | (simp [*]; done)), H', ⟨Nat.le_refl _⟩, ⟨by (with_reducible repeat (first | apply Kd.R_alloc | apply Kd.R_drewN | apply Kd.R_drew)); exact HO132.out⟩, ⟨by repeat (first | (with_reducible first | exact HB.out | apply bA_ | apply bN_ | apply bD_) | exact HB.out)⟩⟩
  case round =>
   clear H'
   try clear p2
   try clear c3
   try clear c3b0
   try clear c3b1
   try clear c6
   obtain ⟨x7_1, x16_1, rfl, HA, HK1, HO_7, HB⟩ := hrel
   have hl7_1 := (Kd.R_reads' HO_7.out).1
   rw [hl7_1] at HO_7
   (try simp only [hl7_1])
   cases gk with
   | zero => exact absurd HA.out (by simp [spec_gwLine.l0])
   | succ k1 =>
    have H := HA.out
    clear HA
    simp only [spec_gwLine.l0] at H
    by_cases c7 : x16_1 < (y130.length : Int)
    ·rw [if_pos c7] at H
     have c7b0 : decide (x16_1 < (y130.length : Int)) = true := decide_eq_true c7
     clear c7
     by_cases c8 : 0 ≤ x16_1
     ·rw [if_pos c8] at H
      have c8b0 : decide (0 ≤ x16_1) = true := decide_eq_true c8
      clear c8
      by_cases c9 : x16_1 < (x7_1.length : Int)
      ·rw [if_pos c9] at H
       have c9b0 : decide (x16_1 < (x7_1.length : Int)) = true := decide_eq_true c9
       clear c9
       obtain ⟨y133, hy133⟩ : ∃ y_ : List Int, y_ = (x7_1.set (x16_1 : Int).toNat a1) := ⟨_, rfl⟩
       replace H : (spec_gwLine.l0 k1 a0 a1 y133 (y130.length : Int) (wrap64 (x16_1 + 1))) = some (r1, r2, r3) := by first | (rw [hy133]; with_reducible exact H) | (have H2_ := (Option.bind_some _ _).symm.trans H; rw [hy133]; with_reducible exact H2_) | (have H2_ := (Option.bind_some _ _).symm.trans H; with_reducible exact H2_) | with_reducible exact H | (rw [hy133]; exact H) | exact H
       have Ny133 := Aside0.mk hy133
       clear hy133
       have H' := Aside0.mk H
       clear H
       have p10 : 0 ≤ (x16_1 : Int) := of_decide_eq_true (by first | (with_reducible assumption) | assumption)
       have q10 : (x16_1 : Int) < ((x7_1.length : Int) : Int) := of_decide_eq_true (by first | (with_reducible assumption) | assumption)
       obtain ⟨go10, co10, eo10, gb10, gl10, cl10, HG10⟩ := Kd.R_form HO_7.out (by omega)
       (first | cases eo10 | (injection eo10 with ea_ en_ ec_; (first | subst ea_ | (injection ea_ with ea_; subst ea_)); subst ec_; clear en_))
       have GB10 := Aside0.mk gb10
       have GG10 := Aside0.mk HG10
       clear gb10 gl10 HG10
       obtain ⟨hx10_0, hf10_0⟩ := Kd.R_celln 0 HO_7.out (x16_1 : Int) p10 q10
       replace p10 := eq_true p10
       replace q10 := eq_true q10
       have HP11 := Kd.R_putg HO_7.out (x16_1 : Int) a1
       go_wp2_with (first | ((with_reducible refine gate_store (t := 3) (p := 22) rfl ?_); refine store_event (t := 3) (p := 22) (v := ?vo_w12) (w1 := (wr.setCell ⟨go10, (x16_1 : Int).toNat, none⟩ (.int .i64 a1))) ?hg ?ho ?hn ?hr ?_; (case ho => rfl); (case hg => rfl); (case hn => rfl); (case hr => first | (go_simp; done) | (go_simp; rfl)); intro w12 hw; have hg : wr.grownBy w12 (some go10) := (by rw [hw]; exact HP11.2); have hp_ : Kd.R (Kd.int .i64) 3 w12 w.heap.size (fun _ => True) (.slice (some ⟨go10, 0, none⟩) x7_1.length co6) y133 := (by rw [hw, Ny133.out]; exact HP11.1); clear HP11; have n0_ := Aside0.mk (hp_); have n1_ := Aside0.mk ((by rw [hw]; exact bS_ (HB.out) GB10.out : Below w.heap.size w w12)); clear HO_7; clear HB; have HO_7 := n0_; have HB := n1_; clear n0_ n1_; clear hg hw hp_))
       (try simp only [← hl7_1])
       go_roundg k1
       case measure => have := HK1.out; omega
       case rel => exact ⟨(y133), (wrap64 (x16_1 + 1)), (by first | rfl | (simp; done) | (simp [*]; done)), H', ⟨by have := HK1.out; omega⟩, ⟨by (try simp only [hl7_1]); (with_reducible repeat (first | apply Kd.R_alloc | apply Kd.R_drewN | apply Kd.R_drew)); exact HO_7.out⟩, ⟨by repeat (first | (with_reducible first | exact HB.out | apply bA_ | apply bN_ | apply bD_) | exact HB.out)⟩⟩
      ·rw [if_neg c9] at H
       exact absurd H (by simp)
     ·rw [if_neg c8] at H
      exact absurd H (by simp)
    ·rw [if_neg c7] at H
     have c7b0 : decide (x16_1 < (y130.length : Int)) = false := decide_eq_false c7
     have c7b1 : decide (x16_1 < (x7_1.length : Int)) = false := by have h_ := c7b0; rw [hl7_1] at h_; exact h_
     clear c7
     have H' := Aside0.mk H
     clear H
     go_wp2
     go_loopg [0, 9, 10, 11] k1 (fun kq v0 v9 v10 v11 w' => ∃ (x0_2 : Int) (x7_2 : List Int) (x9_2 : Int) (x10_2 : Int) (x11_2 : Int), v0 = .int .i64 x0_2 ∧ v9 = .int .i64 x9_2 ∧ v10 = .int .i64 x10_2 ∧ v11 = .int .i64 x11_2 ∧ Aside0 (spec_gwLine.l1 kq x0_2 x7_2 x9_2 x10_2 x11_2 = some (r1, r2, r3)) ∧ Aside0 (kq ≤ k1) ∧ Aside0 (Kd.R (Kd.int .i64) 3 w' w.heap.size (fun _ => True) (.slice Ao6 x7_1.length co6) x7_2) ∧ Aside0 (Below w.heap.size w w'))
     case atStart => exact ⟨(a0), (x7_1), (1), (0), (0), (by first | rfl | (simp; done) | (simp [*]; done)), (by first | rfl | (simp; done) | (simp [*]; done)), (by first | rfl | (simp; done) | (simp [*]; done)), (by first | rfl | (simp; done) | (simp [*]; done)), H', ⟨Nat.le_refl _⟩, ⟨by (try simp only [hl7_1]); (with_reducible repeat (first | apply Kd.R_alloc | apply Kd.R_drewN | apply Kd.R_drew)); exact HO_7.out⟩, ⟨by repeat (first | (with_reducible first | exact HB.out | apply bA_ | apply bN_ | apply bD_) | exact HB.out)⟩⟩
     case round =>
      clear H'
      try clear p1
      try clear q1
      try clear hx1
      try clear p2
      try clear c3
      try clear c3b0
      try clear c3b1
      try clear c6
      try clear p6
      try clear c7
      try clear c7b0
      try clear c8
      try clear c8b0
      try clear c9
      try clear c9b0
      try clear p10
      try clear q10
      try clear hx10
      try clear hf10
      try clear hx10_0
      try clear p10
      try clear p2
      try clear q10
      obtain ⟨x0_2, x7_2, x9_2, x10_2, x11_2, rfl, rfl, rfl, rfl, HA, HK2, HO_7, HB⟩ := hrel
      have hl7_2 := (Kd.R_reads' HO_7.out).1
      rw [hl7_2] at HO_7
      (try simp only [hl7_2])
      cases gk with
      | zero => exact absurd HA.out (by simp [spec_gwLine.l1])
      | succ k2 =>
       have H := HA.out
       clear HA
       simp only [spec_gwLine.l1] at H
       by_cases c13 : x0_2 > 0
       ·rw [if_pos c13] at H
        have c13b0 : decide (0 < x0_2) = true := decide_eq_true c13
        clear c13
        have H' := Aside0.mk H
        clear H
        go_wp2
        go_loopg [11, 12] k2 (fun kq v11 v12 w' => ∃ (x7_3 : List Int) (x11_3 : Int) (x12_3 : Int), v11 = .int .i64 x11_3 ∧ v12 = .int .i64 x12_3 ∧ Aside0 (spec_gwLine.l2 kq x0_2 x7_3 x9_2 x10_2 x11_3 x12_3 = some (r1, r2, r3)) ∧ Aside0 (kq ≤ k2) ∧ Aside0 (Kd.R (Kd.int .i64) 3 w' w.heap.size (fun _ => True) (.slice Ao6 x7_2.length co6) x7_3) ∧ Aside0 (Below w.heap.size w w'))
        case atStart => exact ⟨(x7_2), (x11_2), (0), (by first | rfl | (simp; done) | (simp [*]; done)), (by first | rfl | (simp; done) | (simp [*]; done)), H', ⟨Nat.le_refl _⟩, ⟨by (try simp only [hl7_1]); (try simp only [hl7_2]); (with_reducible repeat (first | apply Kd.R_alloc | apply Kd.R_drewN | apply Kd.R_drew)); exact HO_7.out⟩, ⟨by repeat (first | (with_reducible first | exact HB.out | apply bA_ | apply bN_ | apply bD_) | exact HB.out)⟩⟩
        case round =>
         clear H'
         try clear c1
         try clear p1
         try clear q1
         try clear hx1
         try clear p2
         try clear c3
         try clear c3b0
         try clear c3b1
         try clear c6
         try clear p6
         try clear c7
         try clear c7b0
         try clear c8
         try clear c8b0
         try clear c9
         try clear c9b0
         try clear p10
         try clear q10
         try clear hx10
         try clear hf10
         try clear c13
         try clear c13b0
         try clear hx10_0
         try clear p1
         try clear p10
         try clear p2
         try clear p6
         try clear q1
         try clear q10
         obtain ⟨x7_3, x11_3, x12_3, rfl, rfl, HA, HK3, HO_7, HB⟩ := hrel
         have hl7_3 := (Kd.R_reads' HO_7.out).1
         rw [hl7_3] at HO_7
         (try simp only [hl7_3])
         cases gk with
         | zero => exact absurd HA.out (by simp [spec_gwLine.l2])
         | succ k3 =>
          have H := HA.out
          clear HA
          simp only [spec_gwLine.l2] at H
          replace H := Option.bind_eq_some_iff.mp H
          obtain ⟨t134, A140, H⟩ := H
          replace H : (if t134 = true then (if 0 ≤ (wrap64 (x12_3 + 600)) then (if (wrap64 (x12_3 + 600)) < (x7_3.length : Int) then ((some (x7_3.set ((wrap64 (x12_3 + 600)) : Int).toNat (wrap64 (1 - (rd x7_3 (wrap64 (x12_3 + 600))))) : List Int)).bind fun y136 => (if (rd y136 (wrap64 (x12_3 + 600))) = 0 then (spec_gwLine.l2 k3 x0_2 y136 x9_2 x10_2 (wrap64 (x11_3 + 1)) (wrap64 (x12_3 + 1))) else (spec_gwLine.l2 k3 x0_2 y136 x9_2 x10_2 (wrap64 (x11_3 + 1)) (wrap64 (x12_3 - 1))))) else (none)) else (none)) else ((spec_l1Least.f x9_2 x12_3).bind fun t138 => ((spec_l1Most.f x10_2 x12_3).bind fun t139 => (spec_gwLine.l1 k3 (wrap64 (x0_2 - 1)) x7_3 t138 t139 x11_3)))) = some (r1, r2, r3) := H
          have A14 := Aside0.mk A140
          clear A140
          by_cases c15 : t134 = true
          ·subst c15
           have H1 : (if 0 ≤ (wrap64 (x12_3 + 600)) then (if (wrap64 (x12_3 + 600)) < (x7_3.length : Int) then ((some (x7_3.set ((wrap64 (x12_3 + 600)) : Int).toNat (wrap64 (1 - (rd x7_3 (wrap64 (x12_3 + 600))))) : List Int)).bind fun y136 => (if (rd y136 (wrap64 (x12_3 + 600))) = 0 then (spec_gwLine.l2 k3 x0_2 y136 x9_2 x10_2 (wrap64 (x11_3 + 1)) (wrap64 (x12_3 + 1))) else (spec_gwLine.l2 k3 x0_2 y136 x9_2 x10_2 (wrap64 (x11_3 + 1)) (wrap64 (x12_3 - 1))))) else (none)) else (none)) = some (r1, r2, r3) := by rw [if_pos rfl] at H; exact H
           clear H
           have H := H1
           clear H1
           obtain ⟨ji16, hji16⟩ : ∃ j_ : Int, (wrap64 (x12_3 + 600)) = j_ := ⟨_, rfl⟩
           replace H : (if 0 ≤ (ji16) then (if (ji16) < (x7_3.length : Int) then ((some (x7_3.set ((ji16) : Int).toNat (wrap64 (1 - (rd x7_3 (ji16)))) : List Int)).bind fun y136 => (if (rd y136 (ji16)) = 0 then (spec_gwLine.l2 k3 x0_2 y136 x9_2 x10_2 (wrap64 (x11_3 + 1)) (wrap64 (x12_3 + 1))) else (spec_gwLine.l2 k3 x0_2 y136 x9_2 x10_2 (wrap64 (x11_3 + 1)) (wrap64 (x12_3 - 1))))) else (none)) else (none)) = some (r1, r2, r3) := by first | (rw [hji16] at H; exact H) | (simp only [hji16] at H ⊢; exact H)
           (try rw [hji16] at A14)
           have hji16w : (IntKind.i64.wrap (x12_3 + 600)) = ji16 := (i64_w _).trans hji16
           by_cases c17 : 0 ≤ (ji16)
           ·rw [if_pos c17] at H
            have c17b0 : decide (0 ≤ (ji16)) = true := decide_eq_true c17
            clear c17
            by_cases c18 : (ji16) < (x7_3.length : Int)
            ·rw [if_pos c18] at H
             have c18b0 : decide ((ji16) < (x7_3.length : Int)) = true := decide_eq_true c18
             clear c18
             obtain ⟨y136, hy136⟩ : ∃ y_ : List Int, y_ = (x7_3.set ((ji16) : Int).toNat (wrap64 (1 - (rd x7_3 (ji16))))) := ⟨_, rfl⟩
             replace H : (if (rd y136 (ji16)) = 0 then (spec_gwLine.l2 k3 x0_2 y136 x9_2 x10_2 (wrap64 (x11_3 + 1)) (wrap64 (x12_3 + 1))) else (spec_gwLine.l2 k3 x0_2 y136 x9_2 x10_2 (wrap64 (x11_3 + 1)) (wrap64 (x12_3 - 1)))) = some (r1, r2, r3) := by first | (rw [hy136]; with_reducible exact H) | (have H2_ := (Option.bind_some _ _).symm.trans H; rw [hy136]; with_reducible exact H2_) | (have H2_ := (Option.bind_some _ _).symm.trans H; with_reducible exact H2_) | with_reducible exact H | (rw [hy136]; exact H) | exact H
             have Ny136 := Aside0.mk hy136
             clear hy136
             by_cases c20 : (rd y136 (ji16)) = 0
             ·rw [if_pos c20] at H
              have c20b0 : ((rd y136 (ji16)) == 0) = true := beq_iff_eq.mpr c20
              have c20b1 : ((rd y136 (ji16)) != 0) = false := bne_eq_false_iff_eq.mpr c20
              clear c20
              have H' := Aside0.mk H
              clear H
              go_wp2_with (first | ((with_reducible refine gate_callee (f := 72) rfl ?_); refine goesL_ (some 31) rfl rfl Try.func72 (by kernel_rfl) rfl #[.int .i64 x12_3, .int .i64 x9_2, .int .i64 x10_2] rfl (by (try simp only [List.map_toArray, List.map_cons, List.map_nil]); first | done | rfl | (simp only [List.length_drop, List.length_take]; rfl)) ?_; (with_reducible refine (spec_l1In.calls x12_3 x9_2 x10_2 true _ A14.out).mono ?_); rintro e w' ⟨rfl, ⟨nd, rfl⟩⟩; refine ⟨_, rfl, ?_⟩; (try (rw [drewN_self wr]; generalize hq_ : World.drewN wr _ = wr; have n0_ : Aside0 (Kd.R (Kd.int .i64) 3 wr w.heap.size (fun _ => True) (.slice Ao6 x7_3.length co6) x7_3) := ⟨by rw [← hq_]; exact (by (with_reducible repeat (first | apply Kd.R_alloc | apply Kd.R_drewN | apply Kd.R_drew)); exact HO_7.out)⟩; have n1_ : Aside0 (Below w.heap.size w wr) := ⟨by rw [← hq_]; exact (by repeat (first | (with_reducible first | exact HB.out | apply bA_ | apply bN_ | apply bD_) | exact HB.out))⟩; clear HO_7 HB hq_; have HO_7 := n0_; have HB := n1_; clear n0_ n1_)); have p135 : 0 ≤ ((ji16) : Int) := of_decide_eq_true (by first | (with_reducible assumption) | assumption); have q135 : (ji16) < (x7_3.length : Int) := of_decide_eq_true (by first | (with_reducible assumption) | assumption); obtain ⟨ad135, e135, hx135_0⟩ := Kd.at_int (Kd.R_reads' HO_7.out).2.2 (ji16) p135 q135; cases e135; replace p135 := eq_true p135; replace q135 := eq_true q135; have p19 : 0 ≤ ((ji16) : Int) := of_decide_eq_true (by first | (with_reducible assumption) | assumption); have q19 : ((ji16) : Int) < ((x7_3.length : Int) : Int) := of_decide_eq_true (by first | (with_reducible assumption) | assumption); obtain ⟨go19, co19, eo19, gb19, gl19, cl19, HG19⟩ := Kd.R_form HO_7.out (by omega); (first | cases eo19 | (injection eo19 with ea_ en_ ec_; (first | subst ea_ | (injection ea_ with ea_; subst ea_)); subst ec_; clear en_)); have GB19 := Aside0.mk gb19; have GG19 := Aside0.mk HG19; clear gb19 gl19 HG19; (first | simp only [add_plain] at hx135_0 | skip); obtain ⟨hx19_0, hf19_0⟩ := Kd.R_celln 0 HO_7.out ((ji16) : Int) p19 q19; replace p19 := eq_true p19; replace q19 := eq_true q19; obtain ⟨hy21_, hz21_⟩ := Kd.R_celln 0 HO_7.out ((ji16) : Int) (of_decide_eq_true (by first | (with_reducible assumption) | assumption)) (of_decide_eq_true (by first | (with_reducible assumption) | assumption)); have HP21 := Kd.R_putg HO_7.out ((ji16) : Int) (wrap64 (1 - (rd x7_3 (ji16))))) | ((with_reducible refine gate_store (t := 3) (p := 41) rfl ?_); refine store_event (t := 3) (p := 41) (v := ?vo_w22) (w1 := (wr.setCell ⟨go19, ((ji16) : Int).toNat, none⟩ (.int .i64 (wrap64 (1 - (rd x7_3 (ji16))))))) ?hg ?ho ?hn ?hr ?_; (case ho => rfl); (case hg => rfl); (case hn => rfl); (case hr => first | (go_simp; done) | (go_simp; rfl)); intro w22 hw; have hg : wr.grownBy w22 (some go19) := (by rw [hw]; exact HP21.2); have hp_ : Kd.R (Kd.int .i64) 3 w22 w.heap.size (fun _ => True) (.slice (some ⟨go19, 0, none⟩) x7_3.length co6) y136 := (by rw [hw, Ny136.out]; exact HP21.1); clear HP21; have n0_ := Aside0.mk (hp_); have n1_ := Aside0.mk ((by rw [hw]; exact bS_ (HB.out) GB19.out : Below w.heap.size w w22)); clear HO_7; clear HB; have HO_7 := n0_; have HB := n1_; clear n0_ n1_; clear hg hw hp_; have p137 : 0 ≤ ((ji16) : Int) := of_decide_eq_true (by first | (with_reducible assumption) | assumption); have q137 : (ji16) < (y136.length : Int) := (by have h_ : ((ji16) : Int) < ((x7_3.length : Int) : Int) := of_decide_eq_true (by first | (with_reducible assumption) | assumption); first | (have e_ := (Kd.R_reads' HO_7.out).1; omega) | simpa only [Ny136.out, List.length_set] using h_); have ql137 : (((ji16) : Int) < ((x7_3.length : Int) : Int)) = True := eq_true (of_decide_eq_true (by first | (with_reducible assumption) | assumption)); obtain ⟨ad137, e137, hx137_0⟩ := Kd.at_int (Kd.R_reads' HO_7.out).2.2 (ji16) p137 q137; obtain rfl : (⟨go19, 0, none⟩ : Addr) = ad137 := (by injection e137); (first | simp only [add_plain] at hx137_0 | simp only [add_at] at hx137_0 | simp only [Addr.add, Nat.zero_add] at hx137_0 | skip); replace p137 := eq_true p137; replace q137 := eq_true q137))
              (try simp only [← hl7_3])
              go_roundg k3
              case measure => have := HK1.out; have := HK2.out; have := HK3.out; omega
              case rel => exact ⟨(y136), (wrap64 (x11_3 + 1)), (wrap64 (x12_3 + 1)), (by first | rfl | (simp; done) | (simp [*]; done)), (by first | rfl | (simp; done) | (simp [*]; done)), H', ⟨by have := HK1.out; have := HK2.out; have := HK3.out; omega⟩, ⟨by (try simp only [hl7_1]); (try simp only [hl7_2]); (try simp only [hl7_3]); (with_reducible repeat (first | apply Kd.R_alloc | apply Kd.R_drewN | apply Kd.R_drew)); exact HO_7.out⟩, ⟨by repeat (first | (with_reducible first | exact HB.out | apply bA_ | apply bN_ | apply bD_) | exact HB.out)⟩⟩
             ·rw [if_neg c20] at H
              have c20b0 : ((rd y136 (ji16)) == 0) = false := beq_eq_false_iff_ne.mpr c20
              have c20b1 : ((rd y136 (ji16)) != 0) = true := bne_iff_ne.mpr c20
              have H' := Aside0.mk H
              clear H
              go_wp2_with (first | ((with_reducible refine gate_callee (f := 72) rfl ?_); refine goesL_ (some 31) rfl rfl Try.func72 (by kernel_rfl) rfl #[.int .i64 x12_3, .int .i64 x9_2, .int .i64 x10_2] rfl (by (try simp only [List.map_toArray, List.map_cons, List.map_nil]); first | done | rfl | (simp only [List.length_drop, List.length_take]; rfl)) ?_; (with_reducible refine (spec_l1In.calls x12_3 x9_2 x10_2 true _ A14.out).mono ?_); rintro e w' ⟨rfl, ⟨nd, rfl⟩⟩; refine ⟨_, rfl, ?_⟩; (try (rw [drewN_self wr]; generalize hq_ : World.drewN wr _ = wr; have n0_ : Aside0 (Kd.R (Kd.int .i64) 3 wr w.heap.size (fun _ => True) (.slice Ao6 x7_3.length co6) x7_3) := ⟨by rw [← hq_]; exact (by (with_reducible repeat (first | apply Kd.R_alloc | apply Kd.R_drewN | apply Kd.R_drew)); exact HO_7.out)⟩; have n1_ : Aside0 (Below w.heap.size w wr) := ⟨by rw [← hq_]; exact (by repeat (first | (with_reducible first | exact HB.out | apply bA_ | apply bN_ | apply bD_) | exact HB.out))⟩; clear HO_7 HB hq_; have HO_7 := n0_; have HB := n1_; clear n0_ n1_)); have p135 : 0 ≤ ((ji16) : Int) := of_decide_eq_true (by first | (with_reducible assumption) | assumption); have q135 : (ji16) < (x7_3.length : Int) := of_decide_eq_true (by first | (with_reducible assumption) | assumption); obtain ⟨ad135, e135, hx135_0⟩ := Kd.at_int (Kd.R_reads' HO_7.out).2.2 (ji16) p135 q135; cases e135; replace p135 := eq_true p135; replace q135 := eq_true q135; have p19 : 0 ≤ ((ji16) : Int) := of_decide_eq_true (by first | (with_reducible assumption) | assumption); have q19 : ((ji16) : Int) < ((x7_3.length : Int) : Int) := of_decide_eq_true (by first | (with_reducible assumption) | assumption); obtain ⟨go19, co19, eo19, gb19, gl19, cl19, HG19⟩ := Kd.R_form HO_7.out (by omega); (first | cases eo19 | (injection eo19 with ea_ en_ ec_; (first | subst ea_ | (injection ea_ with ea_; subst ea_)); subst ec_; clear en_)); have GB19 := Aside0.mk gb19; have GG19 := Aside0.mk HG19; clear gb19 gl19 HG19; (first | simp only [add_plain] at hx135_0 | skip); obtain ⟨hx19_0, hf19_0⟩ := Kd.R_celln 0 HO_7.out ((ji16) : Int) p19 q19; replace p19 := eq_true p19; replace q19 := eq_true q19; obtain ⟨hy23_, hz23_⟩ := Kd.R_celln 0 HO_7.out ((ji16) : Int) (of_decide_eq_true (by first | (with_reducible assumption) | assumption)) (of_decide_eq_true (by first | (with_reducible assumption) | assumption)); have HP23 := Kd.R_putg HO_7.out ((ji16) : Int) (wrap64 (1 - (rd x7_3 (ji16))))) | ((with_reducible refine gate_store (t := 3) (p := 41) rfl ?_); refine store_event (t := 3) (p := 41) (v := ?vo_w24) (w1 := (wr.setCell ⟨go19, ((ji16) : Int).toNat, none⟩ (.int .i64 (wrap64 (1 - (rd x7_3 (ji16))))))) ?hg ?ho ?hn ?hr ?_; (case ho => rfl); (case hg => rfl); (case hn => rfl); (case hr => first | (go_simp; done) | (go_simp; rfl)); intro w24 hw; have hg : wr.grownBy w24 (some go19) := (by rw [hw]; exact HP23.2); have hp_ : Kd.R (Kd.int .i64) 3 w24 w.heap.size (fun _ => True) (.slice (some ⟨go19, 0, none⟩) x7_3.length co6) y136 := (by rw [hw, Ny136.out]; exact HP23.1); clear HP23; have n0_ := Aside0.mk (hp_); have n1_ := Aside0.mk ((by rw [hw]; exact bS_ (HB.out) GB19.out : Below w.heap.size w w24)); clear HO_7; clear HB; have HO_7 := n0_; have HB := n1_; clear n0_ n1_; clear hg hw hp_; have p137 : 0 ≤ ((ji16) : Int) := of_decide_eq_true (by first | (with_reducible assumption) | assumption); have q137 : (ji16) < (y136.length : Int) := (by have h_ : ((ji16) : Int) < ((x7_3.length : Int) : Int) := of_decide_eq_true (by first | (with_reducible assumption) | assumption); first | (have e_ := (Kd.R_reads' HO_7.out).1; omega) | simpa only [Ny136.out, List.length_set] using h_); have ql137 : (((ji16) : Int) < ((x7_3.length : Int) : Int)) = True := eq_true (of_decide_eq_true (by first | (with_reducible assumption) | assumption)); obtain ⟨ad137, e137, hx137_0⟩ := Kd.at_int (Kd.R_reads' HO_7.out).2.2 (ji16) p137 q137; obtain rfl : (⟨go19, 0, none⟩ : Addr) = ad137 := (by injection e137); (first | simp only [add_plain] at hx137_0 | simp only [add_at] at hx137_0 | simp only [Addr.add, Nat.zero_add] at hx137_0 | skip); replace p137 := eq_true p137; replace q137 := eq_true q137))
              (try simp only [← hl7_3])
              go_roundg k3
              case measure => have := HK1.out; have := HK2.out; have := HK3.out; omega
              case rel => exact ⟨(y136), (wrap64 (x11_3 + 1)), (wrap64 (x12_3 - 1)), (by first | rfl | (simp; done) | (simp [*]; done)), (by first | rfl | (simp; done) | (simp [*]; done)), H', ⟨by have := HK1.out; have := HK2.out; have := HK3.out; omega⟩, ⟨by (try simp only [hl7_1]); (try simp only [hl7_2]); (try simp only [hl7_3]); (with_reducible repeat (first | apply Kd.R_alloc | apply Kd.R_drewN | apply Kd.R_drew)); exact HO_7.out⟩, ⟨by repeat (first | (with_reducible first | exact HB.out | apply bA_ | apply bN_ | apply bD_) | exact HB.out)⟩⟩
            ·rw [if_neg c18] at H
             exact absurd H (by simp)
           ·rw [if_neg c17] at H
            exact absurd H (by simp)
          ·replace c15 := Bool.eq_false_iff.mpr c15
           subst c15
           have H1 : ((spec_l1Least.f x9_2 x12_3).bind fun t138 => ((spec_l1Most.f x10_2 x12_3).bind fun t139 => (spec_gwLine.l1 k3 (wrap64 (x0_2 - 1)) x7_3 t138 t139 x11_3))) = some (r1, r2, r3) := by rw [if_neg (show ¬ (false = true) by decide)] at H; exact H
           clear H
           have H := H1
           clear H1
           replace H := Option.bind_eq_some_iff.mp H
           obtain ⟨t138, A250, H⟩ := H
           replace H : ((spec_l1Most.f x10_2 x12_3).bind fun t139 => (spec_gwLine.l1 k3 (wrap64 (x0_2 - 1)) x7_3 t138 t139 x11_3)) = some (r1, r2, r3) := H
           have A25 := Aside0.mk A250
           clear A250
           replace H := Option.bind_eq_some_iff.mp H
           obtain ⟨t139, A260, H⟩ := H
           replace H : (spec_gwLine.l1 k3 (wrap64 (x0_2 - 1)) x7_3 t138 t139 x11_3) = some (r1, r2, r3) := H
           have A26 := Aside0.mk A260
           clear A260
           have H' := Aside0.mk H
           clear H
           go_wp2_with (first | ((with_reducible refine gate_callee (f := 72) rfl ?_); refine goesL_ (some 31) rfl rfl Try.func72 (by kernel_rfl) rfl #[.int .i64 x12_3, .int .i64 x9_2, .int .i64 x10_2] rfl (by (try simp only [List.map_toArray, List.map_cons, List.map_nil]); first | done | rfl | (simp only [List.length_drop, List.length_take]; rfl)) ?_; (with_reducible refine (spec_l1In.calls x12_3 x9_2 x10_2 false _ A14.out).mono ?_); rintro e w' ⟨rfl, ⟨nd, rfl⟩⟩; refine ⟨_, rfl, ?_⟩) | ((with_reducible refine gate_callee (f := 77) rfl ?_); refine goesL_ (some 56) rfl rfl Try.func77 (by kernel_rfl) rfl #[.int .i64 x9_2, .int .i64 x12_3] rfl (by (try simp only [List.map_toArray, List.map_cons, List.map_nil]); first | done | rfl | (simp only [List.length_drop, List.length_take]; rfl)) ?_; (with_reducible refine (spec_l1Least.calls x9_2 x12_3 t138 _ A25.out).mono ?_); rintro e w' ⟨rfl, ⟨nd, rfl⟩⟩; refine ⟨_, rfl, ?_⟩) | ((with_reducible refine gate_callee (f := 75) rfl ?_); refine goesL_ (some 59) rfl rfl Try.func75 (by kernel_rfl) rfl #[.int .i64 x10_2, .int .i64 x12_3] rfl (by (try simp only [List.map_toArray, List.map_cons, List.map_nil]); first | done | rfl | (simp only [List.length_drop, List.length_take]; rfl)) ?_; (with_reducible refine (spec_l1Most.calls x10_2 x12_3 t139 _ A26.out).mono ?_); rintro e w' ⟨rfl, ⟨nd, rfl⟩⟩; refine ⟨_, rfl, ?_⟩))
           (try simp only [← hl7_2, ← hl7_3])
           go_roundg k3
           case measure => have := HK1.out; have := HK2.out; have := HK3.out; omega
           case rel => exact ⟨(wrap64 (x0_2 - 1)), (x7_3), (t138), (t139), (x11_3), (by first | rfl | (simp; done) | (simp [*]; done)), (by first | rfl | (simp; done) | (simp [*]; done)), (by first | rfl | (simp; done) | (simp [*]; done)), (by first | rfl | (simp; done) | (simp [*]; done)), H', ⟨by have := HK1.out; have := HK2.out; have := HK3.out; omega⟩, ⟨by (try simp only [hl7_1]); (try simp only [hl7_2]); (try simp only [hl7_3]); (with_reducible repeat (first | apply Kd.R_alloc | apply Kd.R_drewN | apply Kd.R_drew)); exact HO_7.out⟩, ⟨by repeat (first | (with_reducible first | exact HB.out | apply bA_ | apply bN_ | apply bD_) | exact HB.out)⟩⟩
       ·rw [if_neg c13] at H
        have c13b0 : decide (0 < x0_2) = false := decide_eq_false c13
        clear c13
        simp only [Option.some.injEq, Prod.mk.injEq] at H
        obtain ⟨rfl, rfl, rfl⟩ := H
        go_wp2
        go_ret3
        exact ⟨by first | rfl | (simp [errW_none, errW_some] <;> rfl) | (simp [*, errW_none, errW_some] <;> rfl), by repeat (first | (with_reducible first | exact HB.out | apply bA_ | apply bN_ | apply bD_) | exact HB.out)⟩
 ·rw [if_neg c3] at H
  exact absurd H (by simp)
def spec_LineSteps.f (k : Nat) (a0 : Int) (a1 : Int) : Option (Int × Bool) := (spec_gwLined.f a0 a1).bind fun t140 => (if t140 = true then ((spec_gwLine.f k a0 a1).bind fun bt141 => (some (bt141.2.2, true))) else (some (0, false)))
theorem spec_LineSteps.mono : ∀ a0 a1 k, LeO (spec_LineSteps.f k a0 a1) (spec_LineSteps.f (k + 1) a0 a1) := by
 intro a0 a1 k
 unfold spec_LineSteps.f
 repeat' first
   | (with_reducible exact spec_gwLine.mono _ _ _)
   | (with_reducible exact LeO.refl _)
   | (with_reducible exact LeO.none _)
   | (with_reducible refine LeO.ite ?_ ?_)
   | (with_reducible refine LeO.bind ?_ (fun _ => ?_))
   | exact spec_gwLine.mono _ _ _
   | exact LeO.none _
   | refine LeO.ite ?_ ?_
   | refine LeO.bind ?_ (fun _ => ?_)
set_option maxHeartbeats 8000000 in
set_option maxRecDepth 100000 in
theorem spec_LineSteps.calls (k : Nat) (a0 : Int) (a1 : Int) (r1 : Int) (r2 : Bool) (w : World) (h : spec_LineSteps.f k a0 a1 = some (r1, r2)) :
  Calls Try.prog 20 #[.int .i64 a0, .int .i64 a1] w fun e w' => e = .returned (.tuple #[.int .i64 r1, .bool r2]) ∧ Below w.heap.size w w' := by
 have HB := Aside0.mk (Below.refl w.heap.size w)
 have H : ((spec_gwLined.f a0 a1).bind fun t140 => (if t140 = true then ((spec_gwLine.f k a0 a1).bind fun bt141 => (some (bt141.2.2, true))) else (some (0, false)))) = some (r1, r2) := h
 clear h
 replace H := Option.bind_eq_some_iff.mp H
 obtain ⟨t140, A30, H⟩ := H
 replace H : (if t140 = true then ((spec_gwLine.f k a0 a1).bind fun bt141 => (some (bt141.2.2, true))) else (some (0, false))) = some (r1, r2) := H
 have A3 := Aside0.mk A30
 clear A30
 by_cases c4 : t140 = true
 ·subst c4
  have H1 : ((spec_gwLine.f k a0 a1).bind fun bt141 => (some (bt141.2.2, true))) = some (r1, r2) := by rw [if_pos rfl] at H; exact H
  clear H
  have H := H1
  clear H1
  replace H := Option.bind_eq_some_iff.mp H
  obtain ⟨⟨t141, t142, t143⟩, A50, H⟩ := H
  replace H : (some (t143, true)) = some (r1, r2) := H
  have A5 := Aside0.mk A50
  clear A50
  simp only [Option.some.injEq, Prod.mk.injEq] at H
  obtain ⟨rfl, rfl⟩ := H
  go_enter Try.func20, Try.ntmps20
  go_wp2_with (first | ((with_reducible refine gate_callee (f := 68) rfl ?_); refine goesL_ (some 11) rfl rfl Try.func68 (by kernel_rfl) rfl #[.int .i64 a0, .int .i64 a1] rfl (by (try simp only [List.map_toArray, List.map_cons, List.map_nil]); first | done | rfl | (simp only [List.length_drop, List.length_take]; rfl)) ?_; (with_reducible refine (spec_gwLined.calls a0 a1 true _ A3.out).mono ?_); rintro e w' ⟨rfl, ⟨nd, rfl⟩⟩; refine ⟨_, rfl, ?_⟩) | ((with_reducible refine gate_callee (f := 69) rfl ?_); refine goesL_ (some 16) rfl rfl Try.func69 (by kernel_rfl) rfl #[.int .i64 a0, .int .i64 a1] rfl (by (try simp only [List.map_toArray, List.map_cons, List.map_nil]); first | done | rfl | (simp only [List.length_drop, List.length_take]; rfl)) ?_; (with_reducible refine (spec_gwLine.calls k a0 a1 t141 t142 t143 _ A5.out).mono ?_); rintro e w6 ⟨rfl, hb⟩; refine ⟨_, rfl, ?_⟩; have n0_ := Aside0.mk (bP_ (by repeat (first | (with_reducible first | exact HB.out | apply bA_ | apply bN_ | apply bD_) | exact HB.out)) hb); clear HB; have HB := n0_; clear n0_; (try clear hb); (try clear hb2); (try clear hk); (try clear hi)))
  go_ret2
  exact ⟨by first | rfl | (simp [errW_none, errW_some] <;> rfl) | (simp [*, errW_none, errW_some] <;> rfl), by repeat (first | (with_reducible first | exact HB.out | apply bA_ | apply bN_ | apply bD_) | exact HB.out)⟩
 ·replace c4 := Bool.eq_false_iff.mpr c4
  subst c4
  have H1 : (some (0, false)) = some (r1, r2) := by rw [if_neg (show ¬ (false = true) by decide)] at H; exact H
  clear H
  have H := H1
  clear H1
  simp only [Option.some.injEq, Prod.mk.injEq] at H
  obtain ⟨rfl, rfl⟩ := H
  go_enter Try.func20, Try.ntmps20
  go_wp2_with (first | ((with_reducible refine gate_callee (f := 68) rfl ?_); refine goesL_ (some 11) rfl rfl Try.func68 (by kernel_rfl) rfl #[.int .i64 a0, .int .i64 a1] rfl (by (try simp only [List.map_toArray, List.map_cons, List.map_nil]); first | done | rfl | (simp only [List.length_drop, List.length_take]; rfl)) ?_; (with_reducible refine (spec_gwLined.calls a0 a1 false _ A3.out).mono ?_); rintro e w' ⟨rfl, ⟨nd, rfl⟩⟩; refine ⟨_, rfl, ?_⟩))
  go_ret2
  exact ⟨by first | rfl | (simp [errW_none, errW_some] <;> rfl) | (simp [*, errW_none, errW_some] <;> rfl), by repeat (first | (with_reducible first | exact HB.out | apply bA_ | apply bN_ | apply bD_) | exact HB.out)⟩
def impl_cell_square.f (a0_0 : Int) (a0_1 : Int) : Option (Int) := some (wrap64 ((wrap64 (a0_0 * a0_0)) + (wrap64 (a0_1 * a0_1))))
set_option maxHeartbeats 8000000 in
set_option maxRecDepth 100000 in
theorem impl_cell_square.calls (a0_0 : Int) (a0_1 : Int) (r : Int) (w : World) (h : impl_cell_square.f a0_0 a0_1 = some r) :
  Calls Try.prog 78 #[.agg #[.int .i64 a0_0, .int .i64 a0_1]] w fun e w' => e = .returned (.int .i64 r) ∧ Below w.heap.size w w' := by
 have hu76 := Try.underlying76
 have HB := Aside0.mk (Below.refl w.heap.size w)
 have H : (some (wrap64 ((wrap64 (a0_0 * a0_0)) + (wrap64 (a0_1 * a0_1))))) = some r := h
 clear h
 obtain rfl := Option.some.inj H
 go_enter Try.func78, Try.ntmps78
 go_wp2_with (first | ((with_reducible refine gate_dst (N := 1) rfl ?_); refine box_event ?hg (N := 1) ?hd (cs := #[.int .i64 a0_0, .int .i64 a0_1]) (t := 76) ?hr ?_; (case hd => rfl); (case hg => rfl); (case hr => first | (go_simp; done) | (go_simp; rfl)); intro gb159 hg w2 hbox hb; have n0_ := Aside0.mk (bP_ (by repeat (first | (with_reducible first | exact HB.out | apply bA_ | apply bN_ | apply bD_) | exact HB.out)) hb); have n1_ := Aside0.mk (hbox); have n2_ := Aside0.mk ((by rw [hg]; exact (bZ_ (by repeat (first | (with_reducible first | exact HB.out | apply bA_ | apply bN_ | apply bD_) | exact HB.out))) : w.heap.size ≤ gb159)); have n3_ := Aside0.mk ((by rw [hg]; exact (bZ_ (by repeat (first | (with_reducible first | exact HB.out | apply bA_ | apply bN_ | apply bD_) | exact HB.out))) : w.heap.size ≤ gb159)); clear HB; have HB := n0_; have BK159 := n1_; have GW159 := n2_; have GE159 := n3_; clear n0_ n1_ n2_ n3_; clear hb hbox hg; have hcz3_0 : w2.cell? ⟨gb159, 0, none⟩ = some (.int .i64 a0_0) := (blk_cell BK159.out 0).trans rfl; have hcz3_1 : w2.cell? ⟨gb159, 1, none⟩ = some (.int .i64 a0_1) := (blk_cell BK159.out 1).trans rfl; have hfz3_0 := kF_ BK159.out 0; have hfz3_1 := kF_ BK159.out 1))
 go_ret
 exact ⟨by first | rfl | (simp [errW_none, errW_some] <;> rfl) | (simp [*, errW_none, errW_some] <;> rfl), by repeat (first | (with_reducible first | exact HB.out | apply bA_ | apply bN_ | apply bD_ | refine bS_ ?_ GE159.out) | exact HB.out)⟩
def impl_greatest.l0 : Nat → Int → List (S76) → Int → Int → Option (Int)
 | 0, _, _, _, _ => none
 | k + 1, x3, x6, x7, x8 => if x8 < x7 then (if 0 ≤ x8 then (if x8 < (x6.length : Int) then ((impl_cell_square.f ((rd_T76 x6 x8).f0) ((rd_T76 x6 x8).f1)).bind fun t162 => (impl_greatest.l0 k (mx x3 t162) x6 x7 (wrap64 (x8 + 1)))) else (none)) else (none)) else (some x3)
def impl_greatest.f (k : Nat) (l0 : List (S76)) : Option (Int) := impl_greatest.l0 k 0 l0 (l0.length : Int) 0
set_option maxHeartbeats 8000000 in
set_option maxRecDepth 100000 in
theorem impl_greatest.calls (k : Nat) (A0 : Option Addr) (c0 : Nat) (l0 : List (S76)) (r : Int) (w : World) (hr0 : Kd.C k76 w A0 l0.length l0) (hc0 : l0.length ≤ c0) (h : impl_greatest.f k l0 = some r) :
  Calls Try.prog 76 #[.slice A0 l0.length c0] w fun e w' => e = .returned (.int .i64 r) ∧ Below w.heap.size w w' := by
 have hu76 := Try.underlying76
 have HR0 := Aside0.mk hr0
 have HC0 := Aside0.mk hc0
 clear hr0 hc0
 have HB := Aside0.mk (Below.refl w.heap.size w)
 have H : (impl_greatest.l0 k 0 l0 (l0.length : Int) 0) = some r := h
 clear h
 have H' := Aside0.mk H
 clear H
 go_enter Try.func76, Try.ntmps76
 go_wp2
 go_loopg [3, 8] k (fun kq v3 v8 w' => ∃ (x3_1 : Int) (x8_1 : Int), v3 = .int .i64 x3_1 ∧ v8 = .int .i64 x8_1 ∧ Aside0 (impl_greatest.l0 kq x3_1 l0 (l0.length : Int) x8_1 = some r) ∧ Aside0 (kq ≤ k) ∧ Aside0 (Below w.heap.size w w'))
 case atStart => exact ⟨(0), (0), (by first | rfl | (simp; done) | (simp [*]; done)), (by first | rfl | (simp; done) | (simp [*]; done)), H', ⟨Nat.le_refl _⟩, ⟨by repeat (first | (with_reducible first | exact HB.out | apply bA_ | apply bN_ | apply bD_) | exact HB.out)⟩⟩
 case round =>
  clear H'
  obtain ⟨x3_1, x8_1, rfl, rfl, HA, HK1, HB⟩ := hrel
  cases gk with
  | zero => exact absurd HA.out (by simp [impl_greatest.l0])
  | succ k1 =>
   have H := HA.out
   clear HA
   simp only [impl_greatest.l0] at H
   by_cases c2 : x8_1 < (l0.length : Int)
   ·rw [if_pos c2] at H
    have c2b0 : decide (x8_1 < (l0.length : Int)) = true := decide_eq_true c2
    clear c2
    by_cases c3 : 0 ≤ x8_1
    ·rw [if_pos c3] at H
     have c3b0 : decide (0 ≤ x8_1) = true := decide_eq_true c3
     clear c3
     by_cases c4 : x8_1 < (l0.length : Int)
     ·rw [if_pos c4] at H
      have c4b0 : decide (x8_1 < (l0.length : Int)) = true := decide_eq_true c4
      clear c4
      replace H := Option.bind_eq_some_iff.mp H
      obtain ⟨t162, A50, H⟩ := H
      replace H : (impl_greatest.l0 k1 (mx x3_1 t162) l0 (l0.length : Int) (wrap64 (x8_1 + 1))) = some r := H
      have A5 := Aside0.mk A50
      clear A50
      obtain ⟨ji6, hji6⟩ : ∃ j_ : Int, (mx x3_1 t162) = j_ := ⟨_, rfl⟩
      replace H : (impl_greatest.l0 k1 ji6 l0 (l0.length : Int) (wrap64 (x8_1 + 1))) = some r := by first | (rw [hji6] at H; exact H) | (simp only [hji6] at H ⊢; exact H)
      (try rw [hji6] at A5)
      have hji6_ : (if x3_1 < t162 then t162 else x3_1) = ji6 := hji6
      have H' := Aside0.mk H
      clear H
      have p160 : 0 ≤ (x8_1 : Int) := of_decide_eq_true (by first | (with_reducible assumption) | assumption)
      have q160 : x8_1 < (l0.length : Int) := of_decide_eq_true (by first | (with_reducible assumption) | assumption)
      obtain ⟨ad160, e160, hx160_0, hx160_1⟩ := at_T76 HR0.out x8_1 p160 q160
      cases e160
      replace hx160_0 := (HB.out.cell (World.block_lt_of_cell? w _ hx160_0)).trans hx160_0
      replace hx160_1 := (HB.out.cell (World.block_lt_of_cell? w _ hx160_1)).trans hx160_1
      replace p160 := eq_true p160
      replace q160 := eq_true q160
      go_wp2_with (first | ((with_reducible refine gate_dst (N := 5) rfl ?_); refine box_event ?hg (N := 5) ?hd (cs := #[.int .i64 0, .int .i64 0]) (t := 76) ?hr ?_; (case hd => rfl); (case hg => rfl); (case hr => first | (go_simp; done) | (go_simp; rfl)); intro gb161 hg w7 hbox hb; have n0_ := Aside0.mk (bP_ (by repeat (first | (with_reducible first | exact HB.out | apply bA_ | apply bN_ | apply bD_) | exact HB.out)) hb); have n1_ := Aside0.mk (hbox); have n2_ := Aside0.mk ((by rw [hg]; exact (bZ_ (by repeat (first | (with_reducible first | exact HB.out | apply bA_ | apply bN_ | apply bD_) | exact HB.out))) : w.heap.size ≤ gb161)); have n3_ := Aside0.mk ((by rw [hg]; exact (bZ_ (by repeat (first | (with_reducible first | exact HB.out | apply bA_ | apply bN_ | apply bD_) | exact HB.out))) : w.heap.size ≤ gb161)); clear HB; have HB := n0_; have BK161 := n1_; have GW161 := n2_; have GE161 := n3_; clear n0_ n1_ n2_ n3_; clear hb hbox hg; have hcz8_0 : w7.cell? ⟨gb161, 0, none⟩ = some (.int .i64 0) := (blk_cell BK161.out 0).trans rfl; have hcz8_1 : w7.cell? ⟨gb161, 1, none⟩ = some (.int .i64 0) := (blk_cell BK161.out 1).trans rfl; have hfz8_0 := kF_ BK161.out 0; have hfz8_1 := kF_ BK161.out 1) | ((with_reducible refine gate_callee (f := 78) rfl ?_); refine goesL_ (some 14) rfl rfl Try.func78 (by kernel_rfl) rfl #[.agg #[.int .i64 ((rd_T76 l0 x8_1).f0), .int .i64 ((rd_T76 l0 x8_1).f1)]] rfl (by (try simp only [List.map_toArray, List.map_cons, List.map_nil]); first | done | rfl | (simp only [List.length_drop, List.length_take]; rfl)) ?_; (with_reducible refine (impl_cell_square.calls ((rd_T76 l0 x8_1).f0) ((rd_T76 l0 x8_1).f1) t162 _ A5.out).mono ?_); rintro e w9 ⟨rfl, hb⟩; refine ⟨_, rfl, ?_⟩; have n0_ := Aside0.mk (blk_below (g := gb161) (o := .cells #[.int .i64 ((rd_T76 l0 x8_1).f0), .int .i64 ((rd_T76 l0 x8_1).f1)] 76 (0, 0)) (by (with_reducible repeat (first | refine kN_ ?_ _ | refine kD_ ?_ | refine kA_ ?_ _)); refine blk_put (cs := #[.int .i64 ((rd_T76 l0 x8_1).f0), .int .i64 0]) ?_ 1 _ rfl; (with_reducible repeat (first | refine kN_ ?_ _ | refine kD_ ?_ | refine kA_ ?_ _)); refine blk_put (cs := #[.int .i64 0, .int .i64 0]) ?_ 0 _ rfl; (with_reducible repeat (first | refine kN_ ?_ _ | refine kD_ ?_ | refine kA_ ?_ _)); exact BK161.out) hb); have n1_ := Aside0.mk (bP_ (by repeat (first | (with_reducible first | exact HB.out | apply bA_ | apply bN_ | apply bD_ | refine bS_ ?_ GE161.out) | exact HB.out)) hb); clear BK161; clear HB; have BK161 := n0_; have HB := n1_; clear n0_ n1_; (try clear hb); (try clear hb2); (try clear hk); (try clear hi)))
      go_roundg k1
      case measure => have := HK1.out; omega
      case rel => exact ⟨(ji6), (wrap64 (x8_1 + 1)), (by first | rfl | (simp; done) | (simp only [← hji6] <;> (first | rfl | simp)) | (simp [*]; done)), (by first | rfl | (simp; done) | (simp [*]; done)), H', ⟨by have := HK1.out; omega⟩, ⟨by repeat (first | (with_reducible first | exact HB.out | apply bA_ | apply bN_ | apply bD_ | refine bS_ ?_ GE161.out) | exact HB.out)⟩⟩
     ·rw [if_neg c4] at H
      exact absurd H (by simp)
    ·rw [if_neg c3] at H
     exact absurd H (by simp)
   ·rw [if_neg c2] at H
    have c2b0 : decide (x8_1 < (l0.length : Int)) = false := decide_eq_false c2
    clear c2
    obtain rfl := Option.some.inj H
    go_wp2
    go_ret
    exact ⟨by first | rfl | (simp [errW_none, errW_some] <;> rfl) | (simp [*, errW_none, errW_some] <;> rfl), by repeat (first | (with_reducible first | exact HB.out | apply bA_ | apply bN_ | apply bD_) | exact HB.out)⟩
end Go.Proofs.Ytjedhjeijpbobaa.GA
namespace Go.Proofs.Ytjedhjeijpbobaa.G8
end Go.Proofs.Ytjedhjeijpbobaa.G8
namespace Go.Proofs.Ytjedhjeijpbobaa.G8
abbrev Fld := Int → Int → Option Int
def upd (F : Fld) (x y r : Int) : Fld := fun a b => if a = x ∧ b = y then some r else F a b
def mv4 (r x y : Int) : Int × Int := if r = 0 then (x + 1, y) else if r = 1 then (x, y + 1) else if r = 2 then (x - 1, y) else (x, y - 1)
def mv2 (r x y : Int) : Int × Int := if r = 0 then (x + 1, y) else (x - 1, y)
def run (ex B : Int) (mv : Int → Int → Int → Int × Int) : Nat → Fld → Int → Int → Int → Option (Fld × Int × Int × Int)
 | 0, _, _, _, _ => none
 | k + 1, F, x, y, s => if -B ≤ x ∧ x ≤ B ∧ -B ≤ y ∧ y ≤ B then
   match F x y with
   | none => some (F, x, y, s)
   | some r => run ex B mv k (upd F x y ((r + 1) % ex)) (mv ((r + 1) % ex) x y).1 (mv ((r + 1) % ex) x y).2 (s + 1)
  else none
structure St where
 f : Fld
 cells : List (Int × Int)
 steps : Int
def chips (ex B : Int) (mv : Int → Int → Int → Int × Int) (K : Nat) (k0 : Int) : Nat → St → Option St
 | 0, S => some S
 | n + 1, S => (run ex B mv K S.f 0 0 S.steps).bind fun o => chips ex B mv K k0 n ⟨upd o.1 o.2.1 o.2.2.1 k0, S.cells ++ [(o.2.1, o.2.2.1)], o.2.2.2⟩
def st0 : St := ⟨fun _ _ => none, [], 0⟩
end Go.Proofs.Ytjedhjeijpbobaa.G8
namespace Go.Proofs.Ytjedhjeijpbobaa.G8
def psum (f : Int → Int) : Nat → Int → Int
 | 0, _ => 0
 | n + 1, lo => f lo + psum f n (lo + 1)
theorem psum_far (f g : Int → Int) : ∀ (n : Nat) (lo : Int), (∀ c, lo ≤ c → c < lo + n → f c = g c) → psum f n lo = psum g n lo
 | 0, _, _ => rfl
 | n + 1, lo, h => by
  simp only [psum]
  rw [h lo (by omega) (by omega), psum_far f g n (lo + 1) (fun c h1 h2 => h c (by omega) (by omega))]
theorem psum_upd (f g : Int → Int) (x : Int) (hg : ∀ c, c ≠ x → g c = f c) : ∀ (n : Nat) (lo : Int), lo ≤ x → x < lo + n → psum g n lo = psum f n lo + (g x - f x)
 | 0, lo, h1, h2 => by omega
 | n + 1, lo, h1, h2 => by
  simp only [psum]
  by_cases e : lo = x
  ·subst e
   rw [psum_far g f n (lo + 1) (fun c h3 h4 => hg c (by omega))]
   omega
  ·rw [hg lo e, psum_upd f g x hg n (lo + 1) (by omega) (by omega)]
   omega
theorem psum_bd (f : Int → Int) (B : Int) : ∀ (n : Nat) (lo : Int), (∀ c, lo ≤ c → c < lo + n → -B ≤ f c ∧ f c ≤ B) → -(n * B) ≤ psum f n lo ∧ psum f n lo ≤ n * B
 | 0, _, _ => by simp [psum]
 | n + 1, lo, h => by
  have h0 := h lo (by omega) (by omega)
  have h1 := psum_bd f B n (lo + 1) (fun c h2 h3 => h c (by omega) (by omega))
  simp only [psum]
  have e : ((n + 1 : Nat) : Int) * B = n * B + B := by rw [Int.natCast_add, Int.add_mul]; simp
  rw [e]
  omega
def wt (F : Fld) (c : Int) : Int := if F c 0 = some 0 then -c else c
theorem sq_bd (x : Int) (h0 : -301 ≤ x) (h1 : x ≤ 301) : 0 ≤ x * x ∧ x * x ≤ 90601 := by
 have h := Nat.mul_le_mul (show x.natAbs ≤ 301 by omega) (show x.natAbs ≤ 301 by omega)
 rw [← Int.natAbs_mul] at h
 have h2 : 0 ≤ x * x := by
  rcases Int.le_total 0 x with h3 | h3
  ·exact Int.mul_nonneg h3 h3
  ·have := Int.mul_nonneg (show 0 ≤ -x by omega) (show 0 ≤ -x by omega)
   rwa [Int.neg_mul_neg] at this
 generalize x * x = z at *
 omega
structure Line (F : Fld) (lo : Int) (n : Nat) : Prop where
 on : ∀ c, lo ≤ c → c < lo + n → F c 0 = some 0 ∨ F c 0 = some 1
 off : ∀ a b, ¬ (b = 0 ∧ lo ≤ a ∧ a < lo + n) → F a b = none
def pot (F : Fld) (lo : Int) (n : Nat) (x : Int) : Int := x * x + psum (wt F) n lo
theorem pot_bd {F : Fld} {lo : Int} {n : Nat} {x : Int} (hn : n ≤ 250) (h0 : -250 ≤ lo) (h1 : lo ≤ 1) (hx0 : lo - 1 ≤ x) (hx1 : x ≤ lo + n) : -62500 ≤ pot F lo n x ∧ pot F lo n x ≤ 153101 := by
 have hb := psum_bd (wt F) 250 n lo (fun c h2 h3 => by unfold wt; split <;> omega)
 have hs := sq_bd x (by omega) (by omega)
 unfold pot
 omega
theorem line_step {F : Fld} {lo x r : Int} {n : Nat} (L : Line F lo n) (h0 : lo ≤ x) (h1 : x < lo + n) (hr : F x 0 = some r) :
  Line (upd F x 0 ((r + 1) % 2)) lo n ∧ pot (upd F x 0 ((r + 1) % 2)) lo n (mv2 ((r + 1) % 2) x 0).1 = pot F lo n x + 1 ∧ (mv2 ((r + 1) % 2) x 0).2 = 0 ∧ lo - 1 ≤ (mv2 ((r + 1) % 2) x 0).1 ∧ (mv2 ((r + 1) % 2) x 0).1 ≤ lo + n := by
 have hu : ∀ c r1, c ≠ x → upd F x 0 r1 c 0 = F c 0 := fun c r1 hc => by unfold upd; rw [if_neg (fun e => hc e.1)]
 have hu0 : ∀ r1, upd F x 0 r1 x 0 = some r1 := fun r1 => by unfold upd; rw [if_pos ⟨rfl, rfl⟩]
 have hL : ∀ r1, r1 = 0 ∨ r1 = 1 → Line (upd F x 0 r1) lo n := fun r1 h => by
  refine ⟨fun c h2 h3 => ?_, fun a b hab => ?_⟩
  ·by_cases e : c = x
   ·subst e; rw [hu0]; rcases h with rfl | rfl <;> simp
   ·rw [hu c r1 e]; exact L.on c h2 h3
  ·have hne : ¬ (a = x ∧ b = 0) := fun e => hab ⟨e.2, by omega, by omega⟩
   unfold upd
   rw [if_neg hne]
   exact L.off a b hab
 have hp : ∀ r1, psum (wt (upd F x 0 r1)) n lo = psum (wt F) n lo + (wt (upd F x 0 r1) x - wt F x) := fun r1 => psum_upd _ _ x (fun c hc => by unfold wt; rw [hu c r1 hc]) n lo h0 h1
 have hsq1 : (x + 1) * (x + 1) = x * x + 2 * x + 1 := by rw [Int.add_mul, Int.mul_add]; omega
 have hsq2 : (x - 1) * (x - 1) = x * x - 2 * x + 1 := by rw [Int.sub_mul, Int.mul_sub]; omega
 rcases L.on x h0 h1 with h | h
 ·rw [h] at hr
  cases hr
  have e : ((0 : Int) + 1) % 2 = 1 := by decide
  rw [e]
  have e1 : mv2 1 x 0 = (x - 1, 0) := by unfold mv2; rw [if_neg (by omega)]
  rw [e1]
  refine ⟨hL 1 (.inr rfl), ?_, rfl, by simp only; omega, by simp only; omega⟩
  unfold pot
  rw [hp, hsq2]
  have w1 : wt (upd F x 0 1) x = x := by unfold wt; rw [hu0, if_neg (by decide)]
  have w2 : wt F x = -x := by unfold wt; rw [h, if_pos rfl]
  rw [w1, w2]
  omega
 ·rw [h] at hr
  cases hr
  have e : ((1 : Int) + 1) % 2 = 0 := by decide
  rw [e]
  have e1 : mv2 0 x 0 = (x + 1, 0) := by unfold mv2; rw [if_pos rfl]
  rw [e1]
  refine ⟨hL 0 (.inl rfl), ?_, rfl, by simp only; omega, by simp only; omega⟩
  unfold pot
  rw [hp, hsq1]
  have w1 : wt (upd F x 0 0) x = -x := by unfold wt; rw [hu0, if_pos rfl]
  have w2 : wt F x = x := by unfold wt; rw [h, if_neg (by decide)]
  rw [w1, w2]
  omega
theorem line_run {lo : Int} {n : Nat} (hn : n ≤ 250) (hlo : -250 ≤ lo) (hl1 : lo ≤ 1) (hhi : lo + n ≤ 251) : ∀ (k : Nat) (F : Fld) (x s : Int), Line F lo n → lo - 1 ≤ x → x ≤ lo + n → 153102 - pot F lo n x ≤ k →
  ∃ F1 x1 s1, run 2 300 mv2 (k + 1) F x 0 s = some (F1, x1, 0, s1) ∧ Line F1 lo n ∧ (x1 = lo - 1 ∨ x1 = lo + n) ∧ s ≤ s1 ∧ s1 ≤ s + k := by
 intro k
 induction k with
 | zero =>
  intro F x s L h0 h1 hk
  have := (pot_bd (F := F) hn hlo hl1 h0 h1).2
  omega
 | succ k ih =>
  intro F x s L h0 h1 hk
  by_cases hin : lo ≤ x ∧ x < lo + n
  ·obtain ⟨r, hr⟩ : ∃ r, F x 0 = some r := by rcases L.on x hin.1 hin.2 with h | h <;> exact ⟨_, h⟩
   obtain ⟨L1, hp, hm, h2, h3⟩ := line_step L hin.1 hin.2 hr
   unfold run
   rw [if_pos (by omega), hr]
   simp only
   rw [hm]
   obtain ⟨F1, x1, s1, hrun, L2, hx, hs0, hs1⟩ := ih _ _ (s + 1) L1 h2 h3 (by omega)
   exact ⟨F1, x1, s1, hrun, L2, hx, by omega, by omega⟩
  ·unfold run
   rw [if_pos (by omega), L.off x 0 (fun h => hin h.2)]
   exact ⟨F, x, s, rfl, L, by omega, by omega, by omega⟩
theorem line_chips (k0 : Int) (hk : k0 = 0 ∨ k0 = 1) : ∀ (m n : Nat) (lo : Int) (F : Fld) (cs : List (Int × Int)) (s : Int), n + m ≤ 250 → -n ≤ lo → lo ≤ 1 → 0 < lo + n → lo + n ≤ n + 1 → Line F lo n →
  ∃ S lo1, chips 2 300 mv2 215603 k0 m ⟨F, cs, s⟩ = some S ∧ Line S.f lo1 (n + m) ∧ lo1 ≤ 1 ∧ 0 < lo1 + (n + m : Nat) ∧ -(n + m : Nat) ≤ lo1 ∧ s ≤ S.steps ∧ S.steps ≤ s + 215603 * m := by
 intro m
 induction m with
 | zero =>
  intro n lo F cs s hnm h0 h1 h2 h3 L
  exact ⟨_, lo, rfl, L, h1, h2, h0, by simp, by simp⟩
 | succ m ih =>
  intro n lo F cs s hnm h0 h1 h2 h3 L
  have hp := (pot_bd (F := F) (x := 0) (show n ≤ 250 by omega) (by omega) h1 (by omega) (by omega)).1
  obtain ⟨F1, x1, s1, hrun, L1, hx, hs0, hs1⟩ := line_run (show n ≤ 250 by omega) (by omega) h1 (by omega) 215602 F 0 s L (by omega) (by omega) (by omega)
  simp only [chips]
  rw [hrun, Option.bind_some]
  simp only
  have hu : ∀ lo2 : Int, (lo2 = lo ∧ x1 = lo + n ∨ lo2 = lo - 1 ∧ x1 = lo - 1) → Line (upd F1 x1 0 k0) lo2 (n + 1) := fun lo2 hlo => by
   refine ⟨fun c h4 h5 => ?_, fun a b hab => ?_⟩
   ·by_cases e : c = x1
    ·subst e; unfold upd; rw [if_pos ⟨rfl, rfl⟩]; rcases hk with rfl | rfl <;> simp
    ·unfold upd; rw [if_neg (fun h => e h.1)]; exact L1.on c (by omega) (by omega)
   ·unfold upd
    rw [if_neg (fun h => hab ⟨h.2, by omega, by omega⟩)]
    exact L1.off a b (fun h => hab ⟨h.1, by omega, by omega⟩)
  rcases hx with hx | hx
  ·obtain ⟨S, lo1, hS, L2, g1, g2, g3, g4, g5⟩ := ih (n + 1) (lo - 1) (upd F1 x1 0 k0) (cs ++ [(x1, 0)]) s1 (by omega) (by omega) (by omega) (by omega) (by omega) (hu _ (.inr ⟨rfl, hx⟩))
   have e : n + 1 + m = n + (m + 1) := by omega
   rw [e] at L2 g2 g3
   exact ⟨S, lo1, hS, L2, g1, g2, g3, by omega, by omega⟩
  ·obtain ⟨S, lo1, hS, L2, g1, g2, g3, g4, g5⟩ := ih (n + 1) lo (upd F1 x1 0 k0) (cs ++ [(x1, 0)]) s1 (by omega) (by omega) (by omega) (by omega) (by omega) (hu _ (.inl ⟨rfl, hx⟩))
   have e : n + 1 + m = n + (m + 1) := by omega
   rw [e] at L2 g2 g3
   exact ⟨S, lo1, hS, L2, g1, g2, g3, by omega, by omega⟩
theorem line_n (n : Nat) (k0 : Int) (hn : n ≤ 250) (hk : k0 = 0 ∨ k0 = 1) : ∃ S, chips 2 300 mv2 215603 k0 n st0 = some S := by
 obtain ⟨S, lo1, h, _⟩ := line_chips k0 hk n 0 1 (fun _ _ => none) [] 0 (by omega) (by omega) (by omega) (by omega) (by omega) ⟨fun c h0 h1 => by omega, fun a b h => rfl⟩
 exact ⟨S, h⟩
end Go.Proofs.Ytjedhjeijpbobaa.G8
namespace Go.Proofs.Ytjedhjeijpbobaa.G8
open Go.RowKit YtjedhjeijpbobaaW.PrintWords YtjedhjeijpbobaaW.PrintLast YtjedhjeijpbobaaW.PrintMore
theorem wrap_id {x : Int} (h0 : -9223372036854775808 ≤ x) (h1 : x ≤ 9223372036854775807) : wrap64 x = x := by unfold wrap64; omega
set_option maxHeartbeats 4000000 in
set_option maxRecDepth 100000 in
theorem exit0 (x y : Int) (w : World) (hx : -100000 ≤ x ∧ x ≤ 100000) (hy : -100000 ≤ y ∧ y ≤ 100000) :
  Calls Try.prog 98 #[.agg #[.int .i64 x, .int .i64 y], .int .i64 0] w fun e w' => e = .returned (.agg #[.int .i64 (x + 1), .int .i64 y]) ∧ Below w.heap.size w w' := by
 have hw := wrap_id (x := x + 1) (by omega) (by omega)
 have hu76 := Try.underlying76
 clear hx hy
 go_enter Try.func98, Try.ntmps98
 go_wp2
 refine bodyPost_ret (v := .agg #[.int .i64 (x + 1), .int .i64 y]) (by simp [results, Try.results98, go_sem]) rfl ⟨rfl, ?_⟩
 exact ((Below.refl _ _).alloc (Nat.le_refl _) _).alloc (by simp) _
set_option maxHeartbeats 4000000 in
set_option maxRecDepth 100000 in
theorem exit1 (x y : Int) (w : World) (hx : -100000 ≤ x ∧ x ≤ 100000) (hy : -100000 ≤ y ∧ y ≤ 100000) :
  Calls Try.prog 98 #[.agg #[.int .i64 x, .int .i64 y], .int .i64 1] w fun e w' => e = .returned (.agg #[.int .i64 x, .int .i64 (y + 1)]) ∧ Below w.heap.size w w' := by
 have hw := wrap_id (x := y + 1) (by omega) (by omega)
 have hu76 := Try.underlying76
 clear hx hy
 go_enter Try.func98, Try.ntmps98
 go_wp2
 refine bodyPost_ret (v := .agg #[.int .i64 x, .int .i64 (y + 1)]) (by simp [results, Try.results98, go_sem]) rfl ⟨rfl, ?_⟩
 exact ((Below.refl _ _).alloc (Nat.le_refl _) _).alloc (by simp) _
set_option maxHeartbeats 4000000 in
set_option maxRecDepth 100000 in
theorem exit2 (x y : Int) (w : World) (hx : -100000 ≤ x ∧ x ≤ 100000) (hy : -100000 ≤ y ∧ y ≤ 100000) :
  Calls Try.prog 98 #[.agg #[.int .i64 x, .int .i64 y], .int .i64 2] w fun e w' => e = .returned (.agg #[.int .i64 (x - 1), .int .i64 y]) ∧ Below w.heap.size w w' := by
 have hw := wrap_id (x := x - 1) (by omega) (by omega)
 have hu76 := Try.underlying76
 clear hx hy
 go_enter Try.func98, Try.ntmps98
 go_wp2
 refine bodyPost_ret (v := .agg #[.int .i64 (x - 1), .int .i64 y]) (by simp [results, Try.results98, go_sem]) rfl ⟨rfl, ?_⟩
 exact ((Below.refl _ _).alloc (Nat.le_refl _) _).alloc (by simp) _
set_option maxHeartbeats 4000000 in
set_option maxRecDepth 100000 in
theorem exit3 (x y : Int) (w : World) (hx : -100000 ≤ x ∧ x ≤ 100000) (hy : -100000 ≤ y ∧ y ≤ 100000) :
  Calls Try.prog 98 #[.agg #[.int .i64 x, .int .i64 y], .int .i64 3] w fun e w' => e = .returned (.agg #[.int .i64 x, .int .i64 (y - 1)]) ∧ Below w.heap.size w w' := by
 have hw := wrap_id (x := y - 1) (by omega) (by omega)
 have hu76 := Try.underlying76
 clear hx hy
 go_enter Try.func98, Try.ntmps98
 go_wp2
 refine bodyPost_ret (v := .agg #[.int .i64 x, .int .i64 (y - 1)]) (by simp [results, Try.results98, go_sem]) rfl ⟨rfl, ?_⟩
 exact ((Below.refl _ _).alloc (Nat.le_refl _) _).alloc (by simp) _
theorem blk_two (w : World) (o1 o2 : Obj) : ((w.alloc o1).alloc o2).heap[w.heap.size + 1]? = some o2 := by
 have h := blk_new (w.alloc o1) o2
 simpa using h
theorem exit_calls (x y r : Int) (w : World) (hx : -100000 ≤ x ∧ x ≤ 100000) (hy : -100000 ≤ y ∧ y ≤ 100000) (hr : 0 ≤ r ∧ r ≤ 3) :
  Calls Try.prog 98 #[.agg #[.int .i64 x, .int .i64 y], .int .i64 r] w fun e w' => e = .returned (.agg #[.int .i64 (mv4 r x y).1, .int .i64 (mv4 r x y).2]) ∧ Below w.heap.size w w' := by
 rcases (show r = 0 ∨ r = 1 ∨ r = 2 ∨ r = 3 by omega) with rfl | rfl | rfl | rfl
 ·exact exit0 x y w hx hy
 ·exact exit1 x y w hx hy
 ·exact exit2 x y w hx hy
 ·exact exit3 x y w hx hy
set_option maxHeartbeats 4000000 in
set_option maxRecDepth 100000 in
theorem line_exit (x y r : Int) (w : World) (hx : -100000 ≤ x ∧ x ≤ 100000) (hy : -100000 ≤ y ∧ y ≤ 100000) (hr : 0 ≤ r ∧ r ≤ 1) :
  Calls Try.prog 99 #[.agg #[.int .i64 x, .int .i64 y], .int .i64 r] w fun e w' => e = .returned (.agg #[.int .i64 (mv2 r x y).1, .int .i64 (mv2 r x y).2]) ∧ Below w.heap.size w w' := by
 have hw := wrap_id (x := 2 * r) (by omega) (by omega)
 have hu76 := Try.underlying76
 have hm : mv4 (2 * r) x y = mv2 r x y := by
  unfold mv4 mv2
  rcases (show r = 0 ∨ r = 1 by omega) with rfl | rfl <;> simp
 have HE := fun W => exit_calls x y (2 * r) W hx hy (by omega)
 rw [hm] at HE
 replace HE := Aside0.mk HE
 clear hx hy hr hm
 generalize mv2 r x y = q at *
 go_enter Try.func99, Try.ntmps99
 go_wp2_with (first | (go_at_call 98; refine (HE.out _).mono ?_; rintro e w1 ⟨rfl, hB⟩; have BK := ((hB.block (w.heap.size + 1) (by simp)).trans (blk_two w (.cells #[.int .i64 x, .int .i64 y] 76) (.cells #[.int .i64 0, .int .i64 0] 76))); have k0 := blk_cell BK 0; have k1 := blk_cell BK 1; have fz := kF_ BK; simp at k0 k1; have HB := Aside0.mk hB; clear hB BK))
 refine bodyPost_ret (v := .agg #[.int .i64 q.1, .int .i64 q.2]) (by simp [results, Try.results99, go_sem, k0, k1]) rfl ⟨rfl, ?_⟩
 exact bS_ (bS_ (below_then (((Below.refl _ _).alloc (Nat.le_refl _) _).alloc (by simp) _) (by simp; omega) HB.out) (Nat.le_succ _)) (Nat.le_succ _)
end Go.Proofs.Ytjedhjeijpbobaa.G8
namespace Go.Proofs.Ytjedhjeijpbobaa.G8
open Go.RowKit Go.Maps YtjedhjeijpbobaaW.PrintWords YtjedhjeijpbobaaW.PrintLast YtjedhjeijpbobaaW.PrintMore
theorem laidOut : laidOutB Try.prog = true := by kernel_rfl
theorem row76 : (76 : TypeId) < Try.prog.types.size := of_decide_eq_true (by kernel_rfl)
theorem keyAt76 : Try.prog.keyTypeAt 2 76 = true := by kernel_rfl
theorem klaw76 : WideMaps.KeyLaw Try.prog 76 := deep_law_laid laidOut (m := 2) (by omega) row76 keyAt76 (by rw [Try.underlying76])
theorem law76 : Keyed Try.prog 76 := Keyed.of_law klaw76
theorem cells76 : Try.prog.cellsOf 76 = 2 := by kernel_rfl
theorem cells3 : Try.prog.cellsOf 3 = 1 := by kernel_rfl
theorem keyType76 : Try.prog.keyType 76 = true := by kernel_rfl
theorem zero3 (w : World) : (zeroValue 3).run Try.prog w = .ok (.int .i64 0) w := by kernel_rfl
abbrev cellV (x y : Int) : Value := .agg #[.int .i64 x, .int .i64 y]
def keyLit (x y : Int) : Lit := .string (keyBytes [.int .i64 x, .int .i64 y])
theorem key_lits (d : Nat) (x y : Int) (hx : (Lit.int .i64 x).wf = true) (hy : (Lit.int .i64 y).wf = true) : Try.prog.keyLits (d + 2) 76 [.int .i64 x, .int .i64 y] = some [.int .i64 x, .int .i64 y] := by
 unfold Program.keyLits
 rw [Try.underlying76]
 simp [cells76, cells3, Program.keyLits, Try.underlying3, hx, hy]
theorem key_is (x y : Int) (hx : (Lit.int .i64 x).wf = true) (hy : (Lit.int .i64 y).wf = true) : keyOf Try.prog 76 (cellV x y) = some (keyLit x y) := by
 obtain ⟨d, hd⟩ : ∃ d, Try.prog.types.size + 1 = d + 2 := ⟨Try.prog.types.size - 1, by have h : 76 < Try.prog.types.size := row76; omega⟩
 have hf : (cellV x y).formed Try.prog 76 = true := by simp [Value.formed, Try.underlying76, cells76]
 have hc : (cellV x y).cells.toList = [.int .i64 x, .int .i64 y] := rfl
 unfold keyOf
 rw [Try.underlying76, keyType76, hf, hc, hd, key_lits d x y hx hy]
 rfl
structure FieldIs {H : Type} (D : DataW H) (F : Fld) : Prop where
 has : ∀ x y : Int, (Lit.int .i64 x).wf = true → (Lit.int .i64 y).wf = true → Maps.has D (keyLit x y) = (F x y).isSome
 val : ∀ (x y r : Int), (Lit.int .i64 x).wf = true → (Lit.int .i64 y).wf = true → F x y = some r → D.atKey (keyLit x y) (.lit (.int .i64 0)) = .lit (.int .i64 r)
theorem key_ne {x y a b : Int} (hx : (Lit.int .i64 x).wf = true) (hy : (Lit.int .i64 y).wf = true) (ha : (Lit.int .i64 a).wf = true) (hb : (Lit.int .i64 b).wf = true) (h : ¬ (a = x ∧ b = y)) : keyLit a b ≠ keyLit x y := by
 intro e
 have h1 := key_is a b ha hb
 rw [e] at h1
 have h2 := law76.inj h1 (key_is x y hx hy)
 injection h2 with h2
 apply h
 have h3 := congrArg Array.toList h2
 simp at h3
 exact h3
theorem FieldIs.put {H : Type} {D : DataW H} {F : Fld} (h : FieldIs D F) (hD : IsMap D) {x y r : Int} (hx : (Lit.int .i64 x).wf = true) (hy : (Lit.int .i64 y).wf = true) : FieldIs (D.put (keyLit x y) (.lit (.int .i64 r))) (upd F x y r) := by
 have hk : WideAt.IsKeyLit (keyLit x y) := law76.key (key_is x y hx hy)
 refine ⟨fun a b ha hb => ?_, fun a b r1 ha hb hr => ?_⟩
 ·unfold upd
  by_cases e : a = x ∧ b = y
  ·rw [if_pos e, e.1, e.2, Maps.has_put_same hD hk]; rfl
  ·rw [if_neg e, Maps.has_put_other (key_ne hx hy ha hb e)]; exact h.has a b ha hb
 ·unfold upd at hr
  by_cases e : a = x ∧ b = y
  ·rw [if_pos e] at hr
   cases hr
   rw [e.1, e.2, Maps.atKey_put_same hD hk]
  ·rw [if_neg e] at hr
   rw [Maps.atKey_put_other (key_ne hx hy ha hb e)]
   exact h.val a b r1 ha hb hr
theorem FieldIs.nil {H : Type} : FieldIs (DataW.map (H := H) []) (fun _ _ => none) := ⟨fun _ _ _ _ => rfl, fun _ _ _ _ _ h => by cases h⟩
end Go.Proofs.Ytjedhjeijpbobaa.G8
namespace Go.Proofs.Ytjedhjeijpbobaa.G8
open Go.RowKit Go.Maps YtjedhjeijpbobaaW.PrintWords YtjedhjeijpbobaaW.PrintLast YtjedhjeijpbobaaW.PrintMore
def flat (cs : List (Int × Int)) : List Value := cs.flatMap fun c => [.int .i64 c.1, .int .i64 c.2]
theorem flat_app (cs : List (Int × Int)) (x y : Int) : flat (cs ++ [(x, y)]) = flat cs ++ [.int .i64 x, .int .i64 y] := by simp [flat]
def MapIs (w : World) (gm N : Nat) (F : Fld) : Prop := ∃ D : DataW Nat, w.ownsMap Try.prog 76 (plainElem Try.prog 3) gm N D ∧ FieldIs D F
structure GroAt (w : World) (base g gm N : Nat) (vc : Value) (F : Fld) (cs : List (Int × Int)) (s : Int) : Prop where
 hg : base ≤ g
 hm : base ≤ gm
 blk : w.heap[g]? = some (.cells #[.map (some gm), vc, .int .i64 s] 70 (0, 0))
 map : MapIs w gm N F
 cells : w.ownsRow base 76 2 vc cs.length (flat cs)
 apart : vc.ownBlock ≠ some g ∧ vc.ownBlock ≠ some gm
def GroOut (w : World) (S : St) (e : Ending) (w' : World) : Prop := ∃ g gm N vc, e = .returned (.pointer (some ⟨g, 0, none⟩)) ∧ Below w.heap.size w w' ∧ Aside0 (GroAt w' w.heap.size g gm N vc S.f S.cells S.steps)
theorem MapIs.move {w w1 : World} {gm N : Nat} {F : Fld} (h : MapIs w gm N F) (e : w1.heap[gm]? = w.heap[gm]?) : MapIs w1 gm N F := by
 obtain ⟨D, ⟨es, clock, hb, r⟩, hf⟩ := h
 exact ⟨D, ⟨es, clock, e.trans hb, r⟩, hf⟩
section
variable {w w1 : World} {base g gm N : Nat} {vc : Value} {F : Fld} {cs : List (Int × Int)} {s : Int}
theorem GroAt.ne (h : GroAt w base g gm N vc F cs s) : g ≠ gm := by
 obtain ⟨D, ⟨es, clock, hb, _⟩, _⟩ := h.map
 rintro rfl
 have := h.blk
 rw [hb] at this
 simp at this
theorem GroAt.keep (h : GroAt w base g gm N vc F cs s) (e : ∀ b, b = g ∨ b = gm ∨ vc.ownBlock = some b → w1.heap[b]? = w.heap[b]?) : GroAt w1 base g gm N vc F cs s :=
 ⟨h.hg, h.hm, (e g (.inl rfl)).trans h.blk, h.map.move (e gm (.inr (.inl rfl))), own_move h.cells (fun k hk => e k (.inr (.inr hk))), h.apart⟩
theorem GroAt.lt (h : GroAt w base g gm N vc F cs s) {b : Nat} (hb : b = g ∨ b = gm ∨ vc.ownBlock = some b) : b < w.heap.size := by
 rcases hb with rfl | rfl | hb
 ·exact blk_lt h.blk
 ·obtain ⟨D, hm, _⟩ := h.map
  exact hm.lt
 ·exact own_lt h.cells _ hb
theorem GroAt.drew (h : GroAt w base g gm N vc F cs s) : GroAt w.drew base g gm N vc F cs s := h.keep fun _ _ => rfl
theorem GroAt.alloc (h : GroAt w base g gm N vc F cs s) (o : Obj) : GroAt (w.alloc o) base g gm N vc F cs s := h.keep fun b hb => (MapKept.heap_alloc w o).2 b (h.lt hb)
theorem GroAt.below (h : GroAt w base g gm N vc F cs s) (hB : Below w.heap.size w w1) : GroAt w1 base g gm N vc F cs s := h.keep fun b hb => hB.block b (h.lt hb)
theorem GroAt.far (h : GroAt w base g gm N vc F cs s) {A : Nat} (hA : ¬ (A = g ∨ A = gm ∨ vc.ownBlock = some A)) (i : Nat) (u : Value) : GroAt (w.setCell ⟨A, i, none⟩ u) base g gm N vc F cs s :=
 h.keep fun b hb => Below.heap_setCell _ _ _ _ (fun e => hA (by rw [show b = A from e] at hb; exact hb))
theorem GroAt.step (h : GroAt w base g gm N vc F cs s) (s1 : Int) : GroAt (w.setCell ⟨g, 2, none⟩ (.int .i64 s1)) base g gm N vc F cs s1 :=
 ⟨h.hg, h.hm, (blk_set h.blk 2 _).trans (by simp), h.map.move (Below.heap_setCell _ _ _ _ (fun e => h.ne e.symm)), own_setCell h.cells (fun e => h.apart.1 e.symm) _, h.apart⟩
theorem GroAt.store (h : GroAt w base g gm N vc F cs s) {F1 : Fld} {N1 : Nat} (hm : MapIs w1 gm N1 F1) (hg : w.grownBy w1 (some gm)) : GroAt w1 base g gm N1 vc F1 cs s :=
 ⟨h.hg, h.hm, (hg.block g (blk_lt h.blk) (fun e => h.ne (Option.some.inj e))).trans h.blk, hm, own_move h.cells (fun k hk => hg.block k (own_lt h.cells k hk) (fun e => h.apart.2 (hk.trans e))), h.apart⟩
end
def Rot (ex : Int) (F : Fld) : Prop := ∀ x y r, F x y = some r → 0 ≤ r ∧ r < ex
theorem Rot.upd {ex : Int} {F : Fld} (h : Rot ex F) {x y r : Int} (hr : 0 ≤ r ∧ r < ex) : Rot ex (upd F x y r) := by
 intro a b q hq
 unfold G8.upd at hq
 split at hq
 ·cases hq; exact hr
 ·exact h a b q hq
theorem GroAt.put {W : World} {base g gm N : Nat} {vc : Value} {F : Fld} {cs : List (Int × Int)} {s : Int} (h : GroAt W base g gm N vc F cs s) {x y r : Int} (hx : (Lit.int .i64 x).wf = true) (hy : (Lit.int .i64 y).wf = true) (hr : (Lit.int .i64 r).wf = true) (hN : N ≤ 80000000) :
  ∃ w8, (Instr.mapUpdate 67 (.map (some gm)) (.agg #[.int .i64 x, .int .i64 y]) (.int .i64 r)).run Try.prog W = .ok () w8 ∧ GroAt w8 base g gm (N + 1) vc (upd F x y r) cs s ∧ W.grownBy w8 (some gm) := by
 obtain ⟨D, hown, hfi⟩ := h.map
 obtain ⟨w8, h1, h2, h3⟩ := hown.update law76 Try.underlying67 (by unfold maxLen; omega) (key_is x y hx hy) (plainElem_int Try.underlying3 hr)
 exact ⟨w8, h1, h.store ⟨_, h2, hfi.put hown.isMap hx hy⟩ h3, h3⟩
theorem lastS_ {P : Program} {md : Region.Mode} {ops : Array Oper} {Q : Exit → Act → World → Prop} {S : World → Prop} {ds : List Nat} {i : Nat} {oi : Oper} {fuel : Nat} {l : Array Bool} {a : Act} {w w1 : World} (l' : Array Bool) (hi : ops[i]? = some oi) (hN : oi.dst = none) (hc : readyB md ops l l' i = true) (hd : i ∈ ds)
  (hw : Region.wanted oi (yielded ops a.tmps) = true) (hrun : (execOp a.eval oi).run P w = .ok .skip w1) (h : wpAnyLast P md ops Q S ds fuel l' a w1) : wpAnyLast P md ops Q S ds (fuel + 1) l a w :=
 last_ l' hi hN hc hd fun _ hK => skip_ hw hN hrun (hK.out _ _ h)
theorem GroAt.app {w w1 : World} {base g gm N : Nat} {vc : Value} {F : Fld} {cs : List (Int × Int)} {s x y : Int} {g1 cap : Nat} (h : GroAt w base g gm N vc F cs s)
  (hown : w1.ownsRow base 76 2 (.slice (some ⟨g1, 0, none⟩) (cs.length + 1) cap) (cs.length + 1) (flat cs ++ [.int .i64 x, .int .i64 y])) (hg : w.grownBy w1 vc.ownBlock) (hat : vc.ownBlock = some g1 ∨ g1 = w.heap.size) :
  w1.heap[g]? = some (.cells #[.map (some gm), vc, .int .i64 s] 70 (0, 0)) ∧ GroAt (w1.setCell ⟨g, 1, none⟩ (.slice (some ⟨g1, 0, none⟩) (cs.length + 1) cap)) base g gm N (.slice (some ⟨g1, 0, none⟩) (cs.length + 1) cap) F (cs ++ [(x, y)]) s := by
 have hb : w1.heap[g]? = some (.cells #[.map (some gm), vc, .int .i64 s] 70 (0, 0)) := (hg.block g (blk_lt h.blk) (fun e => h.apart.1 e.symm)).trans h.blk
 have hgl := h.lt (.inl rfl)
 have hml := h.lt (.inr (.inl rfl))
 have n1 : g1 ≠ g := by
  rcases hat with e | e
  ·intro e1; exact h.apart.1 (by rw [e, e1])
  ·omega
 have n2 : g1 ≠ gm := by
  rcases hat with e | e
  ·intro e1; exact h.apart.2 (by rw [e, e1])
  ·omega
 refine ⟨hb, h.hg, h.hm, (blk_set hb 1 _).trans (by simp), (h.map.move (hg.block gm hml (fun e => h.apart.2 e.symm))).move (Below.heap_setCell _ _ _ _ (fun e => h.ne e.symm)), ?_, ⟨fun e => n1 (by injection e), fun e => n2 (by injection e)⟩⟩
 have hl : (cs ++ [(x, y)]).length = cs.length + 1 := by simp
 rw [hl, flat_app]
 exact own_setCell hown (fun e => n1 (by injection e with e; exact e.symm)) _
theorem info76 : (Try.prog.info? 76).map (fun i => (i.zero, i.size, i.bytes)) = some (some (.agg #[.int .i64 0, .int .i64 0]), 2, 16) := by kernel_rfl
theorem step_appC {ops : Array Oper} {o : Oper} {a : Act} {K : Act → World → Prop} {Q : Exit → Act → World → Prop} {E : Prop} {w : World} {base g gm N : Nat} {vc : Value} {F : Fld} {cs : List (Int × Int)} {s x y : Int} (hgd : o.guard = none) (sv xv : Operand) (ho : o.op = .call { callee := .builtin .append, args := #[sv, xv], argTypes := #[68, 68] })
  (B : Nat) (hs : a.eval sv = vc) (hx : a.eval xv = .slice (some ⟨B, 0, none⟩) 1 1) (h : GroAt w base g gm N vc F cs s) (hbase : base ≤ w.heap.size) (hl : cs.length ≤ 1000000)
  (hb0 : w.cell? ⟨B, 0, none⟩ = some (.int .i64 x)) (hb1 : w.cell? ⟨B, 1, none⟩ = some (.int .i64 y))
  (k : ∀ g1 cap w1, w1.heap[g]? = some (.cells #[.map (some gm), vc, .int .i64 s] 70 (0, 0)) → GroAt (w1.setCell ⟨g, 1, none⟩ (.slice (some ⟨g1, 0, none⟩) (cs.length + 1) cap)) base g gm N (.slice (some ⟨g1, 0, none⟩) (cs.length + 1) cap) F (cs ++ [(x, y)]) s →
   w.grownBy w1 vc.ownBlock → Below base w w1 → K (a.put o.dst (.slice (some ⟨g1, 0, none⟩) (cs.length + 1) cap)) w1) :
  if Region.wanted o (yielded ops a.tmps) = true then Oper.wp Try.prog o a w K Q else E := by
 obtain ⟨i0, hi0, hz⟩ := Option.map_eq_some_iff.1 info76
 simp only [Prod.mk.injEq] at hz
 obtain ⟨hz0, hz1, hz2⟩ := hz
 refine step_append_lies w hgd sv xv 68 ho base 76 i0 (.agg #[.int .i64 0, .int .i64 0]) 2 16 Try.underlying68 hi0 hz0 hz1 hz2 rfl (by omega) vc cs.length (flat cs) hs h.cells ⟨B, 0, none⟩ 1 1 [.int .i64 x, .int .i64 y] hx rfl ?_ (by intro u hu; simp at hu; rcases hu with rfl | rfl <;> rfl) (by omega) (by unfold maxLen; omega) (by omega) hbase _ rfl ?_
 ·intro j u hj
  match j, hj with
  | 0, hj => simp at hj; subst hj; simpa [Addr.add] using hb0
  | 1, hj => simp at hj; subst hj; simpa [Addr.add] using hb1
 ·intro g1 cap w1 hown hg hat hlt
  obtain ⟨h1, h2⟩ := h.app hown hg hat
  exact k g1 cap w1 h1 h2 hg ((Below.refl base w).grown hg hbase (own_base h.cells))
theorem bd0 {i m n : Nat} (h : i + (m + 1) = n) : i + 1 + m = n := by omega
theorem bd4 (i : Nat) {m n : Nat} (h : i + (m + 1) = n) (hn : n ≤ 250) : wrap64 ((i : Int) + 1) = ((i + 1 : Nat) : Int) := by rw [wrap_id (by omega) (by omega)]; omega
theorem bd1 {N N1 K m q : Nat} (h1 : N1 + (q + 1) ≤ N + K) (h2 : N + (K + 1) * m + (K + 1) ≤ 75000250) : N1 + 1 + (K + 1) * m ≤ 75000250 := by
 generalize (K + 1) * m = z at *
 omega
theorem bd2 {s2 s0 : Int} {K m q : Nat} (h1 : 0 ≤ s2 ∧ s2 + ((q + 1 : Nat) : Int) ≤ s0 + (K : Int)) (h2 : s0 + ((K * m : Nat) : Int) + (K : Int) ≤ 75000000 ∧ 0 ≤ ((K * m : Nat) : Int)) : 0 ≤ s2 ∧ s2 + ((K * m : Nat) : Int) ≤ 75000000 := by
 generalize ((K * m : Nat) : Int) = z at *
 omega
theorem bd3 {cs : List (Int × Int)} {p : Int × Int} {m : Nat} (h : cs.length + (m + 1) ≤ 250) : (cs ++ [p]).length + m ≤ 250 := by
 rw [List.length_append, List.length_singleton]
 omega
theorem at_set {w : World} {A : Nat} {a b : Value} (h : w.heap[A]? = some (.cells #[a, b] 76 (0, 0))) (u v : Value) : ((w.setCell ⟨A, 0, none⟩ u).setCell ⟨A, 1, none⟩ v).heap[A]? = some (.cells #[u, v] 76 (0, 0)) :=
 (blk_set (blk_set h 0 u) 1 v).trans (by simp)
theorem GroAt.made (W : World) : GroAt ((W.alloc (.map #[] 0)).alloc (.cells #[.map (some W.heap.size), .slice none 0 0, .int .i64 0] 70)) W.heap.size (W.heap.size + 1) W.heap.size 0 (.slice none 0 0) (fun _ _ => none) [] 0 where
 hg := Nat.le_succ _
 hm := Nat.le_refl _
 blk := blk_two W _ _
 map := ⟨_, (World.ownsMap_made W Try.prog 76 (plainElem Try.prog 3)).alloc _, FieldIs.nil⟩
 cells := own_nil _ _ _ _
 apart := ⟨by simp [Value.ownBlock], by simp [Value.ownBlock]⟩
theorem i64_ok {x : Int} (h0 : -9223372036854775808 ≤ x) (h1 : x ≤ 9223372036854775807) : (Lit.int .i64 x).wf = true := by
 rw [← wrap_id h0 h1]
 exact wrap64_wf _
def T8 : Bool × List (List Nat × List Nat) := (true, [([], []), ([0], [0]), ([1], [1]), ([2], [2]), ([], []), ([], []), ([3, 4, 5, 0, 1, 2, 3, 4, 5], [3, 4, 5])])
def B8 : List Nat := [0, 1, 3, 7, 0, 0, 63]
theorem tab8 : rtab .any (opsOf Try.f97 8) = T8 := by kernel_rfl
theorem bits8 : waitsOk T8.2 B8 = true := by kernel_rfl
theorem tab11 : rtab .any (opsOf Try.f97 11) = T8 := by kernel_rfl
def T12 : Bool × List (List Nat × List Nat) := (true, [([], []), ([], []), ([1], [1]), ([2], [2]), ([3], [3]), ([], []), ([5], [5]), ([4, 6], [4, 6]), ([0, 0, 1, 2, 3, 4, 5, 6, 7], [0]), ([8, 0, 1, 2, 3, 4, 5, 6, 7], [8]), ([9, 7, 7, 0, 1, 2, 3, 4, 5, 6, 7], [7, 9])])
def B12 : List Nat := [0, 0, 2, 6, 14, 0, 32, 126, 255, 511, 1023]
theorem tab12 : rtab .any (opsOf Try.f97 12) = T12 := by kernel_rfl
theorem bits12 : waitsOk T12.2 B12 = true := by kernel_rfl
def T5 : Bool × List (List Nat × List Nat) := (true, [([], []), ([0], [0]), ([1], [1]), ([2], [2]), ([], []), ([3, 4], [3, 4]), ([5], [5]), ([6], [6]), ([6], [6]), ([7, 0, 1, 2, 3, 4, 5, 6, 7], [7]), ([8, 9, 0, 1, 2, 3, 4, 5, 6, 7, 8, 9], [8])])
def B5 : List Nat := [0, 1, 3, 7, 0, 31, 63, 127, 127, 255, 1023]
theorem tab5 : rtab .any (opsOf Try.f97 5) = T5 := by kernel_rfl
theorem bits5 : waitsOk T5.2 B5 = true := by kernel_rfl
end Go.Proofs.Ytjedhjeijpbobaa.G8
namespace Go.Proofs.Ytjedhjeijpbobaa.G8
open Go.RowKit Go.Maps YtjedhjeijpbobaaW.PrintWords YtjedhjeijpbobaaW.PrintLast YtjedhjeijpbobaaW.PrintMore
set_option maxHeartbeats 4000000 in
set_option maxRecDepth 100000 in
theorem grow_line (K : Nat) (k0 : Int) (n : Nat) (S : St) (w : World) (hK : K ≤ 300000) (hk0 : 0 ≤ k0 ∧ k0 < 2) (hn : n ≤ 250) (hS : chips 2 300 mv2 K k0 n st0 = some S) :
  Calls Try.prog 97 #[.int .i64 (n : Int), .int .i64 k0, .int .i64 2, .func (.func 99) #[] #[]] w (GroOut w S) := by
 have hu76 := Try.underlying76
 have hmm := @run_makeMap Try.prog
 have HS := Aside0.mk hS
 clear hS
 go_enter Try.func97, Try.ntmps97
 go_wp2
 go_loopg [17] n (fun m v17 wr => ∃ (i N : Nat) (vc : Value) (F : Fld) (cs : List (Int × Int)) (s : Int), v17 = .int .i64 (i : Int) ∧ Aside0 (i + m = n) ∧ Aside0 (chips 2 300 mv2 K k0 m ⟨F, cs, s⟩ = some S) ∧
  Aside0 (GroAt wr w.heap.size (w.heap.size + 1) w.heap.size N vc F cs s) ∧ Aside0 (N + (K + 1) * m ≤ 75000250) ∧ Aside0 (cs.length + m ≤ 250) ∧ Aside0 (0 ≤ s ∧ s + ((K * m : Nat) : Int) ≤ 75000000) ∧ Aside0 (Below w.heap.size w wr) ∧ Aside0 (Rot 2 F))
 case atStart => exact ⟨0, 0, _, _, _, _, rfl, ⟨by omega⟩, HS, ⟨GroAt.made w⟩, ⟨by have := Nat.mul_le_mul (show K + 1 ≤ 300001 by omega) hn; omega⟩, ⟨by simpa using hn⟩, ⟨by have := Nat.mul_le_mul hK hn; omega⟩, ⟨((Below.refl _ _).alloc (Nat.le_refl _) _).alloc (by simp) _⟩, ⟨fun _ _ _ h => by cases h⟩⟩
 case round =>
  clear HS
  obtain ⟨i, N, vc, F, cs, s, rfl, HI, HC, HG, HN, HL, HT, HB, HO⟩ := hrel
  cases gk with
  | zero =>
   have hi : ¬ ((i : Int) < (n : Int)) := by have := HI.out; omega
   have hc := HC.out
   simp only [chips, Option.some.injEq] at hc
   subst hc
   go_wp2_with (fail)
   refine bodyPost_ret (v := .pointer (some ⟨w.heap.size + 1, 0, none⟩)) (by simp [results, Try.results97, go_sem]) rfl ?_
   exact ⟨_, _, _, _, rfl, HB.out, HG⟩
  | succ m =>
   have hi : (i : Int) < (n : Int) := by have := HI.out; omega
   have hc := HC.out
   simp only [chips] at hc
   obtain ⟨⟨F1, x1, y1, s1⟩, hr, hc⟩ := Option.bind_eq_some_iff.1 hc
   have HR := Aside0.mk hr
   have HC1 := Aside0.mk hc
   clear hr hc HC
   have hgl := HG.out.lt (.inl rfl)
   have hml := HG.out.lt (.inr (.inl rfl))
   have hvl : vc.ownBlock ≠ some wr.heap.size := fun e => Nat.lt_irrefl _ (HG.out.lt (.inr (.inr e)))
   go_wp2_with (fail)
   obtain ⟨s0, hs0⟩ : ∃ s0, s0 = s := ⟨_, rfl⟩
   have hsK : s0 + ((K * m : Nat) : Int) + K ≤ 75000000 ∧ 0 ≤ ((K * m : Nat) : Int) := by have := HT.out; rw [Nat.mul_succ] at this; omega
   have hNK : N + (K + 1) * m + (K + 1) ≤ 75000250 := by have := HN.out; rw [Nat.mul_succ] at this; omega
   obtain ⟨Wo, hWo⟩ : ∃ W, W = wr := ⟨wr, rfl⟩
   subst hWo
   go_loopg [11] K (fun kq v11 wq => ∃ (N1 : Nat) (F : Fld) (x y s : Int), Aside0 (run 2 300 mv2 kq F x y s = some (F1, x1, y1, s1)) ∧ Aside0 (GroAt wq w.heap.size (w.heap.size + 1) w.heap.size N1 vc F cs s) ∧
    Aside0 (wq.heap[Wo.heap.size]? = some (.cells #[.int .i64 x, .int .i64 y] 76 (0, 0))) ∧ Aside0 (N1 + kq ≤ N + K) ∧ Aside0 (0 ≤ s ∧ s + kq ≤ s0 + K) ∧ Aside0 (Below w.heap.size w wq) ∧ Aside0 (Rot 2 F))
   case atStart => exact ⟨N, F, 0, 0, s, HR, ⟨HG.out.alloc _⟩, ⟨blk_new _ _⟩, ⟨Nat.le_refl _⟩, ⟨by have := HT.out; omega⟩, ⟨HB.out.alloc (by omega) _⟩, HO⟩
   case round =>
    clear HR HG HB HO
    obtain ⟨N1, F2, x, y, s2, HR, HG, HA, HN1, HS1, HB, HO⟩ := hrel
    cases gk with
    | zero => exact absurd HR.out (by simp [run])
    | succ q =>
     have hr := HR.out
     simp only [run] at hr
     split at hr
     case isFalse => cases hr
     rename_i hbox
     have hwx : (Lit.int .i64 x).wf = true := i64_ok (by omega) (by omega)
     have hwy : (Lit.int .i64 y).wf = true := i64_ok (by omega) (by omega)
     obtain ⟨D, hown, hfi⟩ := HG.out.drew.map
     obtain ⟨v, ps, hlook, hv⟩ := hown.look_ok law76 Try.underlying67 (zero3 _) (plainElem_int Try.underlying3 (by decide)) (key_is x y hwx hwy)
     obtain ⟨c, rfl, hc, hwc⟩ := plainElem_int_inv Try.underlying3 hv
     rw [hfi.has x y hwx hwy] at hlook
     have hat : ∀ r, F2 x y = some r → c = r := fun r h => by
      have h1 := hfi.val x y r hwx hwy h
      have h2 := congrArg Prod.fst hc
      simp only at h2
      rw [h1] at h2
      injection h2 with h2
      injection h2 with _ h2
      exact h2.symm
     have hat := Aside0.mk hat
     have hr := Aside0.mk hr
     have g0 := blk_cell HG.out.blk 0
     have a0 := blk_cell HA.out 0
     have a1 := blk_cell HA.out 1
     simp at g0 a0 a1
     clear hfi hv hc hown
     go_upto_region 5 with (fail)
     have HG1 := Aside0.mk HG.out.drew
     have HA1 : Aside0 (wr.drew.heap[Wo.heap.size]? = some (.cells #[.int .i64 x, .int .i64 y] 76 (0, 0))) := ⟨HA.out⟩
     have HB1 := Aside0.mk (below_drew HB.out)
     have g0 : wr.drew.cell? _ = _ := g0
     have a0 : wr.drew.cell? _ = _ := a0
     have a1 : wr.drew.cell? _ = _ := a1
     clear HG HA HB
     refine start_ (n := 11) (S := fun w' => w' = wr.drew) (ds := []) #[false, false, false, false, false, false, false, false, false, false, false] (by kernel_rfl) rfl rfl rfl (fun hHeld => ?_)
     refine with_tabW tab5 bits5 (fun HT_ HW_ => ?_)
     generalize wr.drew = W9 at *
     refine pu_ (i := 0) (N := some 21) (v := ?_) (a' := ?_) HT_.out rfl rfl (Or.inl ⟨by rfl, ?_⟩) ?_ ?_
     rotate_left
     ·intro w'
      go_simp
      with_reducible rfl
     rotate_left
     ·simp only [sp_]
      rfl
     refine pu_ (i := 1) (N := some 22) (v := ?_) (a' := ?_) HT_.out rfl rfl (Or.inl ⟨by rfl, ?_⟩) ?_ ?_
     rotate_left
     ·intro w'
      go_simp
      with_reducible rfl
     rotate_left
     ·simp only [sp_]
      rfl
     refine pu_ (i := 2) (N := some 23) (v := ?_) (a' := ?_) HT_.out rfl rfl (Or.inl ⟨by rfl, ?_⟩) ?_ ?_
     rotate_left
     ·intro w'
      go_simp
      with_reducible rfl
     rotate_left
     ·simp only [sp_]
      rfl
     refine tk_ (i := 3) (N := some 24) (v := ?_) (a' := ?_) HT_.out HW_.out rfl rfl (Or.inl ⟨by rfl, ?_⟩) hHeld ?_ ?_
     rotate_left
     ·intro w' hSw; subst hSw
      go_simp
      with_reducible rfl
     rotate_left
     ·simp only [sp_]
      rfl
     refine tk_ (i := 4) (N := some 25) (v := ?_) (a' := ?_) HT_.out HW_.out rfl rfl (Or.inl ⟨by rfl, ?_⟩) hHeld ?_ ?_
     rotate_left
     ·intro w' hSw; subst hSw
      go_simp
      with_reducible rfl
     rotate_left
     ·simp only [sp_]
      rfl
     refine tk_ (i := 5) (N := some 26) (v := ?_) (a' := ?_) HT_.out HW_.out rfl rfl (Or.inl ⟨by rfl, ?_⟩) hHeld ?_ ?_
     rotate_left
     ·intro w' hSw; subst hSw
      go_simp
      with_reducible rfl
     rotate_left
     ·simp only [sp_]
      rfl
     refine pu_ (i := 6) (N := some 20) (v := ?_) (a' := ?_) HT_.out rfl rfl (Or.inl ⟨by rfl, ?_⟩) ?_ ?_
     rotate_left
     ·intro w'
      go_simp
      with_reducible rfl
     rotate_left
     ·simp only [sp_]
      rfl
     refine pu_ (i := 7) (N := some 27) (v := ?_) (a' := ?_) HT_.out rfl rfl (Or.inl ⟨by rfl, ?_⟩) ?_ ?_
     rotate_left
     ·intro w'
      go_simp
      with_reducible rfl
     rotate_left
     ·simp only [sp_]
      rfl
     refine pu_ (i := 8) (N := some 28) (v := ?_) (a' := ?_) HT_.out rfl rfl (Or.inl ⟨by rfl, ?_⟩) ?_ ?_
     rotate_left
     ·intro w'
      go_simp
      with_reducible rfl
     rotate_left
     ·simp only [sp_]
      rfl
     refine pu_ (i := 9) (N := some 11) (v := ?_) (a' := ?_) HT_.out rfl rfl (Or.inl ⟨by rfl, ?_⟩) ?_ ?_
     rotate_left
     ·intro w'
      go_simp
      with_reducible rfl
     rotate_left
     ·simp only [sp_]
      rfl
     refine pu_ (i := 10) (N := some 12) (v := ?_) (a' := ?_) HT_.out rfl rfl (Or.inl ⟨by rfl, ?_⟩) ?_ ?_
     rotate_left
     ·intro w'
      go_simp
      with_reducible rfl
     rotate_left
     ·simp only [sp_]
      rfl
     refine done_ (done_of HT_.out (by kernel_rfl)) ?_
     clear hlook g0 a0 a1 hHeld HT_ HW_
     cases hF : F2 x y with
     | none =>
      have hr' := hr.out
      rw [hF] at hr'
      simp only [Option.some.injEq, Prod.mk.injEq] at hr'
      obtain ⟨rfl, rfl, rfl, rfl⟩ := hr'
      clear hr hat
      go_upto_region 11 with (fail)
      obtain ⟨w8, hst, HGx, hgr⟩ := HG1.out.drew.put hwx hwy (r := k0) (i64_ok (by omega) (by omega)) (by have := HN1.out; have := HN.out; omega)
      have HG2 := Aside0.mk HGx
      have hAl := blk_lt HA1.out
      have HA2 : Aside0 (w8.heap[Wo.heap.size]? = some (.cells #[.int .i64 x, .int .i64 y] 76 (0, 0))) := ⟨(hgr.block _ hAl (fun e => by injection e with e; omega)).trans HA1.out⟩
      have HB2 : Aside0 (Below w.heap.size w w8) := ⟨(below_drew HB1.out).grown hgr (by show w.heap.size ≤ W9.heap.size; omega) (fun j hj => by cases hj; exact Nat.le_refl _)⟩
      have g0 : W9.drew.cell? _ = _ := blk_cell HG1.out.blk 0
      have a0 : W9.drew.cell? _ = _ := blk_cell HA1.out 0
      have a1 : W9.drew.cell? _ = _ := blk_cell HA1.out 1
      simp at g0 a0 a1
      have g0 : W9.drew.cell? _ = _ := g0
      have a0 : W9.drew.cell? _ = _ := a0
      have a1 : W9.drew.cell? _ = _ := a1
      clear HG1 HA1 HB1 HGx hgr hAl
      refine start_ (n := 7) (S := fun w' => w' = W9.drew) (ds := [6]) #[false, false, false, false, false, false, false] (by kernel_rfl) rfl rfl rfl (fun hHeld => ?_)
      refine with_tabW tab11 bits8 (fun HT_ HW_ => ?_)
      generalize W9.drew = W8 at *
      refine pu_ (i := 0) (N := some 52) (v := ?_) (a' := ?_) HT_.out rfl rfl (Or.inl ⟨by rfl, ?_⟩) ?_ ?_
      rotate_left
      ·intro w'
       go_simp
       with_reducible rfl
      rotate_left
      ·simp only [sp_]
       rfl
      refine pu_ (i := 1) (N := some 53) (v := ?_) (a' := ?_) HT_.out rfl rfl (Or.inl ⟨by rfl, ?_⟩) ?_ ?_
      rotate_left
      ·intro w'
       go_simp
       with_reducible rfl
      rotate_left
      ·simp only [sp_]
       rfl
      refine pu_ (i := 2) (N := some 54) (v := ?_) (a' := ?_) HT_.out rfl rfl (Or.inl ⟨by rfl, ?_⟩) ?_ ?_
      rotate_left
      ·intro w'
       go_simp
       with_reducible rfl
      rotate_left
      ·simp only [sp_]
       rfl
      refine tk_ (i := 3) (N := some 55) (v := ?_) (a' := ?_) HT_.out HW_.out rfl rfl (Or.inl ⟨by rfl, ?_⟩) hHeld ?_ ?_
      rotate_left
      ·intro w' hSw; subst hSw
       go_simp
       with_reducible rfl
      rotate_left
      ·simp only [sp_]
       rfl
      refine tk_ (i := 4) (N := some 56) (v := ?_) (a' := ?_) HT_.out HW_.out rfl rfl (Or.inl ⟨by rfl, ?_⟩) hHeld ?_ ?_
      rotate_left
      ·intro w' hSw; subst hSw
       go_simp
       with_reducible rfl
      rotate_left
      ·simp only [sp_]
       rfl
      refine pu_ (i := 5) (N := some 57) (v := ?_) (a' := ?_) HT_.out rfl rfl (Or.inl ⟨by rfl, ?_⟩) ?_ ?_
      rotate_left
      ·intro w'
       go_simp
       with_reducible rfl
      rotate_left
      ·simp only [sp_]
       rfl
      refine lastS_ (i := 6) (w1 := w8) #[true, true, true, true, true, true, true] rfl rfl (one_of HT_.out (by kernel_rfl)) (by decide) (by rfl) ?_ ?_
      ·go_simp
      clear hst g0 a0 a1 hHeld
      (try simp only [Act.put, List.setIfInBounds_toArray, List.set_cons_zero, List.set_cons_succ])
      refine done_ (done_of HT_.out (by kernel_rfl)) ?_
      clear HT_ HW_
      go_upto_region 12 with (fail)
      have G3 := Aside0.mk HG2.out.drew
      have A3 : Aside0 (w8.drew.heap[Wo.heap.size]? = some (.cells #[.int .i64 x, .int .i64 y] 76 (0, 0))) := ⟨HA2.out⟩
      have L3 := Aside0.mk (below_drew HB2.out)
      have c1 := blk_cell G3.out.blk 1
      have b0 := blk_cell A3.out 0
      have b1 := blk_cell A3.out 1
      have s3 : w.heap.size ≤ w8.drew.heap.size := by have := blk_lt HA2.out; show w.heap.size ≤ w8.heap.size; omega
      simp only [List.getElem?_toArray, List.getElem?_cons_succ, List.getElem?_cons_zero] at c1 b0 b1
      clear HG2 HA2 HB2
      refine start_ (n := 11) (S := fun w' => w'.cell? ⟨w.heap.size + 1, 1, none⟩ = some vc ∧ w'.cell? ⟨Wo.heap.size, 0, none⟩ = some (.int .i64 x) ∧ w'.cell? ⟨Wo.heap.size, 1, none⟩ = some (.int .i64 y)) (ds := [10]) #[false, false, false, false, false, false, false, false, false, false, false] (by kernel_rfl) rfl rfl ⟨c1, b0, b1⟩ (fun hHeld => ?_)
      refine with_tabW tab12 bits12 (fun HT_ HW_ => ?_)
      generalize w8.drew = X2 at *
      refine pu_ (i := 0) (N := some 58) (v := ?_) (a' := ?_) HT_.out rfl rfl (Or.inl ⟨by rfl, ?_⟩) ?_ ?_
      rotate_left
      ·intro w'
       go_simp
       with_reducible rfl
      rotate_left
      ·simp only [sp_]
       rfl
      refine pu_ (i := 1) (N := some 59) (v := ?_) (a' := ?_) HT_.out rfl rfl (Or.inl ⟨by rfl, ?_⟩) ?_ ?_
      rotate_left
      ·intro w'
       go_simp
       with_reducible rfl
      rotate_left
      ·simp only [sp_]
       rfl
      refine pu_ (i := 2) (N := some 60) (v := ?_) (a' := ?_) HT_.out rfl rfl (Or.inl ⟨by rfl, ?_⟩) ?_ ?_
      rotate_left
      ·intro w'
       go_simp
       with_reducible rfl
      rotate_left
      ·simp only [sp_]
       rfl
      refine pu_ (i := 3) (N := some 61) (v := ?_) (a' := ?_) HT_.out rfl rfl (Or.inl ⟨by rfl, ?_⟩) ?_ ?_
      rotate_left
      ·intro w'
       go_simp
       with_reducible rfl
      rotate_left
      ·simp only [sp_]
       rfl
      refine tk_ (i := 4) (N := some 62) (v := ?_) (a' := ?_) HT_.out HW_.out rfl rfl (Or.inl ⟨by rfl, ?_⟩) hHeld ?_ ?_
      rotate_left
      ·intro w' hSw; obtain ⟨hS0, hS1, hS2⟩ := hSw
       go_simp
       with_reducible rfl
      rotate_left
      ·simp only [sp_]
       rfl
      refine tk_ (i := 5) (N := some 63) (v := ?_) (a' := ?_) HT_.out HW_.out rfl rfl (Or.inl ⟨by rfl, ?_⟩) hHeld ?_ ?_
      rotate_left
      ·intro w' hSw; obtain ⟨hS0, hS1, hS2⟩ := hSw
       go_simp
       with_reducible rfl
      rotate_left
      ·simp only [sp_]
       rfl
      refine one_ (i := 6) (N := some 64) #[true, true, true, true, true, true, true, false, false, false, false] rfl rfl (one_of HT_.out (by kernel_rfl)) (by decide) (fun K hK => ?_)
      refine value_ (v := .slice (some ⟨X2.heap.size, 0, none⟩) 1 1) (w1 := X2.alloc (.cells #[.int .i64 x, .int .i64 y] 76)) (by rfl) rfl (by go_simp) ?_
      have q0 : (X2.alloc (.cells #[.int .i64 x, .int .i64 y] 76)).cell? ⟨X2.heap.size, 0, none⟩ = some (.int .i64 x) := (blk_cell (blk_new X2 (.cells #[.int .i64 x, .int .i64 y] 76)) 0).trans rfl
      have q1 : (X2.alloc (.cells #[.int .i64 x, .int .i64 y] 76)).cell? ⟨X2.heap.size, 1, none⟩ = some (.int .i64 y) := (blk_cell (blk_new X2 (.cells #[.int .i64 x, .int .i64 y] 76)) 1).trans rfl
      have G4 := Aside0.mk (G3.out.alloc (.cells #[.int .i64 x, .int .i64 y] 76))
      have L4 := Aside0.mk (L3.out.alloc (by omega) (.cells #[.int .i64 x, .int .i64 y] 76))
      have A4 := Aside0.mk (((MapKept.heap_alloc X2 (.cells #[.int .i64 x, .int .i64 y] 76)).2 _ (blk_lt A3.out)).trans A3.out)
      have s4 : w.heap.size ≤ (X2.alloc (.cells #[.int .i64 x, .int .i64 y] 76)).heap.size := by simp; omega
      clear G3 L3 A3 hHeld s3
      generalize X2.alloc (.cells #[.int .i64 x, .int .i64 y] 76) = X3 at *
      generalize X2.heap.size = BT at *
      refine hK.out _ _ ⟨(blk_cell G4.out.blk 1).trans rfl, (blk_cell A4.out 0).trans rfl, (blk_cell A4.out 1).trans rfl⟩ (fun hHeld => ?_)
      clear hK K
      (try simp only [Act.put, List.setIfInBounds_toArray, List.set_cons_zero, List.set_cons_succ])
      refine one_ (i := 7) (N := some 65) #[true, true, true, true, true, true, true, true, false, false, false] rfl rfl (one_of HT_.out (by kernel_rfl)) (by decide) (fun K hK => ?_)
      refine step_appC rfl (.tmp 62) (.tmp 64) rfl BT rfl rfl G4.out s4 (by have := HL.out; omega) q0 q1 ?_
      intro g1 cap X4 hb4 hG5 hgr5 hB5
      have A5 := Aside0.mk ((hgr5.block _ (blk_lt A4.out) (fun e => hvl e.symm)).trans A4.out)
      have G5 := Aside0.mk hG5
      have L5 := Aside0.mk (L4.out.trans hB5)
      have c4 := blk_cell hb4 1
      have z4 := kF_ hb4 1
      simp at c4
      clear G4 L4 A4 hHeld hG5 hgr5 hB5 q0 q1
      refine hK.out _ _ ⟨c4, (blk_cell A5.out 0).trans rfl, (blk_cell A5.out 1).trans rfl⟩ (fun hHeld => ?_)
      clear hK K hb4
      (try simp only [Act.put, List.setIfInBounds_toArray, List.set_cons_zero, List.set_cons_succ])
      refine pu_ (i := 8) (N := some 66) (v := ?_) (a' := ?_) HT_.out rfl rfl (Or.inl ⟨by rfl, ?_⟩) ?_ ?_
      rotate_left
      ·intro w'
       go_simp
       with_reducible rfl
      rotate_left
      ·simp only [sp_]
       rfl
      refine pu_ (i := 9) (N := some 67) (v := ?_) (a' := ?_) HT_.out rfl rfl (Or.inl ⟨by rfl, ?_⟩) ?_ ?_
      rotate_left
      ·intro w'
       go_simp
       with_reducible rfl
      rotate_left
      ·simp only [sp_]
       rfl
      refine lastS_ (i := 10) (w1 := X4.setCell ⟨w.heap.size + 1, 1, none⟩ (.slice (some ⟨g1, 0, none⟩) (cs.length + 1) cap)) #[true, true, true, true, true, true, true, true, true, true, true] rfl rfl (one_of HT_.out (by kernel_rfl)) (by decide) (by rfl) ?_ ?_
      ·clear G5 L5 A5
       go_simp
      clear c4 z4 hHeld
      (try simp only [Act.put, List.setIfInBounds_toArray, List.set_cons_zero, List.set_cons_succ])
      refine done_ (done_of HT_.out (by kernel_rfl)) ?_
      clear HT_ HW_
      have hwi := bd4 i HI.out hn
      go_wp2_with (fail)
      go_roundg m
      case measure => omega
      case rel => exact ⟨i + 1, N1 + 1, _, _, _, s2, by first | rfl | go_num, ⟨bd0 HI.out⟩, HC1, G5, ⟨bd1 HN1.out hNK⟩, ⟨bd3 HL.out⟩, ⟨bd2 HS1.out hsK⟩, ⟨L5.out.setCell (p := ⟨w.heap.size + 1, 1, none⟩) (Nat.le_succ _) _⟩, ⟨HO.out.upd hk0⟩⟩
     | some r =>
      have hc : c = r := hat.out r hF
      subst hc
      have hr' := hr.out
      rw [hF] at hr'
      simp only at hr'
      have HR1 := Aside0.mk hr'
      have hc4 := HO.out x y c hF
      have hw1 : wrap64 (c + 1) = c + 1 := wrap_id (by omega) (by omega)
      have hw2 : Int.tmod (c + 1) 2 = (c + 1) % 2 := Int.tmod_eq_emod_of_nonneg (by omega)
      obtain ⟨r1, hr1⟩ : ∃ r1, r1 = (c + 1) % 2 := ⟨_, rfl⟩
      have hr4 : 0 ≤ r1 ∧ r1 < 2 := by omega
      rw [← hr1] at hw2 HR1
      clear hr hat hr' hF hr1
      go_upto_region 8 with (fail)
      obtain ⟨w8, hst, HGx, hgr⟩ := HG1.out.drew.put hwx hwy (r := r1) (i64_ok (by omega) (by omega)) (by have := HN1.out; have := HN.out; omega)
      have HG2 := Aside0.mk HGx
      have hAl := blk_lt HA1.out
      have HA2 : Aside0 (w8.heap[Wo.heap.size]? = some (.cells #[.int .i64 x, .int .i64 y] 76 (0, 0))) := ⟨(hgr.block _ hAl (fun e => by injection e with e; omega)).trans HA1.out⟩
      have HB2 : Aside0 (Below w.heap.size w w8) := ⟨(below_drew HB1.out).grown hgr (by show w.heap.size ≤ W9.heap.size; omega) (fun j hj => by cases hj; exact Nat.le_refl _)⟩
      have g0 : W9.drew.cell? _ = _ := blk_cell HG1.out.blk 0
      have a0 : W9.drew.cell? _ = _ := blk_cell HA1.out 0
      have a1 : W9.drew.cell? _ = _ := blk_cell HA1.out 1
      simp at g0 a0 a1
      have g0 : W9.drew.cell? _ = _ := g0
      have a0 : W9.drew.cell? _ = _ := a0
      have a1 : W9.drew.cell? _ = _ := a1
      clear HG1 HA1 HB1 HGx hgr hAl
      refine start_ (n := 7) (S := fun w' => w' = W9.drew) (ds := [6]) #[false, false, false, false, false, false, false] (by kernel_rfl) rfl rfl rfl (fun hHeld => ?_)
      refine with_tabW tab8 bits8 (fun HT_ HW_ => ?_)
      generalize W9.drew = W8 at *
      refine pu_ (i := 0) (N := some 35) (v := ?_) (a' := ?_) HT_.out rfl rfl (Or.inl ⟨by rfl, ?_⟩) ?_ ?_
      rotate_left
      ·intro w'
       go_simp
       with_reducible rfl
      rotate_left
      ·simp only [sp_]
       rfl
      refine pu_ (i := 1) (N := some 36) (v := ?_) (a' := ?_) HT_.out rfl rfl (Or.inl ⟨by rfl, ?_⟩) ?_ ?_
      rotate_left
      ·intro w'
       go_simp
       with_reducible rfl
      rotate_left
      ·simp only [sp_]
       rfl
      refine pu_ (i := 2) (N := some 37) (v := ?_) (a' := ?_) HT_.out rfl rfl (Or.inl ⟨by rfl, ?_⟩) ?_ ?_
      rotate_left
      ·intro w'
       go_simp
       with_reducible rfl
      rotate_left
      ·simp only [sp_]
       rfl
      refine tk_ (i := 3) (N := some 38) (v := ?_) (a' := ?_) HT_.out HW_.out rfl rfl (Or.inl ⟨by rfl, ?_⟩) hHeld ?_ ?_
      rotate_left
      ·intro w' hSw; subst hSw
       go_simp
       with_reducible rfl
      rotate_left
      ·simp only [sp_]
       rfl
      refine tk_ (i := 4) (N := some 39) (v := ?_) (a' := ?_) HT_.out HW_.out rfl rfl (Or.inl ⟨by rfl, ?_⟩) hHeld ?_ ?_
      rotate_left
      ·intro w' hSw; subst hSw
       go_simp
       with_reducible rfl
      rotate_left
      ·simp only [sp_]
       rfl
      refine pu_ (i := 5) (N := some 40) (v := ?_) (a' := ?_) HT_.out rfl rfl (Or.inl ⟨by rfl, ?_⟩) ?_ ?_
      rotate_left
      ·intro w'
       go_simp
       with_reducible rfl
      rotate_left
      ·simp only [sp_]
       rfl
      refine lastS_ (i := 6) (w1 := w8) #[true, true, true, true, true, true, true] rfl rfl (one_of HT_.out (by kernel_rfl)) (by decide) (by rfl) ?_ ?_
      ·go_simp
      clear hst g0 a0 a1 hHeld
      (try simp only [Act.put, List.setIfInBounds_toArray, List.set_cons_zero, List.set_cons_succ])
      refine done_ (done_of HT_.out (by kernel_rfl)) ?_
      clear HT_ HW_
      have HE := Aside0.mk (fun W => line_exit x y r1 W (by omega) (by omega) (by omega))
      have hw3 : wrap64 (s2 + 1) = s2 + 1 := wrap_id (by have := HS1.out; omega) (by have := HS1.out; omega)
      generalize mv2 r1 x y = pq at *
      have hne1 : Wo.heap.size ≠ w.heap.size + 1 := by omega
      have hne2 : w.heap.size + 1 ≠ Wo.heap.size := by omega
      have hnA : ¬ (Wo.heap.size = w.heap.size + 1 ∨ Wo.heap.size = w.heap.size ∨ vc.ownBlock = some Wo.heap.size) := by
       rintro (h | h | h)
       ·omega
       ·omega
       ·exact hvl h
      have b0 := blk_cell HA2.out 0
      have b1 := blk_cell HA2.out 1
      simp at b0 b1
      go_wp2_with (first | (go_at_call 99; refine (HE.out _).mono ?_; rintro e w9 ⟨rfl, hB⟩; have HG3 := Aside0.mk (HG2.out.below hB); have HA3 := Aside0.mk ((hB.block _ (blk_lt HA2.out)).trans HA2.out); have HB3 := Aside0.mk (below_then HB2.out HB2.out.size hB); clear hB; have k0 := blk_cell HA3.out 0; have k1 := blk_cell HA3.out 1; have fz := kF_ HA3.out; have k2 := blk_cell HG3.out.blk 2; have fz2 := kF_ HG3.out.blk; simp at k0 k1 k2))
      go_roundg q
      case measure => omega
      case rel => exact ⟨N1 + 1, _, pq.1, pq.2, s2 + 1, HR1, ⟨((HG3.out.far hnA 0 _).far hnA 1 _).step (s2 + 1)⟩, ⟨(blk_far (at_set HA3.out _ _) (p := ⟨w.heap.size + 1, 2, none⟩) hne1 _)⟩, ⟨by have := HN1.out; omega⟩, ⟨by have := HS1.out; omega⟩, ⟨((HB3.out.setCell (p := ⟨Wo.heap.size, 0, none⟩) (by show w.heap.size ≤ Wo.heap.size; omega) _).setCell (p := ⟨Wo.heap.size, 1, none⟩) (by show w.heap.size ≤ Wo.heap.size; omega) _).setCell (p := ⟨w.heap.size + 1, 2, none⟩) (Nat.le_succ _) _⟩, ⟨HO.out.upd hr4⟩⟩
end Go.Proofs.Ytjedhjeijpbobaa.G8
namespace Go.Proofs.Ytjedhjeijpbobaa.GA
open Go.RowKit YtjedhjeijpbobaaW.PrintWords YtjedhjeijpbobaaW.PrintLast YtjedhjeijpbobaaW.PrintMore
attribute [local go_sem] max2_int min2_int max_two min_two max_three min_three max_four min_four
def spec_LineEnds.f (k : Nat) (a0 : Int) (a1 : Int) : Option (List Int × Bool) := (spec_gwLined.f a0 a1).bind fun t169 => (if t169 = true then (if a0 = 0 then (some (([] : List Int), false)) else ((spec_gwLine.f k a0 a1).bind fun bt170 => (some ((([bt170.1, bt170.2.1] : List Int)), true)))) else (some (([] : List Int), false)))
theorem spec_LineEnds.mono : ∀ a0 a1 k, LeO (spec_LineEnds.f k a0 a1) (spec_LineEnds.f (k + 1) a0 a1) := by
 intro a0 a1 k
 unfold spec_LineEnds.f
 repeat' first
   | (with_reducible exact spec_gwLine.mono _ _ _)
   | (with_reducible exact LeO.refl _)
   | (with_reducible exact LeO.none _)
   | (with_reducible refine LeO.ite ?_ ?_)
   | (with_reducible refine LeO.bind ?_ (fun _ => ?_))
   | exact spec_gwLine.mono _ _ _
   | exact LeO.none _
   | refine LeO.ite ?_ ?_
   | refine LeO.bind ?_ (fun _ => ?_)
set_option maxHeartbeats 8000000 in
set_option maxRecDepth 100000 in
theorem spec_LineEnds.calls (k : Nat) (a0 : Int) (a1 : Int) (r1 : List Int) (r2 : Bool) (w : World) (h : spec_LineEnds.f k a0 a1 = some (r1, r2)) :
  Calls Try.prog 51 #[.int .i64 a0, .int .i64 a1] w fun e w' => ∃ v0_ : Value, e = .returned (.tuple #[v0_, .bool r2]) ∧ Kd.R (Kd.int .i64) 3 w' w.heap.size (fun _ => True) v0_ r1 ∧ Below w.heap.size w w' := by
 have HB := Aside0.mk (Below.refl w.heap.size w)
 have H : ((spec_gwLined.f a0 a1).bind fun t169 => (if t169 = true then (if a0 = 0 then (some (([] : List Int), false)) else ((spec_gwLine.f k a0 a1).bind fun bt170 => (some ((([bt170.1, bt170.2.1] : List Int)), true)))) else (some (([] : List Int), false)))) = some (r1, r2) := h
 clear h
 replace H := Option.bind_eq_some_iff.mp H
 obtain ⟨t169, A30, H⟩ := H
 replace H : (if t169 = true then (if a0 = 0 then (some (([] : List Int), false)) else ((spec_gwLine.f k a0 a1).bind fun bt170 => (some ((([bt170.1, bt170.2.1] : List Int)), true)))) else (some (([] : List Int), false))) = some (r1, r2) := H
 have A3 := Aside0.mk A30
 clear A30
 by_cases c4 : t169 = true
 ·subst c4
  have H1 : (if a0 = 0 then (some (([] : List Int), false)) else ((spec_gwLine.f k a0 a1).bind fun bt170 => (some ((([bt170.1, bt170.2.1] : List Int)), true)))) = some (r1, r2) := by rw [if_pos rfl] at H; exact H
  clear H
  have H := H1
  clear H1
  by_cases c5 : a0 = 0
  ·rw [if_pos c5] at H
   have c5b0 : (a0 == 0) = true := beq_iff_eq.mpr c5
   have c5b1 : (a0 != 0) = false := bne_eq_false_iff_eq.mpr c5
   clear c5
   simp only [Option.some.injEq, Prod.mk.injEq] at H
   obtain ⟨rfl, rfl⟩ := H
   go_enter Try.func51, Try.ntmps51
   go_wp2_with (first | ((with_reducible refine gate_callee (f := 68) rfl ?_); refine goesL_ (some 11) rfl rfl Try.func68 (by kernel_rfl) rfl #[.int .i64 a0, .int .i64 a1] rfl (by (try simp only [List.map_toArray, List.map_cons, List.map_nil]); first | done | rfl | (simp only [List.length_drop, List.length_take]; rfl)) ?_; (with_reducible refine (spec_gwLined.calls a0 a1 true _ A3.out).mono ?_); rintro e w' ⟨rfl, ⟨nd, rfl⟩⟩; refine ⟨_, rfl, ?_⟩))
   go_ret2
   exact ⟨_, by first | rfl | (simp [errW_none, errW_some] <;> rfl) | (simp [*, errW_none, errW_some] <;> rfl), by first | exact Kd.R_nil _ _ _ _ _ | exact Kd.N_nil _ _ _ _ _ | exact Kd.V_nil _ _ _ _ _ | exact Kd.Q_nil _ _ _ _ _ | exact Kd.S_nil _ _ _ _ _, by repeat (first | (with_reducible first | exact HB.out | apply bA_ | apply bN_ | apply bD_) | exact HB.out)⟩
  ·rw [if_neg c5] at H
   have c5b0 : (a0 == 0) = false := beq_eq_false_iff_ne.mpr c5
   have c5b1 : (a0 != 0) = true := bne_iff_ne.mpr c5
   replace H := Option.bind_eq_some_iff.mp H
   obtain ⟨⟨t170, t171, t172⟩, A60, H⟩ := H
   replace H : (some ((([t170, t171] : List Int)), true)) = some (r1, r2) := H
   have A6 := Aside0.mk A60
   clear A60
   obtain ⟨y173, hy173⟩ : ∃ y_ : List Int, y_ = (([t170, t171] : List Int)) := ⟨_, rfl⟩
   replace H : (some (y173, true)) = some (r1, r2) := by first | (rw [hy173]; with_reducible exact H) | (have H2_ := (Option.bind_some _ _).symm.trans H; rw [hy173]; with_reducible exact H2_) | (have H2_ := (Option.bind_some _ _).symm.trans H; with_reducible exact H2_) | with_reducible exact H | (rw [hy173]; exact H) | exact H
   have Ny173 := Aside0.mk hy173
   clear hy173
   simp only [Option.some.injEq, Prod.mk.injEq] at H
   obtain ⟨rfl, rfl⟩ := H
   go_enter Try.func51, Try.ntmps51
   go_wp2_with (first | ((with_reducible refine gate_callee (f := 68) rfl ?_); refine goesL_ (some 11) rfl rfl Try.func68 (by kernel_rfl) rfl #[.int .i64 a0, .int .i64 a1] rfl (by (try simp only [List.map_toArray, List.map_cons, List.map_nil]); first | done | rfl | (simp only [List.length_drop, List.length_take]; rfl)) ?_; (with_reducible refine (spec_gwLined.calls a0 a1 true _ A3.out).mono ?_); rintro e w' ⟨rfl, ⟨nd, rfl⟩⟩; refine ⟨_, rfl, ?_⟩) | ((with_reducible refine gate_callee (f := 69) rfl ?_); refine goesL_ (some 20) rfl rfl Try.func69 (by kernel_rfl) rfl #[.int .i64 a0, .int .i64 a1] rfl (by (try simp only [List.map_toArray, List.map_cons, List.map_nil]); first | done | rfl | (simp only [List.length_drop, List.length_take]; rfl)) ?_; (with_reducible refine (spec_gwLine.calls k a0 a1 t170 t171 t172 _ A6.out).mono ?_); rintro e w7 ⟨rfl, hb⟩; refine ⟨_, rfl, ?_⟩; have n0_ := Aside0.mk (bP_ (by repeat (first | (with_reducible first | exact HB.out | apply bA_ | apply bN_ | apply bD_) | exact HB.out)) hb); clear HB; have HB := n0_; clear n0_; (try clear hb); (try clear hb2); (try clear hk); (try clear hi)) | ((with_reducible refine gate_dst (N := 26) rfl ?_); refine Kd.R_lit (Kd.int .i64) _ 3 ?hg (N := 26) ?hd (xs := ([t170, t171] : List Int)) (inner := [.int .i64 t170, .int .i64 t171]) (ok := fun _ => True) (okp := fun _ => True) ?hr ?hp (fun _ hk => hk) trivial (Below.refl _ _) (Nat.le_refl _) (by simp) ?_; (case hd => rfl); (case hg => rfl); (case hr => first | (go_simp; done) | (go_simp; rfl)); (case hp => exact (Reps.one (show Kd.M (Kd.int .i64) _ _ _ t170 [.int .i64 t170] from rfl) (Reps.one (show Kd.M (Kd.int .i64) _ _ _ t171 [.int .i64 t171] from rfl) (Reps.none _ _)))); intro v174 w8 ho9 hb hg_ hnew_; clear hg_ hnew_; (first | rw [← Ny173.out] at ho9 | (simp only [Int.reduceToNat] at ho9; rw [← Ny173.out] at ho9)); have n0_ := Aside0.mk (Kd.R_lower ho9 (bZ_ (by repeat (first | (with_reducible first | exact HB.out | apply bA_ | apply bN_ | apply bD_) | exact HB.out)))); have n1_ := Aside0.mk (bP_ (by repeat (first | (with_reducible first | exact HB.out | apply bA_ | apply bN_ | apply bD_) | exact HB.out)) hb); clear HB; have HO175 := n0_; have HB := n1_; clear n0_ n1_; clear hb ho9))
   go_ret2
   exact ⟨_, by first | rfl | (simp [errW_none, errW_some] <;> rfl) | (simp [*, errW_none, errW_some] <;> rfl), by (with_reducible repeat (first | apply Kd.R_alloc | apply Kd.R_drewN | apply Kd.R_drew)); exact HO175.out, by repeat (first | (with_reducible first | exact HB.out | apply bA_ | apply bN_ | apply bD_) | exact HB.out)⟩
 ·replace c4 := Bool.eq_false_iff.mpr c4
  subst c4
  have H1 : (some (([] : List Int), false)) = some (r1, r2) := by rw [if_neg (show ¬ (false = true) by decide)] at H; exact H
  clear H
  have H := H1
  clear H1
  simp only [Option.some.injEq, Prod.mk.injEq] at H
  obtain ⟨rfl, rfl⟩ := H
  go_enter Try.func51, Try.ntmps51
  go_wp2_with (first | ((with_reducible refine gate_callee (f := 68) rfl ?_); refine goesL_ (some 11) rfl rfl Try.func68 (by kernel_rfl) rfl #[.int .i64 a0, .int .i64 a1] rfl (by (try simp only [List.map_toArray, List.map_cons, List.map_nil]); first | done | rfl | (simp only [List.length_drop, List.length_take]; rfl)) ?_; (with_reducible refine (spec_gwLined.calls a0 a1 false _ A3.out).mono ?_); rintro e w' ⟨rfl, ⟨nd, rfl⟩⟩; refine ⟨_, rfl, ?_⟩))
  go_ret2
  exact ⟨_, by first | rfl | (simp [errW_none, errW_some] <;> rfl) | (simp [*, errW_none, errW_some] <;> rfl), by first | exact Kd.R_nil _ _ _ _ _ | exact Kd.N_nil _ _ _ _ _ | exact Kd.V_nil _ _ _ _ _ | exact Kd.Q_nil _ _ _ _ _ | exact Kd.S_nil _ _ _ _ _, by repeat (first | (with_reducible first | exact HB.out | apply bA_ | apply bN_ | apply bD_) | exact HB.out)⟩
end Go.Proofs.Ytjedhjeijpbobaa.GA
namespace Go.Proofs.Ytjedhjeijpbobaa.G8
open Go.RowKit Go.Maps YtjedhjeijpbobaaW.PrintWords YtjedhjeijpbobaaW.PrintLast YtjedhjeijpbobaaW.PrintMore
open GA
def inB (a lo hi : Int) : Bool := decide (lo ≤ a ∧ a ≤ hi)
theorem impl_in_eq (a lo hi : Int) : impl_in.f a lo hi = some (inB a lo hi) := by
 unfold impl_in.f inB
 by_cases h1 : lo ≤ a
 ·simp [h1]
 ·simp [h1]
def okLine (n k : Int) : Bool := inB n 0 250 && inB k 0 1
def lineS (n k : Int) : St := (chips 2 300 mv2 215603 k n.toNat st0).getD st0
theorem line_is {n k : Int} (h : okLine n k = true) : ∃ m : Nat, n = m ∧ m ≤ 250 ∧ 0 ≤ k ∧ k < 2 ∧ chips 2 300 mv2 215603 k m st0 = some (lineS n k) := by
 simp only [okLine, inB, Bool.and_eq_true, decide_eq_true_eq] at h
 obtain ⟨m, rfl⟩ := Int.eq_ofNat_of_zero_le h.1.1
 obtain ⟨S, hS⟩ := line_n m k (by omega) (by omega)
 refine ⟨m, rfl, by omega, by omega, by omega, ?_⟩
 unfold lineS
 rw [Int.toNat_natCast, hS]
 rfl
theorem grow_line_any {n k : Int} (h : okLine n k = true) (w : World) : Calls Try.prog 97 #[.int .i64 n, .int .i64 k, .int .i64 2, .func (.func 99) #[] #[]] w (GroOut w (lineS n k)) := by
 obtain ⟨m, rfl, hm, h0, h1, hS⟩ := line_is h
 exact grow_line 215603 k m _ w (by omega) ⟨h0, h1⟩ hm hS
def GrownOut (w : World) (ok : Bool) (S : St) (e : Ending) (w' : World) : Prop :=
 (ok = false ∧ e = .returned (.tuple #[.pointer none, .bool false]) ∧ Below w.heap.size w w') ∨
 (ok = true ∧ ∃ g gm N vc, e = .returned (.tuple #[.pointer (some ⟨g, 0, none⟩), .bool true]) ∧ Below w.heap.size w w' ∧ Aside0 (GroAt w' w.heap.size g gm N vc S.f S.cells S.steps))
set_option maxHeartbeats 4000000 in
set_option maxRecDepth 100000 in
theorem onLine_calls (n k : Int) (w : World) : Calls Try.prog 70 #[.int .i64 n, .int .i64 k] w (GrownOut w (okLine n k) (lineS n k)) := by
 have HI1 := Aside0.mk (fun W => impl_in.calls n 0 250 (inB n 0 250) W (impl_in_eq _ _ _))
 have HI2 := Aside0.mk (fun W => impl_in.calls k 0 1 (inB k 0 1) W (impl_in_eq _ _ _))
 cases h1 : inB n 0 250 with
 | false =>
  have ho : okLine n k = false := by unfold okLine; rw [h1]; rfl
  rw [ho]
  rw [h1] at HI1
  clear ho h1 HI2
  go_enter Try.func70, Try.ntmps70
  go_wp2_with (first | (go_at_call 79; (with_reducible refine (HI1.out _).mono ?_); rintro e w' ⟨rfl, ⟨nd, rfl⟩⟩))
  go_ret2
  exact .inl ⟨rfl, rfl, by repeat (first | exact Below.refl _ _ | apply bN_)⟩
 | true =>
  cases h2 : inB k 0 1 with
  | false =>
   have ho : okLine n k = false := by unfold okLine; rw [h1, h2]; rfl
   rw [ho]
   rw [h1] at HI1
   rw [h2] at HI2
   clear ho h1 h2
   go_enter Try.func70, Try.ntmps70
   go_wp2_with (first | (go_at_call 79; (with_reducible refine (HI1.out _).mono ?_); rintro e w' ⟨rfl, ⟨nd, rfl⟩⟩) | (go_at_call 79; (with_reducible refine (HI2.out _).mono ?_); rintro e w' ⟨rfl, ⟨nd2, rfl⟩⟩))
   go_ret2
   exact .inl ⟨rfl, rfl, by repeat (first | exact Below.refl _ _ | apply bN_)⟩
  | true =>
   have ho : okLine n k = true := by unfold okLine; rw [h1, h2]; rfl
   have HG := Aside0.mk (fun W => grow_line_any ho W)
   rw [ho]
   rw [h1] at HI1
   rw [h2] at HI2
   clear ho h1 h2
   generalize lineS n k = S at *
   go_enter Try.func70, Try.ntmps70
   go_wp2_with (first | (go_at_call 79; (with_reducible refine (HI1.out _).mono ?_); rintro e w' ⟨rfl, ⟨nd, rfl⟩⟩) | (go_at_call 79; (with_reducible refine (HI2.out _).mono ?_); rintro e w' ⟨rfl, ⟨nd2, rfl⟩⟩) | (go_at_call 97; refine (HG.out _).mono ?_; rintro e w1 ⟨g, gm, N, vc, rfl, hB, hG⟩; have HB := Aside0.mk hB; clear hB))
   go_ret2
   refine .inr ⟨rfl, g, gm, N, vc, rfl, ?_, ?_⟩
   ·exact below_then (by repeat (first | exact Below.refl _ _ | apply bN_)) (by simp) HB.out
   ·exact hG
def impl_LineSteps.f (n k : Int) : Option (Int × Bool) := some (if okLine n k = true then (lineS n k).steps else 0, okLine n k)
set_option maxHeartbeats 4000000 in
set_option maxRecDepth 100000 in
theorem impl_LineSteps.walk (n k : Int) (w : World) : Calls Try.prog 21 #[.int .i64 n, .int .i64 k] w fun e w' => e = .returned (.tuple #[.int .i64 (if okLine n k = true then (lineS n k).steps else 0), .bool (okLine n k)]) ∧ Below w.heap.size w w' := by
 have HG := Aside0.mk (fun W => onLine_calls n k W)
 cases ho : okLine n k with
 | false =>
  rw [ho] at HG
  rw [if_neg (by decide)]
  clear ho
  go_enter Try.func21, Try.ntmps21
  go_wp2_with (first | (go_at_call 70; refine (HG.out _).mono ?_; rintro e w1 (⟨_, rfl, hB⟩ | ⟨h, _⟩); rotate_left; (exact absurd h (by decide)); have HB := Aside0.mk hB; clear hB))
  go_ret2
  exact ⟨rfl, HB.out⟩
 | true =>
  rw [ho] at HG
  rw [if_pos rfl]
  clear ho
  generalize lineS n k = S at *
  go_enter Try.func21, Try.ntmps21
  go_wp2_with (first | (go_at_call 70; refine (HG.out _).mono ?_; rintro e w1 (⟨h, _⟩ | ⟨_, g, gm, N, vc, rfl, hB, hG⟩); (exact absurd h (by decide)); have HB := Aside0.mk hB; clear hB; have c2 := blk_cell hG.out.blk 2; simp at c2))
  go_ret2
  exact ⟨rfl, HB.out⟩
theorem impl_LineSteps.calls (n k : Int) (r1 : Int) (r2 : Bool) (w : World) (h : impl_LineSteps.f n k = some (r1, r2)) :
  Calls Try.prog 21 #[.int .i64 n, .int .i64 k] w fun e w' => e = .returned (.tuple #[.int .i64 r1, .bool r2]) ∧ Below w.heap.size w w' := by
 have e := Option.some.inj h
 injection e with e1 e2
 subst e1 e2
 exact impl_LineSteps.walk n k w
end Go.Proofs.Ytjedhjeijpbobaa.G8
namespace Go.Proofs.Ytjedhjeijpbobaa.G8
open Go.RowKit Go.Maps YtjedhjeijpbobaaW.PrintWords YtjedhjeijpbobaaW.PrintLast YtjedhjeijpbobaaW.PrintMore
open GA
def Box (x : Int) : Prop := -60 ≤ x ∧ x ≤ 60
def atN (x y : Int) : Nat := ((x + 60) * 121 + y + 60).toNat
theorem atN_lt {x y : Int} (hx : Box x) (hy : Box y) : atN x y < 14641 := by unfold Box at *; unfold atN; omega
theorem atN_cast {x y : Int} (hx : Box x) (hy : Box y) : ((atN x y : Nat) : Int) = (x + 60) * 121 + y + 60 := by unfold Box at *; unfold atN; omega
theorem atN_eq {x y a b : Int} (hx : Box x) (hy : Box y) (ha : Box a) (hb : Box b) : atN a b = atN x y ↔ a = x ∧ b = y := by unfold Box at *; unfold atN; omega
theorem gwAt_eq {x y : Int} (hx : Box x) (hy : Box y) : spec_gwAt.f x y = some ((atN x y : Nat) : Int) := by
 rw [atN_cast hx hy]
 unfold Box at *
 unfold spec_gwAt.f
 rw [wrap_id (x := x + 60) (by omega) (by omega), wrap_id (x := (x + 60) * 121) (by omega) (by omega), wrap_id (x := (x + 60) * 121 + y) (by omega) (by omega), wrap_id (by omega) (by omega)]
section
variable {w w1 : World} {base f gb rb : Nat} {vc : Value} {F : Fld} {k0 : Int} {cs : List (Int × Int)} {s : Int}
theorem blk_ne {b c : Nat} {x y : Array Value} {t u : TypeId} (h : w.heap[b]? = some (.cells x t (0, 0))) (k : w.heap[c]? = some (.cells y u (0, 0))) (hn : t ≠ u ∨ x.size ≠ y.size) : b ≠ c := by
 rintro rfl
 rw [h] at k
 injection k with k
 injection k with k1 k2
 rcases hn with hn | hn
 ·exact hn k2
 ·exact hn (by rw [k1])
end
end Go.Proofs.Ytjedhjeijpbobaa.G8
namespace Go.Proofs.Ytjedhjeijpbobaa.G8
open Go.RowKit Go.Maps YtjedhjeijpbobaaW.PrintWords YtjedhjeijpbobaaW.PrintLast YtjedhjeijpbobaaW.PrintMore
open GA
theorem infoB : (Try.prog.info? 4).map (fun i => (i.zero, i.size, i.bytes)) = some (some (.bool false), 1, 1) := by kernel_rfl
theorem infoI : (Try.prog.info? 3).map (fun i => (i.zero, i.size, i.bytes)) = some (some (.int .i64 0), 1, 8) := by kernel_rfl
theorem make_bools (W : World) : (Instr.makeSlice 59 (.int .i64 14641) (.int .i64 14641)).run Try.prog W = .ok (.slice (some ⟨W.heap.size, 0, none⟩) 14641 14641) (W.alloc (.cells (madeCells #[.bool false] 14641) 4)) :=
 run_make_row' (P := Try.prog) 59 4 (.bool false) 1 Try.underlying59 infoB rfl .i64 .i64 14641 (by decide) (by decide) W
theorem make_ints (W : World) : (Instr.makeSlice 29 (.int .i64 14641) (.int .i64 14641)).run Try.prog W = .ok (.slice (some ⟨W.heap.size, 0, none⟩) 14641 14641) (W.alloc (.cells (madeCells #[.int .i64 0] 14641) 3)) :=
 run_make_row' (P := Try.prog) 29 3 (.int .i64 0) 8 Try.underlying29 infoI rfl .i64 .i64 14641 (by decide) (by decide) W
theorem two_new (W : World) (o p : Obj) : ((W.alloc o).alloc p).heap[W.heap.size]? = some o := ((MapKept.heap_alloc (W.alloc o) p).2 W.heap.size (by simp)).trans (blk_new W o)
theorem two_new1 (W : World) (o p : Obj) : ((W.alloc o).alloc p).heap[W.heap.size + 1]? = some p := by
 have := blk_new (W.alloc o) p
 simpa using this
theorem made_at (z : Value) (n p : Nat) (hp : p < n) : (madeCells #[z] n)[p]? = some z := by
 unfold madeCells
 rw [Array.getElem?_map, Array.getElem?_eq_getElem (by simpa using hp)]
 simp [Nat.mod_one]
theorem at_quiet {x y : Int} (hx : Box x) (hy : Box y) : ∀ W, Calls Try.prog 73 #[.int .i64 x, .int .i64 y] W fun e w' => e = .returned (.int .i64 ((atN x y : Nat) : Int)) ∧ ∃ m, w' = W.drewN m := fun W =>
 (spec_gwAt.calls x y _ W (gwAt_eq hx hy)).mono fun e w' h => ⟨h.1, h.2.out⟩
theorem move_quiet {x y r : Int} (hx : Box x) (hy : Box y) : ∀ W, Calls Try.prog 96 #[.int .i64 x, .int .i64 y, .int .i64 r] W fun e w' => e = .returned (.tuple #[.int .i64 (mv4 r x y).1, .int .i64 (mv4 r x y).2]) ∧ ∃ m, w' = W.drewN m := fun W => by
 have h : spec_gwMove.f x y r = some ((mv4 r x y).1, (mv4 r x y).2) := by
  unfold Box at hx hy
  unfold spec_gwMove.f mv4
  rw [wrap_id (x := x + 1) (by omega) (by omega), wrap_id (x := y + 1) (by omega) (by omega), wrap_id (x := x - 1) (by omega) (by omega), wrap_id (x := y - 1) (by omega) (by omega)]
  split
  ·rfl
  ·split
   ·rfl
   ·split <;> rfl
 exact (spec_gwMove.calls x y r _ _ W h).mono fun e w' h => ⟨h.1, h.2.out⟩
theorem info29 : (Try.prog.info? 29).map (fun i => (i.zero, i.size, i.bytes)) = some (some (.slice none 0 0), 1, 24) := by kernel_rfl
end Go.Proofs.Ytjedhjeijpbobaa.G8
namespace Go.Proofs.Ytjedhjeijpbobaa.G8
open Go.RowKit YtjedhjeijpbobaaW.PrintWords YtjedhjeijpbobaaW.PrintLast YtjedhjeijpbobaaW.PrintMore
open GA
theorem spec_in_eq (a lo hi : Int) : spec_l1In.f a lo hi = some (inB a lo hi) := by
 unfold spec_l1In.f inB
 by_cases h1 : lo ≤ a
 ·simp [h1]
 ·simp [h1]
theorem least_eq (a b : Int) : spec_l1Least.f a b = some (if a < b then a else b) := by unfold spec_l1Least.f; split <;> rfl
theorem most_eq (a b : Int) : spec_l1Most.f a b = some (if a > b then a else b) := by unfold spec_l1Most.f; split <;> rfl
theorem rd_set (R : List Int) (i j v : Int) (hi : 0 ≤ i) (hil : i < R.length) (hj : 0 ≤ j) : rd (R.set i.toNat v) j = if j = i then v else rd R j := by
 unfold rd
 rw [List.getD_eq_getElem?_getD, List.getD_eq_getElem?_getD, List.getElem?_set]
 by_cases e : j = i
 ·subst e
  rw [if_pos rfl, if_pos rfl, if_pos (by omega)]
  rfl
 ·rw [if_neg (by omega), if_neg e]
structure RowIs (R : List Int) (F : Fld) (k0 : Int) : Prop where
 len : R.length = 1201
 is : ∀ c : Int, -600 ≤ c → c ≤ 600 → rd R (c + 600) = (F c 0).getD k0
theorem RowIs.upd {R : List Int} {F : Fld} {k0 x r : Int} (h : RowIs R F k0) (hx0 : -600 ≤ x) (hx1 : x ≤ 600) : RowIs (R.set (x + 600).toNat r) (upd F x 0 r) k0 := by
 refine ⟨by rw [List.length_set]; exact h.len, fun c h0 h1 => ?_⟩
 rw [rd_set _ _ _ _ (by omega) (by rw [h.len]; omega) (by omega)]
 unfold G8.upd
 by_cases e : c = x
 ·rw [if_pos (by omega), if_pos ⟨e, rfl⟩]; rfl
 ·rw [if_neg (by omega), if_neg (fun e1 => e e1.1)]; exact h.is c h0 h1
theorem RowIs.grow {R : List Int} {F : Fld} {k0 x : Int} (h : RowIs R F k0) (hF : F x 0 = none) (hx0 : -600 ≤ x) (hx1 : x ≤ 600) : RowIs R (G8.upd F x 0 k0) k0 := by
 refine ⟨h.len, fun c h0 h1 => ?_⟩
 rw [h.is c h0 h1]
 unfold G8.upd
 by_cases e : c = x
 ·subst e; rw [hF, if_pos ⟨rfl, rfl⟩]; rfl
 ·rw [if_neg (fun e1 => e e1.1)]
theorem l1_more {k : Nat} {a : Int} {R : List Int} {lo hi s : Int} {r : Int × Int × Int} (h : spec_gwLine.l1 k a R lo hi s = some r) : ∀ m, spec_gwLine.l1 (k + m) a R lo hi s = some r
 | 0 => h
 | m + 1 => (spec_gwLine.mono_l (k + m)).2.1 a R lo hi s r (l1_more h m)
theorem line_l2 (k0 : Int) {lo : Int} {n : Nat} (hn : n ≤ 250) (hlo : -250 ≤ lo) (hl1 : lo ≤ 1) (hhi : lo + n ≤ 251) (a : Int) (ha : 1 ≤ a ∧ a ≤ 250) : ∀ (k : Nat) (F : Fld) (R : List Int) (x s : Int) (F1 : Fld) (x1 y1 s1 : Int),
  Line F lo n → RowIs R F k0 → lo - 1 ≤ x → x ≤ lo + n → 0 ≤ s → s + k ≤ 1000000000 → run 2 300 mv2 k F x 0 s = some (F1, x1, y1, s1) →
  ∃ R1, RowIs R1 F1 k0 ∧ y1 = 0 ∧ F1 x1 0 = none ∧ Line F1 lo n ∧ (x1 = lo - 1 ∨ x1 = lo + n) ∧ s ≤ s1 ∧ s1 ≤ s + k ∧
   ∀ j r, spec_gwLine.l1 j (a - 1) R1 (if lo < x1 then lo else x1) (if lo + n - 1 > x1 then lo + n - 1 else x1) s1 = some r → spec_gwLine.l2 (j + k) a R lo (lo + n - 1) s x = some r := by
 intro k
 induction k with
 | zero => intro F R x s F1 x1 y1 s1 L hR h0 h1 hs hsk h; exact absurd h (by simp [run])
 | succ k ih =>
  intro F R x s F1 x1 y1 s1 L hR h0 h1 hs hsk h
  have hw : wrap64 (x + 600) = x + 600 := wrap_id (by omega) (by omega)
  by_cases hin : lo ≤ x ∧ x < lo + n
  ·obtain ⟨r, hr⟩ : ∃ r, F x 0 = some r := by rcases L.on x hin.1 hin.2 with h | h <;> exact ⟨_, h⟩
   obtain ⟨L1, hp, hm, h2, h3⟩ := line_step L hin.1 hin.2 hr
   unfold run at h
   rw [if_pos (by omega), hr] at h
   simp only at h
   rw [hm] at h
   have hR1 := hR.upd (r := (r + 1) % 2) (show -600 ≤ x by omega) (by omega)
   obtain ⟨R1, g1, g2, g3, g4, g5, g6, g7, g8⟩ := ih _ _ _ (s + 1) F1 x1 y1 s1 L1 hR1 h2 h3 (by omega) (by omega) h
   refine ⟨R1, g1, g2, g3, g4, g5, by omega, by omega, fun j q hq => ?_⟩
   have hj := g8 j q hq
   have hrd : rd R (x + 600) = r := by rw [hR.is x (by omega) (by omega), hr]; rfl
   have hs1 : wrap64 (s + 1) = s + 1 := wrap_id (by omega) (by omega)
   show spec_gwLine.l2 (j + k + 1) a R lo (lo + n - 1) s x = some q
   simp only [spec_gwLine.l2]
   rw [spec_in_eq, Option.bind_some, if_pos (by unfold inB; rw [decide_eq_true_eq]; omega), hw, if_pos (by omega), if_pos (by rw [hR.len]; omega), Option.bind_some, hrd, hs1]
   rw [rd_set _ _ _ _ (by omega) (by rw [hR.len]; omega) (by omega), if_pos rfl]
   rcases L.on x hin.1 hin.2 with e | e
   ·rw [e] at hr
    cases hr
    have e1 : wrap64 (1 - 0) = 1 := wrap_id (x := 1) (by omega) (by omega)
    have e2 : ((0 : Int) + 1) % 2 = 1 := by decide
    have e3 : mv2 1 x 0 = (x - 1, 0) := by unfold mv2; rw [if_neg (by omega)]
    rw [e2, e3] at hj
    rw [e1, if_neg (by decide), wrap_id (x := x - 1) (by omega) (by omega)]
    exact hj
   ·rw [e] at hr
    cases hr
    have e1 : wrap64 (1 - 1) = 0 := wrap_id (x := 0) (by omega) (by omega)
    have e2 : ((1 : Int) + 1) % 2 = 0 := by decide
    have e3 : mv2 0 x 0 = (x + 1, 0) := by unfold mv2; rw [if_pos rfl]
    rw [e2, e3] at hj
    rw [e1, if_pos rfl, wrap_id (x := x + 1) (by omega) (by omega)]
    exact hj
  ·unfold run at h
   have hF := L.off x 0 (fun h => hin h.2)
   rw [if_pos (by omega), hF] at h
   simp only [Option.some.injEq, Prod.mk.injEq] at h
   obtain ⟨rfl, rfl, rfl, rfl⟩ := h
   refine ⟨R, hR, rfl, hF, L, by omega, by omega, by omega, fun j q hq => ?_⟩
   show spec_gwLine.l2 (j + k + 1) a R lo (lo + n - 1) s x = some q
   simp only [spec_gwLine.l2]
   rw [spec_in_eq, Option.bind_some, if_neg (by unfold inB; rw [decide_eq_true_eq]; omega), least_eq, Option.bind_some, most_eq, Option.bind_some, wrap_id (x := a - 1) (by omega) (by omega)]
   exact l1_more hq k
def mins (a : Int) (cs : List (Int × Int)) : Int := cs.foldl (fun a c => if a < c.1 then a else c.1) a
def maxs (a : Int) (cs : List (Int × Int)) : Int := cs.foldl (fun a c => if a > c.1 then a else c.1) a
theorem line_l1 (k0 : Int) (hk : k0 = 0 ∨ k0 = 1) : ∀ (m n : Nat) (lo : Int) (F : Fld) (R : List Int) (cs : List (Int × Int)) (s : Int) (S : St), n + m ≤ 250 → -n ≤ lo → lo ≤ 1 → 0 < lo + n → Line F lo n → RowIs R F k0 → 0 ≤ s → s + ((215603 * m : Nat) : Int) ≤ 100000000 → chips 2 300 mv2 215603 k0 m ⟨F, cs, s⟩ = some S →
  ∃ more, S.cells = cs ++ more ∧ more.length = m ∧ (∀ c ∈ more, -250 ≤ c.1 ∧ c.1 ≤ 251 ∧ c.2 = 0) ∧ ∃ j, spec_gwLine.l1 j (m : Int) R lo (lo + n - 1) s = some (mins lo more, maxs (lo + n - 1) more, S.steps) := by
 intro m
 induction m with
 | zero =>
  intro n lo F R cs s S hnm h0 h1 h2 L hR hs hsk h
  simp only [chips, Option.some.injEq] at h
  subst h
  exact ⟨[], by simp, rfl, by simp, 1, by simp [spec_gwLine.l1, mins, maxs]⟩
 | succ m ih =>
  intro n lo F R cs s S hnm h0 h1 h2 L hR hs hsk h
  simp only [chips] at h
  obtain ⟨⟨F1, x1, y1, s1⟩, hr, h⟩ := Option.bind_eq_some_iff.1 h
  obtain ⟨R1, hR1, rfl, hF1, L1, hx, hs0, hs1, hc⟩ := line_l2 k0 (show n ≤ 250 by omega) (by omega) h1 (by omega) ((m + 1 : Nat) : Int) (by omega) 215603 F R 0 s F1 x1 y1 s1 L hR (by omega) (by omega) hs (by omega) hr
  simp only at h
  have hR2 := hR1.grow hF1 (by omega) (by omega)
  have hu : ∀ lo2 : Int, (lo2 = lo ∧ x1 = lo + n ∨ lo2 = lo - 1 ∧ x1 = lo - 1) → Line (upd F1 x1 0 k0) lo2 (n + 1) := fun lo2 hlo => by
   refine ⟨fun c h4 h5 => ?_, fun a b hab => ?_⟩
   ·by_cases e : c = x1
    ·subst e; unfold upd; rw [if_pos ⟨rfl, rfl⟩]; rcases hk with rfl | rfl <;> simp
    ·unfold upd; rw [if_neg (fun h => e h.1)]; exact L1.on c (by omega) (by omega)
   ·unfold upd
    rw [if_neg (fun h => hab ⟨h.2, by omega, by omega⟩)]
    exact L1.off a b (fun h => hab ⟨h.1, by omega, by omega⟩)
  obtain ⟨lo2, hlo, e1, e2⟩ : ∃ lo2 : Int, (lo2 = lo ∧ x1 = lo + n ∨ lo2 = lo - 1 ∧ x1 = lo - 1) ∧ (if lo < x1 then lo else x1) = lo2 ∧ (if lo + n - 1 > x1 then lo + n - 1 else x1) = lo2 + ((n + 1 : Nat) : Int) - 1 := by
   rcases hx with hx | hx
   ·refine ⟨lo - 1, .inr ⟨rfl, hx⟩, ?_, ?_⟩ <;> split <;> omega
   ·refine ⟨lo, .inl ⟨rfl, hx⟩, ?_, ?_⟩ <;> split <;> omega
  obtain ⟨more, c1, c2, c3, j, c4⟩ := ih (n + 1) lo2 _ R1 _ s1 S (by omega) (by omega) (by omega) (by omega) (hu lo2 hlo) hR2 (by omega) (by omega) h
  have ea : ((m + 1 : Nat) : Int) - 1 = (m : Int) := by omega
  rw [e1, e2, ea] at hc
  have hj := hc j _ c4
  refine ⟨(x1, 0) :: more, by rw [c1]; simp, by simp [c2], ?_, j + 215603 + 1, ?_⟩
  ·intro c hcm
   rcases List.mem_cons.1 hcm with rfl | hcm
   ·exact ⟨by simp only; omega, by simp only; omega, rfl⟩
   ·exact c3 c hcm
  ·simp only [spec_gwLine.l1]
   rw [if_pos (by omega), hj]
   simp only [mins, maxs, List.foldl_cons]
   rw [e1, e2]
theorem line_l0 (n k0 : Int) : ∀ (m : Nat) (i : Int) (R : List Int), R.length = 1201 → 0 ≤ i → i + m = 1201 → (∀ c : Int, 0 ≤ c → c < i → rd R c = k0) →
  ∃ R1, RowIs R1 (fun _ _ => none) k0 ∧ ∀ j r, spec_gwLine.l1 j n R1 1 0 0 = some r → spec_gwLine.l0 (j + m + 1) n k0 R 1201 i = some r := by
 intro m
 induction m with
 | zero =>
  intro i R hR h0 h1 h
  refine ⟨R, ⟨hR, fun c h2 h3 => h _ (by omega) (by omega)⟩, fun j r hj => ?_⟩
  simp only [spec_gwLine.l0, Nat.add_zero]
  rw [if_neg (by omega)]
  exact hj
 | succ m ih =>
  intro i R hR h0 h1 h
  obtain ⟨R1, g1, g2⟩ := ih (i + 1) (R.set i.toNat k0) (by rw [List.length_set]; exact hR) (by omega) (by omega) (fun c h2 h3 => by
   rw [rd_set _ _ _ _ h0 (by omega) h2]
   by_cases e : c = i
   ·rw [if_pos e]
   ·rw [if_neg e]; exact h c h2 (by omega))
  refine ⟨R1, g1, fun j r hj => ?_⟩
  have := g2 j r hj
  show spec_gwLine.l0 (j + m + 1 + 1) n k0 R 1201 i = some r
  simp only [spec_gwLine.l0]
  rw [if_pos (by omega), if_pos h0, if_pos (by rw [hR]; omega), wrap_id (x := i + 1) (by omega) (by omega)]
  exact this
theorem line_f {n k : Int} (h : okLine n k = true) : (lineS n k).cells.length = n.toNat ∧ (∀ c ∈ (lineS n k).cells, -250 ≤ c.1 ∧ c.1 ≤ 251 ∧ c.2 = 0) ∧ ∃ j, spec_gwLine.f j n k = some (mins 1 (lineS n k).cells, maxs 0 (lineS n k).cells, (lineS n k).steps) := by
 obtain ⟨m, rfl, hm, h0, h1, hS⟩ := line_is h
 generalize lineS (m : Int) k = S at *
 obtain ⟨R1, g1, g2⟩ := line_l0 m k 1201 0 (List.replicate 1201 0) (by rw [List.length_replicate]) (by omega) (by omega) (fun c h2 h3 => by omega)
 obtain ⟨more, c1, c2, c3, j, c4⟩ := line_l1 k (by omega) m 0 1 (fun _ _ => none) R1 [] 0 S (by omega) (by omega) (by omega) (by omega) ⟨fun c h0 h1 => by omega, fun a b h => rfl⟩ g1 (by omega) (by omega) hS
 rw [List.nil_append] at c1
 subst c1
 refine ⟨by rw [c2]; omega, c3, j + 1201 + 1, ?_⟩
 unfold spec_gwLine.f
 rw [if_pos (by decide), Option.bind_some, List.length_replicate]
 exact g2 j _ c4
end Go.Proofs.Ytjedhjeijpbobaa.G8
namespace Go.Proofs.Ytjedhjeijpbobaa.G8
open Go.RowKit Go.Maps YtjedhjeijpbobaaW.PrintWords YtjedhjeijpbobaaW.PrintLast YtjedhjeijpbobaaW.PrintMore
open GA
theorem run_keep (ex B : Int) (mv : Int → Int → Int → Int × Int) : ∀ (k : Nat) (F : Fld) (x y s : Int) (F1 : Fld) (x1 y1 s1 : Int), run ex B mv k F x y s = some (F1, x1, y1, s1) → (∀ a b, (F1 a b).isSome = (F a b).isSome) ∧ F1 x1 y1 = none ∧ (-B ≤ x1 ∧ x1 ≤ B ∧ -B ≤ y1 ∧ y1 ≤ B) ∧ s ≤ s1 ∧ s1 ≤ s + k
 | 0, F, x, y, s, F1, x1, y1, s1, h => by simp [run] at h
 | k + 1, F, x, y, s, F1, x1, y1, s1, h => by
  unfold run at h
  split at h
  ·rename_i hb
   cases hF : F x y with
   | none =>
    rw [hF] at h
    simp only [Option.some.injEq, Prod.mk.injEq] at h
    obtain ⟨rfl, rfl, rfl, rfl⟩ := h
    exact ⟨fun _ _ => rfl, hF, hb, by omega, by omega⟩
   | some r =>
    rw [hF] at h
    simp only at h
    obtain ⟨h1, h2, h3, h4, h5⟩ := run_keep ex B mv k _ _ _ _ F1 x1 y1 s1 h
    refine ⟨fun a b => ?_, h2, h3, by omega, by omega⟩
    rw [h1 a b]
    unfold upd
    by_cases e : a = x ∧ b = y
    ·rw [if_pos e, e.1, e.2, hF]; rfl
    ·rw [if_neg e]
  ·cases h
structure Kept (B : Int) (S : St) : Prop where
 mem : ∀ a b, (S.f a b).isSome = true ↔ (a, b) ∈ S.cells
 box : ∀ c ∈ S.cells, -B ≤ c.1 ∧ c.1 ≤ B ∧ -B ≤ c.2 ∧ c.2 ≤ B
 once : S.cells.Nodup
theorem chips_keep (ex B : Int) (mv : Int → Int → Int → Int × Int) (K : Nat) (k0 : Int) : ∀ (n : Nat) (S S1 : St), chips ex B mv K k0 n S = some S1 → Kept B S → Kept B S1 ∧ S1.cells.length = S.cells.length + n ∧ S.steps ≤ S1.steps ∧ S1.steps ≤ S.steps + ((K * n : Nat) : Int)
 | 0, S, S1, h, hk => by
  simp only [chips, Option.some.injEq] at h
  subst h
  exact ⟨hk, rfl, by omega, by simp⟩
 | n + 1, S, S1, h, hk => by
  simp only [chips] at h
  obtain ⟨⟨F1, x1, y1, s1⟩, hr, h⟩ := Option.bind_eq_some_iff.1 h
  obtain ⟨h1, h2, h3, h4, h5⟩ := run_keep ex B mv K _ _ _ _ F1 x1 y1 s1 hr
  have hno : (x1, y1) ∉ S.cells := fun hm => by
   have := (hk.mem x1 y1).2 hm
   rw [← h1 x1 y1, h2] at this
   cases this
  obtain ⟨g1, g2, g3, g4⟩ := chips_keep ex B mv K k0 n _ S1 h ⟨fun a b => by
   simp only [List.mem_append, List.mem_singleton, Prod.mk.injEq]
   rw [← hk.mem a b, ← h1 a b]
   unfold upd
   by_cases e : a = x1 ∧ b = y1
   ·rw [if_pos e]; simp [e]
   ·rw [if_neg e]; simp [e], fun c hc => by
   simp only [List.mem_append, List.mem_singleton] at hc
   rcases hc with hc | rfl
   ·exact hk.box c hc
   ·exact h3, by
   rw [List.nodup_append]
   refine ⟨hk.once, by simp, fun a ha b hb => ?_⟩
   simp at hb
   subst hb
   rintro rfl
   exact hno ha⟩
  refine ⟨g1, ?_, ?_, ?_⟩
  ·rw [g2, List.length_append, List.length_singleton]
   omega
  ·simp only at g3
   omega
  ·simp only at g4
   rw [Nat.mul_succ]
   omega
theorem kept0 (B : Int) : Kept B st0 := ⟨fun a b => by simp [st0], fun c hc => by simp [st0] at hc, by simp [st0]⟩
end Go.Proofs.Ytjedhjeijpbobaa.G8
namespace Go.Proofs.Ytjedhjeijpbobaa.G8
open Go.RowKit Go.Maps YtjedhjeijpbobaaW.PrintWords YtjedhjeijpbobaaW.PrintLast YtjedhjeijpbobaaW.PrintMore
open GA
end Go.Proofs.Ytjedhjeijpbobaa.G8
namespace Go.Proofs.Ytjedhjeijpbobaa.G8
open Go.RowKit Go.Maps YtjedhjeijpbobaaW.PrintWords YtjedhjeijpbobaaW.PrintLast YtjedhjeijpbobaaW.PrintMore
open GA
def toS (c : Int × Int) : S76 := ⟨c.1, c.2⟩
theorem reps_flat (w : World) : ∀ cs : List (Int × Int), Reps (fun p c => k76.K w p c) 2 (cs.map toS) (flat cs)
 | [] => Reps.none _ _
 | c :: cs => by
  have h := Kd.reps_append (ps := [toS c]) (cs := [.int .i64 c.1, .int .i64 c.2]) (R := fun p c => k76.K w p c) (size := 2) ⟨rfl, fun j p hj => by
   match j, hj with
   | 0, hj => simp at hj; subst hj; exact k76_mk w _
   | j + 1, hj => simp at hj⟩ (reps_flat w cs)
  exact h
def sq (c : Int × Int) : Int := c.1 * c.1 + c.2 * c.2
def sqF (m : Int) (cs : List (Int × Int)) : Int := cs.foldl (fun m c => if m > sq c then m else sq c) m
theorem sq_box {c : Int × Int} (h : -15 ≤ c.1 ∧ c.1 ≤ 15 ∧ -15 ≤ c.2 ∧ c.2 ≤ 15) : wrap64 (c.1 * c.1) = c.1 * c.1 ∧ wrap64 (c.2 * c.2) = c.2 * c.2 ∧ wrap64 (c.1 * c.1 + c.2 * c.2) = sq c ∧ 0 ≤ sq c ∧ sq c ≤ 200000 := by
 have h1 := sq_bd c.1 (by omega) (by omega)
 have h2 := sq_bd c.2 (by omega) (by omega)
 unfold sq
 generalize c.1 * c.1 = a at *
 generalize c.2 * c.2 = b at *
 exact ⟨wrap_id (by omega) (by omega), wrap_id (by omega) (by omega), wrap_id (by omega) (by omega), by omega, by omega⟩
theorem most_quiet (a : Int) (c : Int × Int) (h : -15 ≤ c.1 ∧ c.1 ≤ 15 ∧ -15 ≤ c.2 ∧ c.2 ≤ 15) (W : World) : Calls Try.prog 75 #[.int .i64 a, .int .i64 (IntKind.i64.wrap (IntKind.i64.wrap (c.1 * c.1) + IntKind.i64.wrap (c.2 * c.2)))] W fun e w' => e = .returned (.int .i64 (if a > sq c then a else sq c)) ∧ ∃ m, w' = W.drewN m := by
 obtain ⟨s1, s2, s3, _, _⟩ := sq_box h
 rw [i64_w, i64_w, i64_w, s1, s2, s3]
 exact (spec_l1Most.calls a (sq c) _ W (most_eq a (sq c))).mono fun e w' h => ⟨h.1, h.2.out⟩
theorem pairR {w : World} {base b : Nat} {x y : Int} (hb : base ≤ b) (h : w.heap[b]? = some (.cells #[.int .i64 x, .int .i64 y] 3 (0, 0))) : Kd.R (Kd.int .i64) 3 w base (fun _ => True) (.slice (some ⟨b, 0, none⟩) 2 2) [x, y] :=
 Kd.R_of_own ⟨rfl, .inr ⟨b, 2, _, rfl, hb, h, Nat.le_refl _, by unfold maxLen; simp, rfl, rfl⟩⟩ (fun _ _ => trivial)
end Go.Proofs.Ytjedhjeijpbobaa.G8
namespace Go.Proofs.Ytjedhjeijpbobaa.G8
open Go.RowKit Go.Maps YtjedhjeijpbobaaW.PrintWords YtjedhjeijpbobaaW.PrintLast YtjedhjeijpbobaaW.PrintMore
open GA
theorem GroAt.form {w : World} {base g gm N : Nat} {vc : Value} {F : Fld} {cs : List (Int × Int)} {s : Int} (h : GroAt w base g gm N vc F cs s) (hp : 0 < cs.length) :
  ∃ b cap, vc = .slice (some ⟨b, 0, none⟩) cs.length cap ∧ base ≤ b ∧ ∀ (i : Nat) (c : Int × Int), cs[i]? = some c → w.cell? ⟨b, i * 2, none⟩ = some (.int .i64 c.1) ∧ w.cell? ⟨b, i * 2 + 1, none⟩ = some (.int .i64 c.2) := by
 rcases h.cells.2 with ⟨_, h2⟩ | ⟨b, cap, cur, h1, hb, hh, h3, _, h5, h6⟩
 ·omega
 ·refine ⟨b, cap, h1, hb, fun i c hc => ?_⟩
  have hr := (reps_flat w cs).2 i (toS c) (by rw [List.getElem?_map, hc]; rfl)
  have e := k76_open hr
  have hi : i < cs.length := (List.getElem?_eq_some_iff.1 hc).1
  have hfl : (flat cs).length = cs.length * 2 := by have := (reps_flat w cs).1; rw [List.length_map] at this; exact this
  have e0 : (flat cs)[i * 2]? = some (.int .i64 c.1) := by
   have := congrArg (fun l => l[0]?) e
   simp only [List.getElem?_take, List.getElem?_drop] at this
   simpa [toS] using this
  have e1 : (flat cs)[i * 2 + 1]? = some (.int .i64 c.2) := by
   have := congrArg (fun l => l[1]?) e
   simp only [List.getElem?_take, List.getElem?_drop] at this
   simpa [toS] using this
  rw [← h6, List.getElem?_take, if_pos (by omega)] at e0 e1
  exact ⟨(blk_cell hh _).trans (by simpa using e0), (blk_cell hh _).trans (by simpa using e1)⟩
end Go.Proofs.Ytjedhjeijpbobaa.G8
namespace Go.Proofs.Ytjedhjeijpbobaa.G8
open Go.RowKit Go.Maps YtjedhjeijpbobaaW.PrintWords YtjedhjeijpbobaaW.PrintLast YtjedhjeijpbobaaW.PrintMore
open GA
def loF (sel : Int × Int → Int) (a : Int) (cs : List (Int × Int)) : Int := cs.foldl (fun a c => if sel c < a then sel c else a) a
def hiF (sel : Int × Int → Int) (a : Int) (cs : List (Int × Int)) : Int := cs.foldl (fun a c => if a < sel c then sel c else a) a
def CellsAt (w : World) (b : Nat) (cs : List (Int × Int)) : Prop := b < w.heap.size ∧ ∀ (i : Nat) (c : Int × Int), cs[i]? = some c → w.cell? ⟨b, i * 2, none⟩ = some (.int .i64 c.1) ∧ w.cell? ⟨b, i * 2 + 1, none⟩ = some (.int .i64 c.2)
theorem CellsAt.below {w w1 : World} {b : Nat} {cs : List (Int × Int)} (h : CellsAt w b cs) (hB : Below w.heap.size w w1) : CellsAt w1 b cs :=
 ⟨Nat.lt_of_lt_of_le h.1 hB.size, fun i c hc => ⟨(hB.cell h.1).trans (h.2 i c hc).1, (hB.cell h.1).trans (h.2 i c hc).2⟩⟩
theorem cellOld {w : World} {b i : Nat} {o : Obj} {v : Value} (hb : b < w.heap.size) (h : w.cell? ⟨b, i, none⟩ = some v) : (w.alloc o).cell? ⟨b, i, none⟩ = some v := (World.cell?_alloc_lt _ _ _ hb).trans h
def Tb1 : Bool × List (List Nat × List Nat) := (true, [([], []), ([], []), ([1], [1]), ([2], [2]), ([0, 3], [0, 3]), ([], []), ([], []), ([6], [6]), ([7], [7]), ([5, 8, 4], [5, 8]), ([4, 9, 0, 1, 2, 3, 4], [4]), ([9, 10, 0, 1, 2, 3, 4, 5, 6, 7, 8, 9, 10], [9])])
def Bb1 : List Nat := [0, 0, 2, 6, 15, 0, 0, 64, 192, 511, 1023, 2047]
theorem tabb1 : rtab .any (opsOf Try.f86 1) = Tb1 := by kernel_rfl
theorem bitsb1 : waitsOk Tb1.2 Bb1 = true := by kernel_rfl
def Tb5 : Bool × List (List Nat × List Nat) := (true, [([], []), ([], []), ([], []), ([1, 2], [1, 2]), ([0, 3], [0, 3]), ([], []), ([], []), ([], []), ([6, 7, 3], [6, 7]), ([5, 8], [5, 8]), ([4, 8, 0, 1, 2, 3, 4], [0, 4]), ([9, 10, 0, 1, 2, 3, 4, 5, 6, 7, 8, 9, 10], [5, 9])])
def Bb5 : List Nat := [0, 0, 0, 6, 15, 0, 0, 0, 206, 494, 479, 2047]
theorem tabb5 : rtab .any (opsOf Try.f86 5) = Tb5 := by kernel_rfl
theorem bitsb5 : waitsOk Tb5.2 Bb5 = true := by kernel_rfl
set_option maxHeartbeats 4000000 in
set_option maxRecDepth 100000 in
theorem closure_91 (x y : Int) (w : World) : Calls Try.prog 91 #[.agg #[.int .i64 x, .int .i64 y]] w fun e w' => e = .returned (.int .i64 x) ∧ w' = w.alloc (.cells #[.int .i64 x, .int .i64 y] 76) := by
 have hu76 := Try.underlying76
 go_enter Try.func91, Try.ntmps91
 go_wp2
 refine bodyPost_ret (v := .int .i64 x) (by simp [results, Try.results91, go_sem]) rfl ⟨rfl, rfl⟩
set_option maxHeartbeats 4000000 in
set_option maxRecDepth 100000 in
theorem bounds_91 (b cap : Nat) (cs : List (Int × Int)) (c0 : Int × Int) (h0 : cs[0]? = some c0) (hl : cs.length ≤ 1000) (w : World) (hC : CellsAt w b cs) :
  Calls Try.prog 86 #[.slice (some ⟨b, 0, none⟩) cs.length cap, .func (.func 91) #[] #[]] w fun e w' => e = .returned (.tuple #[.int .i64 (loF Prod.fst (Prod.fst c0) cs), .int .i64 (hiF Prod.fst (Prod.fst c0) cs)]) ∧ Below w.heap.size w w' := by
 have hu76 := Try.underlying76
 have HC := Aside0.mk closure_91
 have hl0 : 0 < cs.length := (List.getElem?_eq_some_iff.1 h0).1
 have hli : (0 : Int) < (cs.length : Int) := by omega
 obtain ⟨q0, q1⟩ := hC.2 0 c0 h0
 simp at q0 q1
 have HX := Aside0.mk hC
 have hbl := hC.1
 clear hC
 go_enter Try.func86, Try.ntmps86
 go_upto_region 1 with (fail)
 have q0 : w.drew.cell? _ = _ := q0
 have q1 : w.drew.cell? _ = _ := q1
 have hX : b < w.drew.heap.size := hbl
 have HB := Aside0.mk (below_drew (Below.refl w.heap.size w))
 refine start_ (n := 12) (S := fun w' => w'.cell? ⟨b, 0, none⟩ = some (.int .i64 c0.1) ∧ w'.cell? ⟨b, 1, none⟩ = some (.int .i64 c0.2)) (ds := []) #[false, false, false, false, false, false, false, false, false, false, false, false] (by kernel_rfl) rfl rfl ⟨q0, q1⟩ (fun hHeld => ?_)
 refine with_tabW tabb1 bitsb1 (fun HT_ HW_ => ?_)
 generalize w.drew = Y0 at *
 refine pu_ (i := 0) (N := some 10) (v := ?_) (a' := ?_) HT_.out rfl rfl (Or.inl ⟨by rfl, ?_⟩) ?_ ?_
 rotate_left
 ·intro w'
  go_simp
  with_reducible rfl
 rotate_left
 ·simp only [sp_]
  rfl
 refine pu_ (i := 1) (N := some 11) (v := ?_) (a' := ?_) HT_.out rfl rfl (Or.inl ⟨by rfl, ?_⟩) ?_ ?_
 rotate_left
 ·intro w'
  go_simp
  with_reducible rfl
 rotate_left
 ·simp only [sp_]
  rfl
 refine pu_ (i := 5) (N := some 15) (v := ?_) (a' := ?_) HT_.out rfl rfl (Or.inl ⟨by rfl, ?_⟩) ?_ ?_
 rotate_left
 ·intro w'
  go_simp
  with_reducible rfl
 rotate_left
 ·simp only [sp_]
  rfl
 refine pu_ (i := 6) (N := some 16) (v := ?_) (a' := ?_) HT_.out rfl rfl (Or.inl ⟨by rfl, ?_⟩) ?_ ?_
 rotate_left
 ·intro w'
  go_simp
  with_reducible rfl
 rotate_left
 ·simp only [sp_]
  rfl
 refine pu_ (i := 2) (N := some 12) (v := ?_) (a' := ?_) HT_.out rfl rfl (Or.inl ⟨by rfl, ?_⟩) ?_ ?_
 rotate_left
 ·intro w'
  go_simp
  with_reducible rfl
 rotate_left
 ·simp only [sp_]
  rfl
 refine pu_ (i := 7) (N := some 17) (v := ?_) (a' := ?_) HT_.out rfl rfl (Or.inl ⟨by rfl, ?_⟩) ?_ ?_
 rotate_left
 ·intro w'
  go_simp
  with_reducible rfl
 rotate_left
 ·simp only [sp_]
  rfl
 refine tk_ (i := 3) (N := some 13) (v := ?_) (a' := ?_) HT_.out HW_.out rfl rfl (Or.inl ⟨by rfl, ?_⟩) hHeld ?_ ?_
 rotate_left
 ·intro w' hSw; obtain ⟨hS0, hS1⟩ := hSw
  go_simp
  with_reducible rfl
 rotate_left
 ·simp only [sp_]
  rfl
 refine tk_ (i := 8) (N := some 18) (v := ?_) (a' := ?_) HT_.out HW_.out rfl rfl (Or.inl ⟨by rfl, ?_⟩) hHeld ?_ ?_
 rotate_left
 ·intro w' hSw; obtain ⟨hS0, hS1⟩ := hSw
  go_simp
  with_reducible rfl
 rotate_left
 ·simp only [sp_]
  rfl
 refine one_ (i := 4) (N := some 14) #[true, true, true, true, true, true, true, true, true, false, false, false] rfl rfl (one_of HT_.out (by kernel_rfl)) (by decide) (fun K hK => ?_)
 refine call_ 91 #[.agg #[.int .i64 c0.1, .int .i64 c0.2]] (by rfl) rfl (by go_simp) ?_
 refine (HC.out _ _ _).mono ?_
 rintro e w9 ⟨rfl, rfl⟩
 refine ⟨_, rfl, ?_⟩
 have HBn := Aside0.mk (HB.out.alloc HB.out.size (.cells #[.int .i64 c0.1, .int .i64 c0.2] 76))
 have hXn := Nat.lt_succ_of_lt hX
 have n0 := cellOld (o := .cells #[.int .i64 c0.1, .int .i64 c0.2] 76) hX q0
 have n1 := cellOld (o := .cells #[.int .i64 c0.1, .int .i64 c0.2] 76) hX q1
 replace hXn : b < (Y0.alloc (.cells #[.int .i64 c0.1, .int .i64 c0.2] 76)).heap.size := by simpa using hXn
 clear HB hX q0 q1 hHeld
 generalize Y0.alloc (.cells #[.int .i64 c0.1, .int .i64 c0.2] 76) = Y1 at *
 have HB := HBn
 have hX := hXn
 have q0 := n0
 have q1 := n1
 clear HBn hXn n0 n1
 refine hK.out _ _ ⟨q0, q1⟩ (fun hHeld => ?_)
 clear hK K
 (try simp only [Act.put, List.setIfInBounds_toArray, List.set_cons_zero, List.set_cons_succ])
 refine one_ (i := 9) (N := some 19) #[true, true, true, true, true, true, true, true, true, true, false, false] rfl rfl (one_of HT_.out (by kernel_rfl)) (by decide) (fun K hK => ?_)
 refine call_ 91 #[.agg #[.int .i64 c0.1, .int .i64 c0.2]] (by rfl) rfl (by go_simp) ?_
 refine (HC.out _ _ _).mono ?_
 rintro e w9 ⟨rfl, rfl⟩
 refine ⟨_, rfl, ?_⟩
 have HBn := Aside0.mk (HB.out.alloc HB.out.size (.cells #[.int .i64 c0.1, .int .i64 c0.2] 76))
 have hXn := Nat.lt_succ_of_lt hX
 have n0 := cellOld (o := .cells #[.int .i64 c0.1, .int .i64 c0.2] 76) hX q0
 have n1 := cellOld (o := .cells #[.int .i64 c0.1, .int .i64 c0.2] 76) hX q1
 replace hXn : b < (Y1.alloc (.cells #[.int .i64 c0.1, .int .i64 c0.2] 76)).heap.size := by simpa using hXn
 clear HB hX q0 q1 hHeld
 generalize Y1.alloc (.cells #[.int .i64 c0.1, .int .i64 c0.2] 76) = Y2 at *
 have HB := HBn
 have hX := hXn
 have q0 := n0
 have q1 := n1
 clear HBn hXn n0 n1
 refine hK.out _ _ ⟨q0, q1⟩ (fun hHeld => ?_)
 clear hK K
 (try simp only [Act.put, List.setIfInBounds_toArray, List.set_cons_zero, List.set_cons_succ])
 refine pu_ (i := 10) (N := some 6) (v := ?_) (a' := ?_) HT_.out rfl rfl (Or.inl ⟨by rfl, ?_⟩) ?_ ?_
 rotate_left
 ·intro w'
  go_simp
  with_reducible rfl
 rotate_left
 ·simp only [sp_]
  rfl
 refine pu_ (i := 11) (N := some 7) (v := ?_) (a' := ?_) HT_.out rfl rfl (Or.inl ⟨by rfl, ?_⟩) ?_ ?_
 rotate_left
 ·intro w'
  go_simp
  with_reducible rfl
 rotate_left
 ·simp only [sp_]
  rfl
 refine done_ (done_of HT_.out (by kernel_rfl)) ?_
 clear HT_ HW_ hHeld q0 q1 hX
 go_wp2_with (fail)
 go_loopg [6, 7, 22] cs.length (fun m v6 v7 v22 wr => ∃ (i : Nat) (lo hi : Int), v6 = .int .i64 lo ∧ v7 = .int .i64 hi ∧ v22 = .int .i64 (i : Int) ∧ Aside0 (i + m = cs.length) ∧ Aside0 (loF Prod.fst lo (cs.drop i) = loF Prod.fst (Prod.fst c0) cs ∧ hiF Prod.fst hi (cs.drop i) = hiF Prod.fst (Prod.fst c0) cs) ∧ Aside0 (Below w.heap.size w wr))
 case atStart => exact ⟨0, _, _, rfl, rfl, rfl, ⟨by omega⟩, ⟨rfl, rfl⟩, HB⟩
 case round =>
  clear HB
  obtain ⟨i, lo, hi, rfl, rfl, rfl, HI, HF, HB⟩ := hrel
  cases gk with
  | zero =>
   have hii : ¬ ((i : Int) < (cs.length : Int)) := by have := HI.out; omega
   have ht : Aside0 (lo = loF Prod.fst (Prod.fst c0) cs ∧ hi = hiF Prod.fst (Prod.fst c0) cs) := by
    have := HF.out
    rw [List.drop_eq_nil_of_le (by have := HI.out; omega)] at this
    exact ⟨this⟩
   clear HF HI
   go_wp2_with (fail)
   go_ret2
   exact ⟨by rw [ht.out.1, ht.out.2]; rfl, HB.out⟩
  | succ m =>
   have hin : i < cs.length := by have := HI.out; omega
   have hii : (i : Int) < (cs.length : Int) := by omega
   obtain ⟨c, hc⟩ : ∃ c, c = cs[i] := ⟨_, rfl⟩
   obtain ⟨p0, p1⟩ := (HX.out.below HB.out).2 i c (by rw [hc]; exact List.getElem?_eq_getElem hin)
   obtain ⟨lo1, e1⟩ : ∃ lo1, (if Prod.fst c < lo then Prod.fst c else lo) = lo1 := ⟨_, rfl⟩
   obtain ⟨hi1, e2⟩ : ∃ hi1, (if hi < Prod.fst c then Prod.fst c else hi) = hi1 := ⟨_, rfl⟩
   have HN : Aside0 (loF Prod.fst lo1 (cs.drop (i + 1)) = loF Prod.fst (Prod.fst c0) cs ∧ hiF Prod.fst hi1 (cs.drop (i + 1)) = hiF Prod.fst (Prod.fst c0) cs) := by
    have := HF.out
    rw [List.drop_eq_getElem_cons hin, ← hc] at this
    rw [← e1, ← e2]
    exact ⟨this⟩
   have hw := wrap_id (x := (i : Int) + 1) (by omega) (by omega)
   replace hc := Aside0.mk hc
   clear HF
   go_upto_region 5 with (fail)
   have HS : w.heap.size ≤ wr.heap.size := HB.out.size
   have HA : Aside0 ((wr.alloc (.cells #[.int .i64 c.1, .int .i64 c.2] 76)).heap[wr.heap.size]? = some (.cells #[.int .i64 c.1, .int .i64 c.2] 76 (0, 0))) := ⟨blk_new _ _⟩
   have HB1 : Aside0 (Below w.heap.size w (wr.alloc (.cells #[.int .i64 c.1, .int .i64 c.2] 76))) := ⟨HB.out.alloc HS _⟩
   clear HB p0 p1
   generalize wr.alloc (.cells #[.int .i64 c.1, .int .i64 c.2] 76) = W4 at *
   generalize wr.heap.size = X at *
   have a0 := blk_cell HA.out 0
   have a1 := blk_cell HA.out 1
   simp at a0 a1
   have hX := blk_lt HA.out
   have a0 : W4.drew.cell? _ = _ := a0
   have a1 : W4.drew.cell? _ = _ := a1
   have hX : X < W4.drew.heap.size := hX
   have HB := Aside0.mk (below_drew HB1.out)
   clear HA HB1
   refine start_ (n := 12) (S := fun w' => w'.cell? ⟨X, 0, none⟩ = some (.int .i64 c.1) ∧ w'.cell? ⟨X, 1, none⟩ = some (.int .i64 c.2)) (ds := []) #[false, false, false, false, false, false, false, false, false, false, false, false] (by kernel_rfl) rfl rfl ⟨a0, a1⟩ (fun hHeld => ?_)
   refine with_tabW tabb5 bitsb5 (fun HT_ HW_ => ?_)
   generalize W4.drew = Z0 at *
   refine pu_ (i := 0) (N := some 26) (v := ?_) (a' := ?_) HT_.out rfl rfl (Or.inl ⟨by rfl, ?_⟩) ?_ ?_
   rotate_left
   ·intro w'
    go_simp
    with_reducible rfl
   rotate_left
   ·simp only [sp_]
    rfl
   refine pu_ (i := 1) (N := some 27) (v := ?_) (a' := ?_) HT_.out rfl rfl (Or.inl ⟨by rfl, ?_⟩) ?_ ?_
   rotate_left
   ·intro w'
    go_simp
    with_reducible rfl
   rotate_left
   ·simp only [sp_]
    rfl
   refine pu_ (i := 5) (N := some 31) (v := ?_) (a' := ?_) HT_.out rfl rfl (Or.inl ⟨by rfl, ?_⟩) ?_ ?_
   rotate_left
   ·intro w'
    go_simp
    with_reducible rfl
   rotate_left
   ·simp only [sp_]
    rfl
   refine pu_ (i := 6) (N := some 32) (v := ?_) (a' := ?_) HT_.out rfl rfl (Or.inl ⟨by rfl, ?_⟩) ?_ ?_
   rotate_left
   ·intro w'
    go_simp
    with_reducible rfl
   rotate_left
   ·simp only [sp_]
    rfl
   refine tk_ (i := 2) (N := some 28) (v := ?_) (a' := ?_) HT_.out HW_.out rfl rfl (Or.inl ⟨by rfl, ?_⟩) hHeld ?_ ?_
   rotate_left
   ·intro w' hSw; obtain ⟨hS0, hS1⟩ := hSw
    go_simp
    with_reducible rfl
   rotate_left
   ·simp only [sp_]
    rfl
   refine tk_ (i := 7) (N := some 33) (v := ?_) (a' := ?_) HT_.out HW_.out rfl rfl (Or.inl ⟨by rfl, ?_⟩) hHeld ?_ ?_
   rotate_left
   ·intro w' hSw; obtain ⟨hS0, hS1⟩ := hSw
    go_simp
    with_reducible rfl
   rotate_left
   ·simp only [sp_]
    rfl
   refine one_ (i := 3) (N := some 29) #[true, true, true, true, false, true, true, true, false, false, false, false] rfl rfl (one_of HT_.out (by kernel_rfl)) (by decide) (fun K hK => ?_)
   refine call_ 91 #[.agg #[.int .i64 c.1, .int .i64 c.2]] (by rfl) rfl (by go_simp) ?_
   refine (HC.out _ _ _).mono ?_
   rintro e w9 ⟨rfl, rfl⟩
   refine ⟨_, rfl, ?_⟩
   have HBn := Aside0.mk (HB.out.alloc HB.out.size (.cells #[.int .i64 c.1, .int .i64 c.2] 76))
   have hXn := Nat.lt_succ_of_lt hX
   have n0 := cellOld (o := .cells #[.int .i64 c.1, .int .i64 c.2] 76) hX a0
   have n1 := cellOld (o := .cells #[.int .i64 c.1, .int .i64 c.2] 76) hX a1
   replace hXn : X < (Z0.alloc (.cells #[.int .i64 c.1, .int .i64 c.2] 76)).heap.size := by simpa using hXn
   clear HB hX a0 a1 hHeld
   generalize Z0.alloc (.cells #[.int .i64 c.1, .int .i64 c.2] 76) = Y3 at *
   have HB := HBn
   have hX := hXn
   have a0 := n0
   have a1 := n1
   clear HBn hXn n0 n1
   refine hK.out _ _ ⟨a0, a1⟩ (fun hHeld => ?_)
   clear hK K
   (try simp only [Act.put, List.setIfInBounds_toArray, List.set_cons_zero, List.set_cons_succ])
   refine pu_ (i := 4) (N := some 30) (v := ?_) (a' := ?_) HT_.out rfl rfl (Or.inl ⟨by rfl, ?_⟩) ?_ ?_
   rotate_left
   ·intro w'
    go_simp
    with_reducible rfl
   rotate_left
   ·simp only [sp_]
    rfl
   refine one_ (i := 8) (N := some 34) #[true, true, true, true, true, true, true, true, true, false, false, false] rfl rfl (one_of HT_.out (by kernel_rfl)) (by decide) (fun K hK => ?_)
   refine call_ 91 #[.agg #[.int .i64 c.1, .int .i64 c.2]] (by rfl) rfl (by go_simp) ?_
   refine (HC.out _ _ _).mono ?_
   rintro e w9 ⟨rfl, rfl⟩
   refine ⟨_, rfl, ?_⟩
   have HBn := Aside0.mk (HB.out.alloc HB.out.size (.cells #[.int .i64 c.1, .int .i64 c.2] 76))
   have hXn := Nat.lt_succ_of_lt hX
   have n0 := cellOld (o := .cells #[.int .i64 c.1, .int .i64 c.2] 76) hX a0
   have n1 := cellOld (o := .cells #[.int .i64 c.1, .int .i64 c.2] 76) hX a1
   replace hXn : X < (Y3.alloc (.cells #[.int .i64 c.1, .int .i64 c.2] 76)).heap.size := by simpa using hXn
   clear HB hX a0 a1 hHeld
   generalize Y3.alloc (.cells #[.int .i64 c.1, .int .i64 c.2] 76) = Y4 at *
   have HB := HBn
   have hX := hXn
   have a0 := n0
   have a1 := n1
   clear HBn hXn n0 n1
   refine hK.out _ _ ⟨a0, a1⟩ (fun hHeld => ?_)
   clear hK K
   (try simp only [Act.put, List.setIfInBounds_toArray, List.set_cons_zero, List.set_cons_succ])
   refine pu_ (i := 9) (N := some 35) (v := ?_) (a' := ?_) HT_.out rfl rfl (Or.inl ⟨by rfl, ?_⟩) ?_ ?_
   rotate_left
   ·intro w'
    go_simp
    with_reducible rfl
   rotate_left
   ·simp only [sp_]
    rfl
   refine pu_ (i := 10) (N := some 6) (v := ?_) (a' := ?_) HT_.out rfl rfl (Or.inl ⟨by rfl, ?_⟩) ?_ ?_
   rotate_left
   ·intro w'
    go_simp
    with_reducible rfl
   rotate_left
   ·simp only [sp_]
    rfl
   refine pu_ (i := 11) (N := some 7) (v := ?_) (a' := ?_) HT_.out rfl rfl (Or.inl ⟨by rfl, ?_⟩) ?_ ?_
   rotate_left
   ·intro w'
    go_simp
    with_reducible rfl
   rotate_left
   ·simp only [sp_]
    rfl
   refine done_ (done_of HT_.out (by kernel_rfl)) ?_
   clear HT_ HW_ hHeld a0 a1 hX
   go_wp2_with (fail)
   go_roundg m
   case measure => omega
   case rel => exact ⟨i + 1, lo1, hi1, by first | rfl | go_num, by first | rfl | go_num, by first | rfl | go_num, ⟨by have := HI.out; omega⟩, HN, HB⟩
end Go.Proofs.Ytjedhjeijpbobaa.G8
namespace Go.Proofs.Ytjedhjeijpbobaa.G8
open Go.RowKit Go.Maps YtjedhjeijpbobaaW.PrintWords YtjedhjeijpbobaaW.PrintLast YtjedhjeijpbobaaW.PrintMore
open GA
theorem chips_front (ex B : Int) (mv : Int → Int → Int → Int × Int) (K : Nat) (k0 : Int) : ∀ (n : Nat) (S S1 : St), chips ex B mv K k0 n S = some S1 → ∃ more, S1.cells = S.cells ++ more
 | 0, S, S1, h => by
  simp only [chips, Option.some.injEq] at h
  subst h
  exact ⟨[], by simp⟩
 | n + 1, S, S1, h => by
  simp only [chips] at h
  obtain ⟨⟨F1, x1, y1, s1⟩, hr, h⟩ := Option.bind_eq_some_iff.1 h
  obtain ⟨more, hm⟩ := chips_front ex B mv K k0 n _ S1 h
  exact ⟨(x1, y1) :: more, by rw [hm]; simp⟩
theorem chips_first {ex B : Int} {mv : Int → Int → Int → Int × Int} {K n : Nat} {k0 : Int} {S : St} (hB : 0 ≤ B) (hn : 0 < n) (h : chips ex B mv K k0 n st0 = some S) : S.cells[0]? = some (0, 0) := by
 obtain ⟨n, rfl⟩ : ∃ m, n = m + 1 := ⟨n - 1, by omega⟩
 simp only [chips] at h
 obtain ⟨⟨F1, x1, y1, s1⟩, hr, h⟩ := Option.bind_eq_some_iff.1 h
 obtain ⟨more, hm⟩ := chips_front ex B mv K k0 n _ S h
 cases K with
 | zero => simp [run] at hr
 | succ K =>
  unfold run at hr
  rw [if_pos (by omega)] at hr
  simp only [st0, Option.some.injEq, Prod.mk.injEq] at hr
  obtain ⟨_, rfl, rfl, _⟩ := hr
  rw [hm]
  simp [st0]
theorem GroAt.cellsAt {w : World} {base g gm N : Nat} {vc : Value} {F : Fld} {cs : List (Int × Int)} {s : Int} (h : GroAt w base g gm N vc F cs s) (hp : 0 < cs.length) :
  ∃ b cap, vc = .slice (some ⟨b, 0, none⟩) cs.length cap ∧ CellsAt w b cs := by
 obtain ⟨b, cap, hv, hb, hE⟩ := h.form hp
 exact ⟨b, cap, hv, h.lt (.inr (.inr (by rw [hv]; rfl))), hE⟩
def okEnds (n k : Int) : Bool := okLine n k && !decide (n = 0)
def endsV (n k : Int) : List Int := if okEnds n k = true then [loF Prod.fst 0 (lineS n k).cells, hiF Prod.fst 0 (lineS n k).cells] else []
theorem ends0 {n k : Int} (h : okLine n k = false) : endsV n k = [] ∧ okEnds n k = false := by unfold endsV okEnds; rw [h]; simp
theorem ends1 {n k : Int} (h : n = 0) : endsV n k = [] ∧ okEnds n k = false := by unfold endsV okEnds; simp [h]
theorem ends2 {n k : Int} (h : okLine n k = true) (h0 : n ≠ 0) : endsV n k = [loF Prod.fst 0 (lineS n k).cells, hiF Prod.fst 0 (lineS n k).cells] ∧ okEnds n k = true := by
 have e : okEnds n k = true := by unfold okEnds; rw [h]; simp [h0]
 exact ⟨by unfold endsV; rw [e]; rfl, e⟩
theorem line_first {n k : Int} (h : okLine n k = true) (h0 : n ≠ 0) : (lineS n k).cells[0]? = some (0, 0) ∧ 0 < (lineS n k).cells.length ∧ (lineS n k).cells.length ≤ 1000 := by
 have h1 := (line_f h).1
 obtain ⟨m, rfl, hm, _, _, hS⟩ := line_is h
 exact ⟨chips_first (by omega) (by omega) hS, by omega, by omega⟩
theorem mins_lo : ∀ (cs : List (Int × Int)) (a : Int), mins a cs = loF Prod.fst a cs
 | [], a => rfl
 | c :: cs, a => by
  have e : (if a < c.1 then a else c.1) = if c.1 < a then c.1 else a := by split <;> split <;> omega
  show mins (if a < c.1 then a else c.1) cs = loF Prod.fst (if c.1 < a then c.1 else a) cs
  rw [e]
  exact mins_lo cs _
theorem maxs_hi : ∀ (cs : List (Int × Int)) (a : Int), maxs a cs = hiF Prod.fst a cs
 | [], a => rfl
 | c :: cs, a => by
  have e : (if a > c.1 then a else c.1) = if a < c.1 then c.1 else a := by split <;> split <;> omega
  show maxs (if a > c.1 then a else c.1) cs = hiF Prod.fst (if a < c.1 then c.1 else a) cs
  rw [e]
  exact maxs_hi cs _
theorem loF_start {sel : Int × Int → Int} {cs : List (Int × Int)} {c : Int × Int} (h : cs[0]? = some c) {a : Int} (ha : sel c ≤ a) : loF sel a cs = loF sel (sel c) cs := by
 match cs, h with
 | d :: cs, h =>
  simp at h
  subst h
  show loF sel (if sel d < a then sel d else a) cs = loF sel (if sel d < sel d then sel d else sel d) cs
  have e1 : (if sel d < a then sel d else a) = sel d := by split <;> omega
  have e2 : (if sel d < sel d then sel d else sel d) = sel d := by split <;> rfl
  rw [e1, e2]
theorem hiF_start {sel : Int × Int → Int} {cs : List (Int × Int)} {c : Int × Int} (h : cs[0]? = some c) {a : Int} (ha : a ≤ sel c) : hiF sel a cs = hiF sel (sel c) cs := by
 match cs, h with
 | d :: cs, h =>
  simp at h
  subst h
  show hiF sel (if a < sel d then sel d else a) cs = hiF sel (if sel d < sel d then sel d else sel d) cs
  have e1 : (if a < sel d then sel d else a) = sel d := by split <;> omega
  have e2 : (if sel d < sel d then sel d else sel d) = sel d := by split <;> rfl
  rw [e1, e2]
theorem lined_eq (n k : Int) : spec_gwLined.f n k = some (okLine n k) := by
 unfold spec_gwLined.f okLine
 rw [spec_in_eq, Option.bind_some]
 cases inB n 0 250 with
 | true => rw [if_pos rfl, spec_in_eq]; rfl
 | false => rw [if_neg (by decide)]; rfl
theorem spec_LineEnds_eq (n k : Int) : ∃ j, spec_LineEnds.f j n k = some (endsV n k, okEnds n k) := by
 cases ho : okLine n k with
 | false =>
  refine ⟨0, ?_⟩
  unfold spec_LineEnds.f
  rw [lined_eq, ho, Option.bind_some, if_neg (by decide), (ends0 ho).1, (ends0 ho).2]
 | true =>
  by_cases h0 : n = 0
  ·refine ⟨0, ?_⟩
   unfold spec_LineEnds.f
   rw [lined_eq, ho, Option.bind_some, if_pos rfl, if_pos h0, (ends1 (k := k) h0).1, (ends1 (k := k) h0).2]
  ·obtain ⟨_, _, j, hj⟩ := line_f ho
   obtain ⟨hc, _, _⟩ := line_first ho h0
   refine ⟨j, ?_⟩
   unfold spec_LineEnds.f
   rw [lined_eq, ho, Option.bind_some, if_pos rfl, if_neg h0, hj, Option.bind_some, (ends2 ho h0).1, (ends2 ho h0).2, mins_lo, maxs_hi, loF_start hc (by decide), hiF_start hc (by decide)]
def impl_LineEnds.f (n k : Int) : Option (List Int × Bool) := some (endsV n k, okEnds n k)
set_option maxHeartbeats 4000000 in
set_option maxRecDepth 100000 in
theorem impl_LineEnds.walk (n k : Int) (w : World) : Calls Try.prog 52 #[.int .i64 n, .int .i64 k] w fun e w' => ∃ v0_ : Value, e = .returned (.tuple #[v0_, .bool (okEnds n k)]) ∧ Kd.R (Kd.int .i64) 3 w' w.heap.size (fun _ => True) v0_ (endsV n k) ∧ Below w.heap.size w w' := by
 have HG := Aside0.mk (fun W => onLine_calls n k W)
 cases ho : okLine n k with
 | false =>
  rw [(ends0 ho).1, (ends0 ho).2]
  rw [ho] at HG
  clear ho
  go_enter Try.func52, Try.ntmps52
  go_wp2_with (first | (go_at_call 70; (with_reducible refine (HG.out _).mono ?_); rintro e w1 (⟨_, rfl, hB⟩ | ⟨h, _⟩); rotate_left; (exact absurd h (by decide)); have HB := Aside0.mk hB; clear hB))
  go_ret2
  exact ⟨_, rfl, Kd.R_nil _ _ _ _ _, HB.out⟩
 | true =>
  rw [ho] at HG
  by_cases h0 : n = 0
  ·rw [(ends1 (k := k) h0).1, (ends1 (k := k) h0).2]
   clear ho
   subst h0
   generalize lineS 0 k = S at *
   go_enter Try.func52, Try.ntmps52
   go_wp2_with (first | (go_at_call 70; (with_reducible refine (HG.out _).mono ?_); rintro e w1 (⟨h, _⟩ | ⟨_, g, gm, N, vc, rfl, hB, hG⟩); (exact absurd h (by decide)); have HB := Aside0.mk hB; clear hB))
   go_ret2
   exact ⟨_, rfl, Kd.R_nil _ _ _ _ _, HB.out⟩
  ·rw [(ends2 ho h0).1, (ends2 ho h0).2]
   obtain ⟨hc, hl, hl2⟩ := line_first ho h0
   clear ho
   generalize lineS n k = S at *
   have HQ := Aside0.mk (fun b cap W h => bounds_91 b cap S.cells (0, 0) hc hl2 W h)
   generalize loF Prod.fst 0 S.cells = lo at *
   generalize hiF Prod.fst 0 S.cells = hi at *
   go_enter Try.func52, Try.ntmps52
   go_wp2_with (first | (go_at_call 70; (with_reducible refine (HG.out _).mono ?_); rintro e w1 (⟨h, _⟩ | ⟨_, g, gm, N, vc, rfl, hB, hG⟩); (exact absurd h (by decide)); have HB := Aside0.mk hB; clear hB; obtain ⟨b, cap, rfl, hE⟩ := hG.out.cellsAt hl; have HE := Aside0.mk hE; have c1 := blk_cell hG.out.blk 1; simp at c1; clear hE) | (go_at_call 86; refine (HQ.out b cap _ HE.out).mono ?_; rintro e w2 ⟨rfl, hB2⟩; have HB2 := Aside0.mk (HB.out.trans (hB2.mono HB.out.size)); clear hB2))
   go_ret2
   have hs := HB2.out.size
   exact ⟨_, rfl, pairR hs (blk_new w2 _), HB2.out.alloc hs _⟩
theorem impl_LineEnds.calls (n k : Int) (r1 : List Int) (r2 : Bool) (w : World) (h : impl_LineEnds.f n k = some (r1, r2)) :
  Calls Try.prog 52 #[.int .i64 n, .int .i64 k] w fun e w' => ∃ v0_ : Value, e = .returned (.tuple #[v0_, .bool r2]) ∧ Kd.R (Kd.int .i64) 3 w' w.heap.size (fun _ => True) v0_ r1 ∧ Below w.heap.size w w' := by
 have e := Option.some.inj h
 injection e with e1 e2
 subst e1 e2
 exact impl_LineEnds.walk n k w
end Go.Proofs.Ytjedhjeijpbobaa.G8
namespace Go.Proofs.Ytjedhjeijpbobaa.G8
open Go.RowKit Go.Maps YtjedhjeijpbobaaW.PrintWords YtjedhjeijpbobaaW.PrintLast YtjedhjeijpbobaaW.PrintMore
open GA
end Go.Proofs.Ytjedhjeijpbobaa.G8
namespace Go.Proofs.Ytjedhjeijpbobaa.G8
open Go.RowKit Go.Maps YtjedhjeijpbobaaW.PrintWords YtjedhjeijpbobaaW.PrintLast YtjedhjeijpbobaaW.PrintMore
open GA
end Go.Proofs.Ytjedhjeijpbobaa.G8
namespace Go.Proofs.Ytjedhjeijpbobaa.G8
open Go.RowKit
def mir (F : Fld) : Fld := fun a b => (F (-a) b).map (fun r => 1 - r)
def Bin (F : Fld) : Prop := ∀ a b r, F a b = some r → r = 0 ∨ r = 1
theorem Bin.upd {F : Fld} (h : Bin F) (x y : Int) {r : Int} (hr : r = 0 ∨ r = 1) : Bin (upd F x y r) := fun a b q e => by
 unfold G8.upd at e
 split at e
 ·cases e; exact hr
 ·exact h a b q e
theorem mir_upd (F : Fld) (x y r : Int) : mir (upd F x y r) = upd (mir F) (-x) y (1 - r) := by
 funext a b
 unfold mir upd
 by_cases e : -a = x ∧ b = y
 ·rw [if_pos e, if_pos ⟨by omega, e.2⟩]; rfl
 ·rw [if_neg e, if_neg (fun q => e ⟨by omega, q.2⟩)]
theorem mv2_mir (r x y : Int) (hr : r = 0 ∨ r = 1) : mv2 (1 - r) (-x) y = (-(mv2 r x y).1, (mv2 r x y).2) := by
 rcases hr with rfl | rfl
 ·unfold mv2; rw [if_neg (by decide), if_pos rfl]; simp only [Prod.mk.injEq, and_true]; omega
 ·unfold mv2; rw [if_pos (by decide), if_neg (by decide)]; simp only [Prod.mk.injEq, and_true]; omega
theorem run_mir : ∀ (k : Nat) (F : Fld) (x y s : Int) (F1 : Fld) (x1 y1 s1 : Int), Bin F → run 2 300 mv2 k F x y s = some (F1, x1, y1, s1) →
  run 2 300 mv2 k (mir F) (-x) y s = some (mir F1, -x1, y1, s1) ∧ Bin F1
 | 0, F, x, y, s, F1, x1, y1, s1, hb, h => by simp [run] at h
 | k + 1, F, x, y, s, F1, x1, y1, s1, hb, h => by
  unfold run at h ⊢
  by_cases hin : -300 ≤ x ∧ x ≤ 300 ∧ -300 ≤ y ∧ y ≤ 300
  ·rw [if_pos hin] at h
   rw [if_pos (by omega)]
   have hm : mir F (-x) y = (F x y).map (fun r => 1 - r) := by unfold mir; rw [Int.neg_neg]
   rw [hm]
   cases hF : F x y with
   | none =>
    rw [hF] at h
    simp only [Option.some.injEq, Prod.mk.injEq] at h
    obtain ⟨rfl, rfl, rfl, rfl⟩ := h
    exact ⟨rfl, hb⟩
   | some r =>
    rw [hF] at h
    simp only [Option.map_some] at h ⊢
    have hr := hb x y r hF
    have hr1 : (r + 1) % 2 = 0 ∨ (r + 1) % 2 = 1 := by omega
    have e : (1 - r + 1) % 2 = 1 - (r + 1) % 2 := by omega
    have ih := run_mir k _ _ _ _ F1 x1 y1 s1 (hb.upd x y hr1) h
    rw [mir_upd] at ih
    rw [e, mv2_mir _ _ _ hr1]
    exact ih
  ·rw [if_neg hin] at h; cases h
def mirS (S : St) : St := ⟨mir S.f, S.cells.map (fun c => (-c.1, c.2)), S.steps⟩
theorem chips_mir {k0 : Int} (hk : k0 = 0 ∨ k0 = 1) (K : Nat) : ∀ (n : Nat) (S S1 : St), Bin S.f → chips 2 300 mv2 K k0 n S = some S1 → chips 2 300 mv2 K (1 - k0) n (mirS S) = some (mirS S1)
 | 0, S, S1, hb, h => by
  simp only [chips, Option.some.injEq] at h ⊢
  rw [h]
 | n + 1, S, S1, hb, h => by
  simp only [chips] at h ⊢
  obtain ⟨⟨F1, x1, y1, s1⟩, hr, h⟩ := Option.bind_eq_some_iff.1 h
  obtain ⟨hr2, hb1⟩ := run_mir K _ _ _ _ F1 x1 y1 s1 hb hr
  have ih := chips_mir hk K n _ S1 (hb1.upd x1 y1 hk) h
  have e0 : run 2 300 mv2 K (mirS S).f 0 0 (mirS S).steps = some (mir F1, -x1, y1, s1) := hr2
  rw [e0, Option.bind_some]
  simp only
  rw [← ih]
  unfold mirS
  simp only [mir_upd, List.map_append, List.map_cons, List.map_nil]
theorem mir0 : mirS st0 = st0 := by
 unfold mirS st0 mir
 simp
theorem line_mir {n k : Int} (h : okLine n k = true) : okLine n (1 - k) = true ∧ lineS n (1 - k) = mirS (lineS n k) := by
 obtain ⟨m, rfl, hm, h0, h1, hS⟩ := line_is h
 have hk : k = 0 ∨ k = 1 := by omega
 have hS2 := chips_mir hk 215603 m st0 _ (fun a b r e => by simp [st0] at e) hS
 rw [mir0] at hS2
 refine ⟨?_, ?_⟩
 ·unfold okLine inB at h ⊢
  rcases hk with rfl | rfl
  ·simpa using h
  ·simpa using h
 ·unfold lineS at hS2 ⊢
  rw [show ((m : Int)).toNat = m from rfl] at hS2 ⊢
  rw [hS2]; rfl
theorem lo_mir : ∀ (cs : List (Int × Int)) (a : Int), loF Prod.fst a (cs.map (fun c => (-c.1, c.2))) = -(hiF Prod.fst (-a) cs)
 | [], a => by simp [loF, hiF]
 | c :: cs, a => by
  have ih := lo_mir cs
  unfold loF hiF at *
  simp only [List.map_cons, List.foldl_cons]
  by_cases e : -c.1 < a
  ·rw [if_pos e, if_pos (by omega), ih, Int.neg_neg]
  ·rw [if_neg e, if_neg (by omega), ih]
theorem hi_mir : ∀ (cs : List (Int × Int)) (a : Int), hiF Prod.fst a (cs.map (fun c => (-c.1, c.2))) = -(loF Prod.fst (-a) cs)
 | [], a => by simp [loF, hiF]
 | c :: cs, a => by
  have ih := hi_mir cs
  unfold loF hiF at *
  simp only [List.map_cons, List.foldl_cons]
  by_cases e : a < -c.1
  ·rw [if_pos e, if_pos (by omega), ih, Int.neg_neg]
  ·rw [if_neg e, if_neg (by omega), ih]
def wl (F : Fld) (c : Int) : Int := if F c 0 = some 0 then -1 else 0
theorem lin_step {F : Fld} {lo x r : Int} {n : Nat} (L : Line F lo n) (h0 : lo ≤ x) (h1 : x < lo + n) (hr : F x 0 = some r) :
  (mv2 ((r + 1) % 2) x 0).1 + psum (wl (upd F x 0 ((r + 1) % 2))) n lo = x + psum (wl F) n lo := by
 have hu0 : ∀ r1, upd F x 0 r1 x 0 = some r1 := fun r1 => by unfold upd; rw [if_pos ⟨rfl, rfl⟩]
 have hu : ∀ c r1, c ≠ x → upd F x 0 r1 c 0 = F c 0 := fun c r1 hc => by unfold upd; rw [if_neg (fun e => hc e.1)]
 rw [psum_upd (wl F) (wl (upd F x 0 ((r + 1) % 2))) x (fun c hc => by unfold wl; rw [hu c _ hc]) n lo h0 h1]
 rcases L.on x h0 h1 with h | h
 ·rw [h] at hr
  cases hr
  have e : ((0 : Int) + 1) % 2 = 1 := by decide
  rw [e]
  have e1 : mv2 1 x 0 = (x - 1, 0) := by unfold mv2; rw [if_neg (by omega)]
  have w1 : wl (upd F x 0 1) x = 0 := by unfold wl; rw [hu0, if_neg (by decide)]
  have w2 : wl F x = -1 := by unfold wl; rw [h, if_pos rfl]
  rw [e1, w1, w2]
  simp only
  omega
 ·rw [h] at hr
  cases hr
  have e : ((1 : Int) + 1) % 2 = 0 := by decide
  rw [e]
  have e1 : mv2 0 x 0 = (x + 1, 0) := by unfold mv2; rw [if_pos rfl]
  have w1 : wl (upd F x 0 0) x = -1 := by unfold wl; rw [hu0, if_pos rfl]
  have w2 : wl F x = 0 := by unfold wl; rw [h, if_neg (by decide)]
  rw [e1, w1, w2]
  simp only
  omega
theorem run_lin {lo : Int} {n : Nat} : ∀ (k : Nat) (F : Fld) (x s : Int) (F1 : Fld) (x1 y1 s1 : Int), Line F lo n → lo - 1 ≤ x → x ≤ lo + n → run 2 300 mv2 k F x 0 s = some (F1, x1, y1, s1) →
  y1 = 0 ∧ Line F1 lo n ∧ (x1 = lo - 1 ∨ x1 = lo + n) ∧ x1 + psum (wl F1) n lo = x + psum (wl F) n lo
 | 0, F, x, s, F1, x1, y1, s1, L, h0, h1, h => by simp [run] at h
 | k + 1, F, x, s, F1, x1, y1, s1, L, h0, h1, h => by
  unfold run at h
  split at h
  ·by_cases hin : lo ≤ x ∧ x < lo + n
   ·obtain ⟨r, hr⟩ : ∃ r, F x 0 = some r := by rcases L.on x hin.1 hin.2 with h | h <;> exact ⟨_, h⟩
    obtain ⟨L1, _, hm, h2, h3⟩ := line_step L hin.1 hin.2 hr
    have hl := lin_step L hin.1 hin.2 hr
    rw [hr] at h
    simp only at h
    rw [hm] at h
    obtain ⟨a, b, c, d⟩ := run_lin k _ _ _ F1 x1 y1 s1 L1 h2 h3 h
    exact ⟨a, b, c, by rw [d, hl]⟩
   ·rw [L.off x 0 (fun h => hin h.2)] at h
    simp only [Option.some.injEq, Prod.mk.injEq] at h
    obtain ⟨rfl, rfl, rfl, rfl⟩ := h
    exact ⟨rfl, L, by omega, rfl⟩
  ·cases h
theorem psum_end (f : Int → Int) : ∀ (n : Nat) (lo : Int), psum f (n + 1) lo = psum f n lo + f (lo + n)
 | 0, lo => by simp [psum]
 | n + 1, lo => by
  have ih := psum_end f n (lo + 1)
  rw [show psum f (n + 1 + 1) lo = f lo + psum f (n + 1) (lo + 1) from rfl, ih, show psum f (n + 1) lo = f lo + psum f n (lo + 1) from rfl]
  rw [show lo + 1 + (n : Int) = lo + ((n + 1 : Nat) : Int) by omega]
  omega
theorem chips_lin (K : Nat) : ∀ (m n : Nat) (lo : Int) (F : Fld) (cs : List (Int × Int)) (s : Int) (S : St), lo ≤ 1 → 0 < lo + n → Line F lo n → psum (fun c => c) n lo + psum (wl F) n lo = 0 → (n = 0 ∨ ∃ c, lo ≤ c ∧ c < lo + n ∧ F c 0 = some 1) →
  chips 2 300 mv2 K 1 m ⟨F, cs, s⟩ = some S → ∃ lo1, Line S.f lo1 (n + m) ∧ psum (fun c => c) (n + m) lo1 + psum (wl S.f) (n + m) lo1 = 0 ∧ (n + m = 0 ∨ ∃ c, lo1 ≤ c ∧ c < lo1 + (n + m : Nat) ∧ S.f c 0 = some 1)
 | 0, n, lo, F, cs, s, S, h1, h2, L, hp, hc, h => by
  simp only [chips, Option.some.injEq] at h
  subst h
  exact ⟨lo, L, hp, hc⟩
 | m + 1, n, lo, F, cs, s, S, h1, h2, L, hp, hc, h => by
  simp only [chips] at h
  obtain ⟨⟨F1, x1, y1, s1⟩, hr, h⟩ := Option.bind_eq_some_iff.1 h
  obtain ⟨rfl, L1, hx, hl⟩ := run_lin K F 0 s F1 x1 y1 s1 L (by omega) (by omega) hr
  simp only at h
  have hu0 : upd F1 x1 0 1 x1 0 = some 1 := by unfold upd; rw [if_pos ⟨rfl, rfl⟩]
  have hu1 : ∀ c, c ≠ x1 → upd F1 x1 0 1 c 0 = F1 c 0 := fun c hc => by unfold upd; rw [if_neg (fun e => hc e.1)]
  have hu : ∀ lo2 : Int, (lo2 = lo ∧ x1 = lo + n ∨ lo2 = lo - 1 ∧ x1 = lo - 1) → Line (upd F1 x1 0 1) lo2 (n + 1) := fun lo2 hlo => by
   refine ⟨fun c h4 h5 => ?_, fun a b hab => ?_⟩
   ·by_cases e : c = x1
    ·subst e; rw [hu0]; simp
    ·rw [hu1 c e]; exact L1.on c (by omega) (by omega)
   ·unfold upd
    rw [if_neg (fun h => hab ⟨h.2, by omega, by omega⟩)]
    exact L1.off a b (fun h => hab ⟨h.1, by omega, by omega⟩)
  have wx : wl (upd F1 x1 0 1) x1 = 0 := by unfold wl; rw [hu0, if_neg (by decide)]
  have e : n + 1 + m = n + (m + 1) := by omega
  rcases hx with hx | hx
  ·have hps : psum (wl (upd F1 x1 0 1)) (n + 1) (lo - 1) = psum (wl F1) n lo := by
    rw [show psum (wl (upd F1 x1 0 1)) (n + 1) (lo - 1) = wl (upd F1 x1 0 1) (lo - 1) + psum (wl (upd F1 x1 0 1)) n (lo - 1 + 1) from rfl, ← hx, wx, Int.zero_add, hx, show lo - 1 + 1 = lo by omega]
    exact psum_far _ _ n lo (fun c h3 h4 => by unfold wl; rw [← hx, hu1 c (by omega)])
   have hid : psum (fun c => c) (n + 1) (lo - 1) = (lo - 1) + psum (fun c => c) n lo := by
    rw [show psum (fun c => c) (n + 1) (lo - 1) = (lo - 1) + psum (fun c => c) n (lo - 1 + 1) from rfl, show lo - 1 + 1 = lo by omega]
   obtain ⟨lo1, a, b, c⟩ := chips_lin K m (n + 1) (lo - 1) _ _ _ S (by omega) (by omega) (hu _ (.inr ⟨rfl, hx⟩)) (by rw [hps, hid]; omega) (.inr ⟨x1, by omega, by omega, hu0⟩) h
   rw [e] at a b c
   exact ⟨lo1, a, b, c⟩
  ·have hps : psum (wl (upd F1 x1 0 1)) (n + 1) lo = psum (wl F1) n lo := by
    rw [psum_end, ← hx, wx, Int.add_zero]
    exact psum_far _ _ n lo (fun c h3 h4 => by unfold wl; rw [hu1 c (by omega)])
   have hid : psum (fun c => c) (n + 1) lo = psum (fun c => c) n lo + (lo + n) := by rw [psum_end]
   obtain ⟨lo1, a, b, c⟩ := chips_lin K m (n + 1) lo _ _ _ S h1 (by omega) (hu _ (.inl ⟨rfl, hx⟩)) (by rw [hps, hid]; omega) (.inr ⟨x1, by omega, by omega, hu0⟩) h
   rw [e] at a b c
   exact ⟨lo1, a, b, c⟩
theorem psum_id : ∀ (n : Nat) (lo : Int), 2 * psum (fun c => c) n lo = n * (2 * lo + n - 1)
 | 0, lo => by simp [psum]
 | n + 1, lo => by
  have ih := psum_id n (lo + 1)
  have e : psum (fun c => c) (n + 1) lo = lo + psum (fun c => c) n (lo + 1) := rfl
  rw [e, Int.mul_add, ih]
  grind
theorem wl_le (F : Fld) : ∀ (n : Nat) (lo : Int), -(n : Int) ≤ psum (wl F) n lo ∧ psum (wl F) n lo ≤ 0
 | 0, lo => by simp [psum]
 | n + 1, lo => by
  have ih := wl_le F n (lo + 1)
  have e : psum (wl F) (n + 1) lo = wl F lo + psum (wl F) n (lo + 1) := rfl
  have h : wl F lo = -1 ∨ wl F lo = 0 := by unfold wl; split <;> simp
  omega
theorem wl_lt (F : Fld) (c : Int) (hc : F c 0 = some 1) : ∀ (n : Nat) (lo : Int), lo ≤ c → c < lo + n → -(n : Int) < psum (wl F) n lo
 | 0, lo, h0, h1 => by omega
 | n + 1, lo, h0, h1 => by
  have e : psum (wl F) (n + 1) lo = wl F lo + psum (wl F) n (lo + 1) := rfl
  have h : wl F lo = -1 ∨ wl F lo = 0 := by unfold wl; split <;> simp
  by_cases q : lo = c
  ·subst q
   have w : wl F lo = 0 := by unfold wl; rw [hc, if_neg (by decide)]
   have := wl_le F n (lo + 1)
   omega
  ·have := wl_lt F c hc n (lo + 1) (by omega) (by omega)
   omega
theorem half {n s t : Int} (h0 : 0 < n) (h1 : 0 ≤ n * s) (h2 : n * s ≤ 2 * (n - 1)) : 0 ≤ s ∧ s ≤ 1 := by
 constructor
 ·rcases Int.lt_or_le s 0 with h | h
  ·have := Int.mul_lt_mul_of_pos_left h h0
   omega
  ·exact h
 ·rcases Int.lt_or_le 1 s with h | h
  ·have := Int.mul_le_mul_of_nonneg_left (show 2 ≤ s by omega) (show 0 ≤ n by omega)
   omega
  ·exact h
theorem line_one {n : Int} (h : okLine n 1 = true) (h0 : n ≠ 0) : ∃ lo : Int, Line (lineS n 1).f lo n.toNat ∧ 0 ≤ 2 * lo + n - 1 ∧ 2 * lo + n - 1 ≤ 1 := by
 obtain ⟨m, rfl, hm, _, _, hS⟩ := line_is h
 obtain ⟨lo, L, hp, hc⟩ := chips_lin 215603 m 0 1 (fun _ _ => none) [] 0 _ (by omega) (by omega) ⟨fun c h0 h1 => by omega, fun a b h => rfl⟩ (by simp [psum]) (.inl rfl) hS
 rw [Nat.zero_add] at L hp hc
 have h2 := psum_id m lo
 have h3 := wl_le (lineS m 1).f m lo
 have h4 : -(m : Int) < psum (wl (lineS m 1).f) m lo := by
  rcases hc with hc | ⟨c, c1, c2, c3⟩
  ·omega
  ·exact wl_lt _ c c3 m lo c1 c2
 have := half (n := (m : Int)) (s := 2 * lo + m - 1) (t := 0) (by omega) (by omega) (by omega)
 exact ⟨lo, L, this⟩
theorem loF_is {lo hi : Int} (h0 : lo ≤ 0) : ∀ (cs : List (Int × Int)) (a : Int), (∀ c ∈ cs, lo ≤ c.1) → ((∃ c ∈ cs, c.1 = lo) ∨ a = lo) → lo ≤ a → loF Prod.fst a cs = lo
 | [], a, _, h, _ => by
  rcases h with ⟨c, hc, _⟩ | h
  ·cases hc
  ·simp [loF, h]
 | c :: cs, a, hb, h, ha => by
  have hc := hb c (List.mem_cons_self ..)
  have e : loF Prod.fst a (c :: cs) = loF Prod.fst (if c.1 < a then c.1 else a) cs := rfl
  rw [e]
  refine loF_is (hi := hi) h0 cs _ (fun d hd => hb d (List.mem_cons_of_mem _ hd)) ?_ (by split <;> omega)
  rcases h with ⟨d, hd, he⟩ | h
  ·rcases List.mem_cons.1 hd with rfl | hd
   ·right; split <;> omega
   ·exact .inl ⟨d, hd, he⟩
  ·right; split <;> omega
theorem hiF_is {hi : Int} : ∀ (cs : List (Int × Int)) (a : Int), (∀ c ∈ cs, c.1 ≤ hi) → ((∃ c ∈ cs, c.1 = hi) ∨ a = hi) → a ≤ hi → hiF Prod.fst a cs = hi
 | [], a, _, h, _ => by
  rcases h with ⟨c, hc, _⟩ | h
  ·cases hc
  ·simp [hiF, h]
 | c :: cs, a, hb, h, ha => by
  have hc := hb c (List.mem_cons_self ..)
  have e : hiF Prod.fst a (c :: cs) = hiF Prod.fst (if a < c.1 then c.1 else a) cs := rfl
  rw [e]
  refine hiF_is cs _ (fun d hd => hb d (List.mem_cons_of_mem _ hd)) ?_ (by split <;> omega)
  rcases h with ⟨d, hd, he⟩ | h
  ·rcases List.mem_cons.1 hd with rfl | hd
   ·right; split <;> omega
   ·exact .inl ⟨d, hd, he⟩
  ·right; split <;> omega
def lo1 (n k : Int) : Int := loF Prod.fst 0 (lineS n k).cells
def hi1 (n k : Int) : Int := hiF Prod.fst 0 (lineS n k).cells
theorem ends_one {n : Int} (h : okLine n 1 = true) (h0 : n ≠ 0) : hi1 n 1 - lo1 n 1 = n - 1 ∧ 0 ≤ lo1 n 1 + hi1 n 1 ∧ lo1 n 1 + hi1 n 1 ≤ 1 ∧ -250 ≤ lo1 n 1 ∧ lo1 n 1 ≤ 0 ∧ 0 ≤ hi1 n 1 ∧ hi1 n 1 ≤ 250 := by
 obtain ⟨lo, L, h1, h2⟩ := line_one h h0
 obtain ⟨m, rfl, hm, _, _, hS⟩ := line_is h
 have K := (chips_keep 2 300 mv2 215603 1 m st0 _ hS (kept0 300)).1
 rw [show ((m : Int)).toNat = m from rfl] at L
 have hcell : ∀ c ∈ (lineS m 1).cells, lo ≤ c.1 ∧ c.1 ≤ lo + m - 1 := fun c hc => by
  have := (K.mem c.1 c.2).2 hc
  rcases Decidable.em (c.2 = 0 ∧ lo ≤ c.1 ∧ c.1 < lo + m) with q | q
  ·omega
  ·rw [L.off c.1 c.2 q] at this
   cases this
 have hon : ∀ c : Int, lo ≤ c → c < lo + m → (c, 0) ∈ (lineS m 1).cells := fun c c1 c2 => (K.mem c 0).1 (by rcases L.on c c1 c2 with h | h <;> rw [h] <;> rfl)
 have e1 : lo1 m 1 = lo := loF_is (hi := 0) (by omega) _ 0 (fun c hc => (hcell c hc).1) (.inl ⟨_, hon lo (by omega) (by omega), rfl⟩) (by omega)
 have e2 : hi1 m 1 = lo + m - 1 := hiF_is _ 0 (fun c hc => (hcell c hc).2) (.inl ⟨_, hon (lo + m - 1) (by omega) (by omega), rfl⟩) (by omega)
 rw [e1, e2]
 omega
theorem ends_mir {n k : Int} (h : okLine n k = true) : okLine n (1 - k) = true ∧ lo1 n (1 - k) = -(hi1 n k) ∧ hi1 n (1 - k) = -(lo1 n k) ∧ (lineS n (1 - k)).steps = (lineS n k).steps := by
 obtain ⟨h1, h2⟩ := line_mir h
 refine ⟨h1, ?_, ?_, ?_⟩
 ·unfold lo1 hi1; rw [h2]; exact lo_mir _ 0
 ·unfold lo1 hi1; rw [h2]; exact hi_mir _ 0
 ·rw [h2]; rfl
theorem ends_all {n k : Int} (h : okLine n k = true) (h0 : n ≠ 0) : hi1 n k - lo1 n k = n - 1 ∧ -1 ≤ lo1 n k + hi1 n k ∧ lo1 n k + hi1 n k ≤ 1 ∧ -250 ≤ lo1 n k ∧ lo1 n k ≤ 0 ∧ 0 ≤ hi1 n k ∧ hi1 n k ≤ 250 := by
 have hk : k = 0 ∨ k = 1 := by obtain ⟨m, _, _, a, b, _⟩ := line_is h; omega
 rcases hk with rfl | rfl
 ·obtain ⟨a, b, c, _⟩ := ends_mir h
  have := ends_one a h0
  rw [show (1 : Int) - 0 = 1 by decide] at b c
  rw [b, c] at this
  omega
 ·have := ends_one h h0
  omega
end Go.Proofs.Ytjedhjeijpbobaa.G8
namespace Go.Proofs
open Go.Shelf
def Try.lays122_ren : Go.Shelf.Ren := ⟨fun | 122 => 109 | 215 => 113 | n => n, fun | 3 => 3 | 4 => 4 | n => n, fun | n => n⟩
theorem Try.lays122 : Go.Proofs.Lays.n122 Try.prog Try.lays122_ren := {
 mixed := by kernel_rfl
 f122 := Try.func109.trans (congrArg some (by kernel_rfl))
 f215 := Try.func113.trans (congrArg some (by kernel_rfl))
 t3 := Try.underlying3
 a3 := Try.isAgg3
 z3 := Try.sizeOf3
 v3 := Try.zeroValue3
 t4 := Try.underlying4
 a4 := Try.isAgg4
 z4 := Try.sizeOf4
 v4 := Try.zeroValue4 }
def Try.sortCells_ren : Go.Shelf.Ren := ⟨fun | 6 => 106 | 15 => 112 | 14 => 111 | 28 => 122 | 29 => 123 | 20 => 114 | 21 => 115 | 22 => 116 | 23 => 117 | 24 => 118 | 25 => 119 | 26 => 120 | 27 => 121 | 46 => 124 | 47 => 125 | 48 => 126 | 49 => 127 | 50 => 128 | 57 => 129 | n => n, fun | 22 => 68 | 24 => 76 | 25 => 102 | 3 => 3 | 39 => 107 | 0 => 0 | 53 => 119 | 55 => 82 | 4 => 4 | 46 => 113 | 45 => 112 | 50 => 22 | 5 => 5 | 9 => 9 | 66 => 121 | 70 => 125 | 76 => 127 | 77 => 38 | n => n, fun | n => n⟩
theorem Try.sortCells : Go.Proofs.SlLaysF0.n6 Try.prog Try.sortCells_ren := {
 mixed := by kernel_rfl
 f6 := ⟨Try.f106.name, by decide, Try.func106.trans (congrArg some (by kernel_rfl))⟩
 f14 := ⟨Try.f111.name, by decide, Try.func111.trans (congrArg some (by kernel_rfl))⟩
 f15 := Try.func112.trans (congrArg some (by kernel_rfl))
 f20 := ⟨Try.f114.name, by decide, Try.func114.trans (congrArg some (by kernel_rfl))⟩
 f21 := ⟨Try.f115.name, by decide, Try.func115.trans (congrArg some (by kernel_rfl))⟩
 f22 := ⟨Try.f116.name, by decide, Try.func116.trans (congrArg some (by kernel_rfl))⟩
 f23 := ⟨Try.f117.name, by decide, Try.func117.trans (congrArg some (by kernel_rfl))⟩
 f24 := ⟨Try.f118.name, by decide, Try.func118.trans (congrArg some (by kernel_rfl))⟩
 f25 := ⟨Try.f119.name, by decide, Try.func119.trans (congrArg some (by kernel_rfl))⟩
 f26 := ⟨Try.f120.name, by decide, Try.func120.trans (congrArg some (by kernel_rfl))⟩
 f27 := ⟨Try.f121.name, by decide, Try.func121.trans (congrArg some (by kernel_rfl))⟩
 f28 := Try.func122.trans (congrArg some (by kernel_rfl))
 f29 := Try.func123.trans (congrArg some (by kernel_rfl))
 f46 := ⟨Try.f124.name, by decide, Try.func124.trans (congrArg some (by kernel_rfl))⟩
 f47 := Try.func125.trans (congrArg some (by kernel_rfl))
 f48 := Try.func126.trans (congrArg some (by kernel_rfl))
 f49 := ⟨Try.f127.name, by decide, Try.func127.trans (congrArg some (by kernel_rfl))⟩
 f50 := ⟨Try.f128.name, by decide, Try.func128.trans (congrArg some (by kernel_rfl))⟩
 f57 := ⟨Try.f129.name, by decide, Try.func129.trans (congrArg some (by kernel_rfl))⟩
 t0 := Try.underlying0
 a0 := Try.isAgg0
 z0 := Try.sizeOf0
 v0 := Try.zeroValue0
 t3 := Try.underlying3
 a3 := Try.isAgg3
 z3 := Try.sizeOf3
 v3 := Try.zeroValue3
 t4 := Try.underlying4
 a4 := Try.isAgg4
 z4 := Try.sizeOf4
 v4 := Try.zeroValue4
 t5 := Try.underlying5
 a5 := Try.isAgg5
 z5 := Try.sizeOf5
 v5 := Try.zeroValue5
 t9 := Try.underlying9
 a9 := Try.isAgg9
 z9 := Try.sizeOf9
 v9 := Try.zeroValue9
 t22 := Try.underlying68
 a22 := Try.isAgg68
 z22 := Try.sizeOf68
 v22 := Try.zeroValue68
 t25 := Try.underlying102
 a25 := Try.isAgg102
 z25 := Try.sizeOf102
 v25 := Try.zeroValue102
 t39 := Try.underlying107
 a39 := Try.isAgg107
 z39 := Try.sizeOf107
 v39 := Try.zeroValue107
 t45 := Try.underlying112
 a45 := Try.isAgg112
 z45 := Try.sizeOf112
 v45 := Try.zeroValue112
 t46 := Try.underlying113
 a46 := Try.isAgg113
 z46 := Try.sizeOf113
 v46 := Try.zeroValue113
 t50 := Try.underlying22
 a50 := Try.isAgg22
 z50 := Try.sizeOf22
 v50 := Try.zeroValue22
 t53 := Try.underlying119
 a53 := Try.isAgg119
 z53 := Try.sizeOf119
 v53 := Try.zeroValue119
 t55 := Try.underlying82
 a55 := Try.isAgg82
 z55 := Try.sizeOf82
 v55 := Try.zeroValue82
 t66 := Try.underlying121
 a66 := Try.isAgg121
 z66 := Try.sizeOf121
 v66 := Try.zeroValue121
 t70 := Try.underlying125
 a70 := Try.isAgg125
 z70 := Try.sizeOf125
 v70 := Try.zeroValue125
 t76 := Try.underlying127
 a76 := Try.isAgg127
 z76 := Try.sizeOf127
 v76 := Try.zeroValue127
 t77 := Try.underlying38
 a77 := Try.isAgg38
 z77 := Try.sizeOf38
 v77 := Try.zeroValue38 }
end Go.Proofs
