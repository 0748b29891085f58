/-
  Texts of the seat, merged (part 1).
-/
import Derived.Test.YtmechelmnpoddaaX38WLast
import Derived.Test.YtmechelmnpoddaaX38WWords
import Derived.Deep.Cut
import Derived.Deep.LoopGhost
import Derived.Test.YtmechelmnpoddaaProg
import Derived.Below
import Derived.Deep.Draws
import Derived.Deep.AppendLies
import Derived.Maps.AppendAt
import Derived.OwnWalk
import Derived.Laws.BytesArg
import Derived.Laws.MakeOwn
import Derived.Laws.OwnMore
import Derived.Deep.OwnRows
import Derived.Tactics
import Derived.Lib.ConvBytes
import Derived.Laws.Slices
import Derived.WalkKit
import Derived.KernelRfl
import Derived.RowKit3
import Derived.Deep.QuietTactic
import Derived.BigQuiet
import Derived.WideLaws
import Derived.Deep.DeepCutAuto
import Derived.Deep.CutBlock
import Derived.Deep.RegionHeld3
import Derived.Laws.Rows
import Derived.Lib.AppendStr
import Derived.ArgAppend
import Derived.Laws.IdiomCopy
import Derived.OrdersHeld
import Derived.Laws.BitsLemmas
import Derived.RowKit
import Derived.Test.YtmechelmnpoddaaX38WTab
import Derived.Test.YtmechelmnpoddaaX38WFour
import Derived.Test.YtmechelmnpoddaaX38WQPut
import Derived.Test.YtmechelmnpoddaaX38WApart
import Derived.Test.YtmechelmnpoddaaX38WArr
import Derived.Test.YtmechelmnpoddaaX38WZeros
import Derived.Test.YtmechelmnpoddaaX38WFoot
import Derived.Test.YtmechelmnpoddaaX38WKept
import Derived.Test.YtmechelmnpoddaaX38WShare
import Derived.Test.YtmechelmnpoddaaX38WN
import Derived.Test.YtmechelmnpoddaaX38WFootNe
import Derived.Test.YtmechelmnpoddaaX38WAt
import Derived.Test.YtmechelmnpoddaaX38WEqStruct
import Derived.Test.YtmechelmnpoddaaX38WRepsOne
import Derived.Test.YtmechelmnpoddaaX38WInv
import Derived.Test.YtmechelmnpoddaaX38WInvWords
import Derived.Test.YtmechelmnpoddaaX38WGuard
import Derived.Test.YtmechelmnpoddaaX38WNEv
import Derived.Test.YtmechelmnpoddaaX38WMore
import Derived.BigRegion
import Derived.StillTailTactics
import Derived.Deep.RegionWith
import Derived.Shelf.Bits.Mul64
import Derived.Shelf.Slices.Turned
import Derived.Ground.Names2Prog
import Derived.Shelf.Slices.Clone
import Derived.Ground.SlgnProg
import Derived.Shelf.SlicesE.Clone
import Derived.Ground.SlgfProg
import Derived.Shelf.SlicesE.IndexFunc
set_option linter.unusedVariables false
set_option linter.unusedSimpArgs false
namespace Go.Proofs.Ytmechelmnpoddaa.Fc
end Go.Proofs.Ytmechelmnpoddaa.Fc
namespace Go.Proofs.Ytmechelmnpoddaa.A7
end Go.Proofs.Ytmechelmnpoddaa.A7
namespace Go.Proofs.Ytmechelmnpoddaa.Es
end Go.Proofs.Ytmechelmnpoddaa.Es
namespace Go.Proofs.Ytmechelmnpoddaa.H7
end Go.Proofs.Ytmechelmnpoddaa.H7
namespace Go.Proofs
end Go.Proofs
namespace Go.Proofs.Ytmechelmnpoddaa.E7
end Go.Proofs.Ytmechelmnpoddaa.E7
namespace Go.Proofs.Ytmechelmnpoddaa.F7
end Go.Proofs.Ytmechelmnpoddaa.F7
namespace Go.Proofs.Ytmechelmnpoddaa.F9
end Go.Proofs.Ytmechelmnpoddaa.F9
namespace Go.Proofs.Ytmechelmnpoddaa.Pure
end Go.Proofs.Ytmechelmnpoddaa.Pure
namespace Go.Proofs.Ytmechelmnpoddaa.fnEscapesCounted
end Go.Proofs.Ytmechelmnpoddaa.fnEscapesCounted
namespace Go.Proofs.Ytmechelmnpoddaa
end Go.Proofs.Ytmechelmnpoddaa
namespace Go.Proofs.Ytmechelmnpoddaa.Fc
open Go Go.RowKit YtmechelmnpoddaaW.PrintWords
def nth : List Value → Nat → Value
 | [], _ => .bool false
 | x :: _, 0 => x
 | _ :: l, n + 1 => nth l n
def blend : List (Option Nat) → (Nat → Value) → List Value → List Value
 | [], _, l => l
 | _ :: _, _, [] => []
 | some k :: m, u, _ :: l => u k :: blend m u l
 | none :: m, u, x :: l => x :: blend m u l
def held : List (Option Nat) → List Value → List (Option Value)
 | [], l => l.map some
 | _ :: _, [] => []
 | some _ :: m, _ :: l => none :: held m l
 | none :: m, x :: l => some x :: held m l
def sound : List (Option Nat) → Nat → Bool
 | [], _ => true
 | none :: m, i => sound m (i + 1)
 | some k :: m, i => k == i && sound m (i + 1)
theorem blend_nth : ∀ (m : List (Option Nat)) (i : Nat) (u : Nat → Value) (l l' : List Value), sound m i = true → (∀ j, u (i + j) = nth l' j) → held m l = held m l' → blend m u l = l'
 | [], i, u, l, l', _, _, h => by
  simp only [held] at h
  simp only [blend]
  exact List.map_inj_right (fun a b e => Option.some.inj e) |>.mp h
 | x :: m, i, u, [], [], _, _, _ => by cases x <;> rfl
 | x :: m, i, u, [], y :: l', _, _, h => by cases x <;> simp [held] at h
 | x :: m, i, u, y :: l, [], _, _, h => by cases x <;> simp [held] at h
 | none :: m, i, u, x :: l, y :: l', hs, hu, h => by
  simp only [held, List.cons.injEq, Option.some.injEq] at h
  simp only [sound] at hs
  simp only [blend]
  rw [h.1, blend_nth m (i + 1) u l l' hs (fun j => by have := hu (j + 1); simp only [nth] at this; rw [← this]; congr 1; omega) h.2]
 | some k :: m, i, u, x :: l, y :: l', hs, hu, h => by
  simp only [held, List.cons.injEq, true_and] at h
  simp only [sound, Bool.and_eq_true, beq_iff_eq] at hs
  simp only [blend]
  have h0 := hu 0
  simp only [Nat.add_zero, nth] at h0
  rw [hs.1, h0, blend_nth m (i + 1) u l l' hs.2 (fun j => by have := hu (j + 1); simp only [nth] at this; rw [← this]; congr 1; omega) h]
theorem cut (m : List (Option Nat)) (hs : sound m 0 = true) (R : (Nat → Value) → World → Prop) {P : Program} {s : Code} {K : Act → World → Prop} {Q' : Exit → Act → World → Prop} {L : List Value} {D : List Deferred} {w : World}
  (rest : ∀ (u : Nat → Value) w', R u w' → K ⟨(blend m u L).toArray, D⟩ w')
  (first : ∀ (J K' : Act → World → Prop), Aside0 (∀ L' w', held m L = held m L' → R (nth L') w' → J ⟨L'.toArray, D⟩ w') → (∀ a' w', Met J a' w' → K' a' w') → s.wp P (Exit.then K' Q') ⟨L.toArray, D⟩ w) :
  s.wp P (Exit.then K Q') ⟨L.toArray, D⟩ w := by
 refine wp_cut (fun a' w' => ∃ u, R u w' ∧ a' = ⟨(blend m u L).toArray, D⟩) ?_ ?_
 ·rintro a' w' ⟨u, h, rfl⟩
  exact rest u w' h
 ·intro J K' hJ hK
  exact first J K' ⟨fun L' w' he h => hJ _ _ ⟨nth L', h, by rw [blend_nth m 0 (nth L') L L' hs (fun j => by rw [Nat.zero_add]) he]⟩⟩ hK
theorem meet {J : Act → World → Prop} {m : List (Option Nat)} {R : List Value → World → Prop} {L L' : List Value} {D : List Deferred} {w' : World}
  (h : Aside0 (∀ L' w', held m L = held m L' → R L' w' → J ⟨L'.toArray, D⟩ w')) (same : held m L = held m L') (rel : R L' w') : Met J ⟨L'.toArray, D⟩ w' :=
 Met.intro (h.out L' w' same rel)
theorem loop (m : List (Option Nat)) (hs : sound m 0 = true) (R : Nat → (Nat → Value) → World → Prop) (n₀ : Nat) {P : Program} {Q : Exit → Act → World → Prop} {L : List Value} {D : List Deferred} {w : World} {c : Code}
  (atStart : R n₀ (nth L) w)
  (round : ∀ n u w, R n u w → ∀ (J : Nat → Act → World → Prop) (K : Act → World → Prop), Aside0 (∀ k L' w', held m L = held m L' → R k (nth L') w' → J k ⟨L'.toArray, D⟩ w') → (∀ a' w', Handed J n a' w' → K a' w') → c.wp P (Exit.then K Q) ⟨(blend m u L).toArray, D⟩ w) :
  (Code.loop c).wp P Q ⟨L.toArray, D⟩ w := by
 refine wp_loop_ghost_k (fun n a w => ∃ u, R n u w ∧ a = ⟨(blend m u L).toArray, D⟩) n₀ ⟨nth L, atStart, ?_⟩ ?_
 ·rw [blend_nth m 0 (nth L) L L hs (fun j => by rw [Nat.zero_add]) rfl]
 ·rintro n a w ⟨u, h, rfl⟩ J K hJ hK
  exact round n u w h J K ⟨fun k L' w' he h' => hJ _ _ _ ⟨nth L', h', by rw [blend_nth m 0 (nth L') L L' hs (fun j => by rw [Nat.zero_add]) he]⟩⟩ hK
theorem hand (k : Nat) {n : Nat} {J : Nat → Act → World → Prop} {m : List (Option Nat)} {R : Nat → List Value → World → Prop} {L L' : List Value} {D : List Deferred} {w' : World}
  (h : Aside0 (∀ k L' w', held m L = held m L' → R k L' w' → J k ⟨L'.toArray, D⟩ w')) (same : held m L = held m L') (measure : k < n) (rel : R k L' w') : Handed J n ⟨L'.toArray, D⟩ w' :=
 Handed.intro k measure (h.out k L' w' same rel)
end Go.Proofs.Ytmechelmnpoddaa.Fc
namespace Go.Proofs.Ytmechelmnpoddaa.A7
open Go.RowKit YtmechelmnpoddaaW.PrintWords YtmechelmnpoddaaW.PrintLast YtmechelmnpoddaaW.PrintMore
attribute [local go_sem] max2_int min2_int max_two min_two max_three min_three max_four min_four
def errW : Option Int → Value
 | none => .nilIface
 | some c => .iface 0 (.int .i64 c)
theorem errW_none : errW none = .nilIface := rfl
theorem errW_some (c : Int) : errW (some c) = .iface 0 (.int .i64 c) := rfl
theorem info3 : (Try.prog.info? 3).map (fun i => (i.zero, i.size, i.bytes)) = some (some (.int .i64 0), 1, 8) := by kernel_rfl
end Go.Proofs.Ytmechelmnpoddaa.A7
namespace Go.Proofs.Ytmechelmnpoddaa.A7
open Go.RowKit YtmechelmnpoddaaW.PrintWords YtmechelmnpoddaaW.PrintLast YtmechelmnpoddaaW.PrintMore
attribute [local go_sem] max2_int min2_int max_two min_two max_three min_three max_four min_four
def spec_l1In.f (a0 : Int) (a1 : Int) (a2 : Int) : Option (Bool) := if a0 ≥ a1 then (some (decide (a0 ≤ a2))) else (some false)
set_option maxHeartbeats 8000000 in
set_option maxRecDepth 100000 in
theorem spec_l1In.calls (a0 : Int) (a1 : Int) (a2 : Int) (r : Bool) (w : World) (h : spec_l1In.f a0 a1 a2 = some r) :
  Calls Try.prog 71 #[.int .i64 a0, .int .i64 a1, .int .i64 a2] w fun e w' => e = .returned (.bool r) ∧ Drawn0 w w' := by
 have H : (if a0 ≥ a1 then (some (decide (a0 ≤ a2))) else (some false)) = some r := h
 clear h
 by_cases c4 : a0 ≥ a1
 ·rw [if_pos c4] at H
  have c4b0 : decide (a1 ≤ a0) = true := decide_eq_true c4
  clear c4
  obtain rfl := Option.some.inj H
  go_enter Try.func71, Try.ntmps71
  go_wp2
  go_ret
  exact ⟨by first | rfl | (simp; done) | (simp [*]; done), by repeat (first | exact Drawn0.refl _ | apply Drawn0.step)⟩
 rw [if_neg c4] at H
 have c4b0 : decide (a1 ≤ a0) = false := decide_eq_false c4
 clear c4
 obtain rfl := Option.some.inj H
 go_enter Try.func71, Try.ntmps71
 go_wp2
 go_ret
 exact ⟨by first | rfl | (simp; done) | (simp [*]; done), by repeat (first | exact Drawn0.refl _ | apply Drawn0.step)⟩
mutual
def spec_esNodes.j0 : Nat → Int → Int → Bool → Option (Int)
 | 0, _, _, _ => none
 | k + 1, x0, x1, x15 => if x15 = true then (some 0) else (spec_esNodes.l0 k x0 x1 1 1 0)
def spec_esNodes.l0 : Nat → Int → Int → Int → Int → Int → Option (Int)
 | 0, _, _, _, _, _ => none
 | k + 1, x0, x1, x5, x6, x7 => if x7 < x1 then (spec_esNodes.l0 k x0 x1 (wrap64 (x5 + (wrap64 (x6 * x0)))) (wrap64 (x6 * x0)) (wrap64 (x7 + 1))) else (if x5 > 130 then (some 0) else (some x5))
end
def spec_esNodes.f (k : Nat) (a0 : Int) (a1 : Int) : Option (Int) := (spec_l1In.f a0 2 3).bind fun t101 => (if t101 = true then ((spec_l1In.f a1 1 6).bind fun t102 => (spec_esNodes.j0 k a0 a1 (!t102))) else (spec_esNodes.j0 k a0 a1 true))
theorem spec_esNodes.mono_l : ∀ k, (∀ y0 y1 y2, LeO (spec_esNodes.j0 k y0 y1 y2) (spec_esNodes.j0 (k + 1) y0 y1 y2)) ∧ (∀ y0 y1 y2 y3 y4, LeO (spec_esNodes.l0 k y0 y1 y2 y3 y4) (spec_esNodes.l0 (k + 1) y0 y1 y2 y3 y4))
 | 0 => ⟨fun _ _ _ r h => by simp [spec_esNodes.j0] at h, fun _ _ _ _ _ r h => by simp [spec_esNodes.l0] at h⟩
 | k + 1 => by
  obtain ⟨ih0, ih1⟩ := spec_esNodes.mono_l k
  refine ⟨?_, ?_⟩
  ·intro y0 y1 y2
   unfold spec_esNodes.j0
   repeat' first
   | (with_reducible exact ih0 _ _ _)
   | (with_reducible exact ih1 _ _ _ _ _)
   | (with_reducible exact LeO.refl _)
   | (with_reducible exact LeO.none _)
   | (with_reducible refine LeO.ite ?_ ?_)
   | (with_reducible refine LeO.bind ?_ (fun _ => ?_))
   | exact ih0 _ _ _
   | exact ih1 _ _ _ _ _
   | exact LeO.none _
   | refine LeO.ite ?_ ?_
   | refine LeO.bind ?_ (fun _ => ?_)
  ·intro y0 y1 y2 y3 y4
   unfold spec_esNodes.l0
   repeat' first
   | (with_reducible exact ih0 _ _ _)
   | (with_reducible exact ih1 _ _ _ _ _)
   | (with_reducible exact LeO.refl _)
   | (with_reducible exact LeO.none _)
   | (with_reducible refine LeO.ite ?_ ?_)
   | (with_reducible refine LeO.bind ?_ (fun _ => ?_))
   | exact ih0 _ _ _
   | exact ih1 _ _ _ _ _
   | exact LeO.none _
   | refine LeO.ite ?_ ?_
   | refine LeO.bind ?_ (fun _ => ?_)
theorem spec_esNodes.mono : ∀ a0 a1 k, LeO (spec_esNodes.f k a0 a1) (spec_esNodes.f (k + 1) a0 a1) := by
 intro a0 a1 k
 obtain ⟨ih0, ih1⟩ := spec_esNodes.mono_l k
 unfold spec_esNodes.f
 repeat' first
   | (with_reducible exact ih0 _ _ _)
   | (with_reducible exact ih1 _ _ _ _ _)
   | (with_reducible exact LeO.refl _)
   | (with_reducible exact LeO.none _)
   | (with_reducible refine LeO.ite ?_ ?_)
   | (with_reducible refine LeO.bind ?_ (fun _ => ?_))
   | exact ih0 _ _ _
   | exact ih1 _ _ _ _ _
   | exact LeO.none _
   | refine LeO.ite ?_ ?_
   | refine LeO.bind ?_ (fun _ => ?_)
set_option maxHeartbeats 8000000 in
set_option maxRecDepth 100000 in
theorem spec_esNodes.calls (k : Nat) (a0 : Int) (a1 : Int) (r : Int) (w : World) (h : spec_esNodes.f k a0 a1 = some r) :
  Calls Try.prog 55 #[.int .i64 a0, .int .i64 a1] w fun e w' => e = .returned (.int .i64 r) ∧ Drawn0 w w' := by
 have H : ((spec_l1In.f a0 2 3).bind fun t101 => (if t101 = true then ((spec_l1In.f a1 1 6).bind fun t102 => (spec_esNodes.j0 k a0 a1 (!t102))) else (spec_esNodes.j0 k a0 a1 true))) = some r := h
 clear h
 have HC3 := Aside0.mk H
 clear H
 go_enter Try.func55, Try.ntmps55
 go_upto_region 1 with (fail)
 go_cut [15] (fun v15 wc => ∃ (kq : Nat) (x15_2 : Bool), v15 = .bool x15_2 ∧ Aside0 (spec_esNodes.j0 kq a0 a1 x15_2 = some r) ∧ Aside0 (kq ≤ k) ∧ Drawn0 w wc)
 case first =>
  have H := HC3.out
  clear HC3
  replace H := Option.bind_eq_some_iff.mp H
  obtain ⟨t101, A40, H⟩ := H
  replace H : (if t101 = true then ((spec_l1In.f a1 1 6).bind fun t102 => (spec_esNodes.j0 k a0 a1 (!t102))) else (spec_esNodes.j0 k a0 a1 true)) = some r := H
  have A4 := Aside0.mk A40
  clear A40
  by_cases c5 : t101 = true
  rotate_left
  ·replace c5 := Bool.eq_false_iff.mpr c5
   subst c5
   have H1 : (spec_esNodes.j0 k a0 a1 true) = some r := by rw [if_neg (show ¬ (false = true) by decide)] at H; exact H
   clear H
   have H := H1
   clear H1
   have H' := Aside0.mk H
   clear H
   go_wp2_with (first | ((with_reducible refine gate_callee (f := 71) rfl ?_); refine goesL_ (some 9) rfl rfl Try.func71 (by kernel_rfl) rfl #[.int .i64 a0, .int .i64 2, .int .i64 3] rfl (by (try simp only [List.map_toArray, List.map_cons, List.map_nil]); first | done | rfl | (simp only [List.length_drop, List.length_take]; rfl)) ?_; (with_reducible refine (spec_l1In.calls a0 2 3 false _ A4.out).mono ?_); rintro e w' ⟨rfl, ⟨nd, rfl⟩⟩; refine ⟨_, rfl, ?_⟩))
   go_meet
   case rel => exact ⟨_, (true), (by first | rfl | (simp; done) | (simp [*]; done)), H', ⟨by first | omega | exact Nat.le_refl _⟩, by repeat (first | exact Drawn0.refl _ | apply Drawn0.step)⟩
  subst c5
  have H1 : ((spec_l1In.f a1 1 6).bind fun t102 => (spec_esNodes.j0 k a0 a1 (!t102))) = some r := by rw [if_pos rfl] at H; exact H
  clear H
  have H := H1
  clear H1
  replace H := Option.bind_eq_some_iff.mp H
  obtain ⟨t102, A60, H⟩ := H
  replace H : (spec_esNodes.j0 k a0 a1 (!t102)) = some r := H
  have A6 := Aside0.mk A60
  clear A60
  have H' := Aside0.mk H
  clear H
  go_wp2_with (first | ((with_reducible refine gate_callee (f := 71) rfl ?_); refine goesL_ (some 9) rfl rfl Try.func71 (by kernel_rfl) rfl #[.int .i64 a0, .int .i64 2, .int .i64 3] rfl (by (try simp only [List.map_toArray, List.map_cons, List.map_nil]); first | done | rfl | (simp only [List.length_drop, List.length_take]; rfl)) ?_; (with_reducible refine (spec_l1In.calls a0 2 3 true _ A4.out).mono ?_); rintro e w' ⟨rfl, ⟨nd, rfl⟩⟩; refine ⟨_, rfl, ?_⟩) | (go_at_call 71; (with_reducible refine (spec_l1In.calls a1 1 6 t102 _ A6.out).mono ?_); rintro e w' ⟨rfl, ⟨nd, rfl⟩⟩))
  go_meet
  case rel => exact ⟨_, (!t102), (by first | rfl | (simp; done) | (simp [*]; done)), H', ⟨by first | omega | exact Nat.le_refl _⟩, by repeat (first | exact Drawn0.refl _ | apply Drawn0.step)⟩
 case rest =>
  clear HC3
  try clear p2
  try clear c5
  obtain ⟨kq, x15_2, rfl, HA, HJ2, ⟨mc2, rfl⟩⟩ := hcut
  cases kq with
  | zero => exact absurd HA.out (by simp [spec_esNodes.j0])
  | succ kj2 =>
   have H := HA.out
   clear HA
   simp only [spec_esNodes.j0] at H
   by_cases c7 : x15_2 = true
   ·subst c7
    have H1 : (some 0) = some r := by rw [if_pos rfl] at H; exact H
    clear H
    have H := H1
    clear H1
    obtain rfl := Option.some.inj H
    go_wp2
    go_ret
    exact ⟨by first | rfl | (simp; done) | (simp [*]; done), by repeat (first | exact Drawn0.refl _ | apply Drawn0.step)⟩
   replace c7 := Bool.eq_false_iff.mpr c7
   subst c7
   have H1 : (spec_esNodes.l0 kj2 a0 a1 1 1 0) = some r := by rw [if_neg (show ¬ (false = true) by decide)] at H; exact H
   clear H
   have H := H1
   clear H1
   have H' := Aside0.mk H
   clear H
   go_wp2
   go_loopg [5, 6, 7] kj2 (fun kq v5 v6 v7 w' => ∃ (x5_2 : Int) (x6_2 : Int) (x7_2 : Int), v5 = .int .i64 x5_2 ∧ v6 = .int .i64 x6_2 ∧ v7 = .int .i64 x7_2 ∧ Aside0 (spec_esNodes.l0 kq a0 a1 x5_2 x6_2 x7_2 = some r) ∧ Aside0 (kq ≤ kj2) ∧ Drawn0 w w')
   case atStart => exact ⟨(1), (1), (0), (by first | rfl | (simp; done) | (simp [*]; done)), (by first | rfl | (simp; done) | (simp [*]; done)), (by first | rfl | (simp; done) | (simp [*]; done)), H', ⟨Nat.le_refl _⟩, by repeat (first | exact Drawn0.refl _ | apply Drawn0.step)⟩
   case round =>
    clear H'
    try clear c2
    try clear p2
    try clear c5
    try clear c7
    try clear p2
    obtain ⟨x5_2, x6_2, x7_2, rfl, rfl, rfl, HA, HK2, ⟨m2, rfl⟩⟩ := hrel
    cases gk with
    | zero => exact absurd HA.out (by simp [spec_esNodes.l0])
    | succ k2 =>
     have H := HA.out
     clear HA
     simp only [spec_esNodes.l0] at H
     by_cases c8 : x7_2 < a1
     ·rw [if_pos c8] at H
      have c8b0 : decide (x7_2 < a1) = true := decide_eq_true c8
      clear c8
      have H' := Aside0.mk H
      clear H
      go_wp2
      go_roundg k2
      case measure => have := HJ2.out; have := HK2.out; omega
      case rel => exact ⟨(wrap64 (x5_2 + (wrap64 (x6_2 * a0)))), (wrap64 (x6_2 * a0)), (wrap64 (x7_2 + 1)), (by first | rfl | (simp; done) | (simp [*]; done)), (by first | rfl | (simp; done) | (simp [*]; done)), (by first | rfl | (simp; done) | (simp [*]; done)), H', ⟨by have := HJ2.out; have := HK2.out; omega⟩, by repeat (first | exact Drawn0.refl _ | apply Drawn0.step)⟩
     rw [if_neg c8] at H
     have c8b0 : decide (x7_2 < a1) = false := decide_eq_false c8
     clear c8
     by_cases c9 : x5_2 > 130
     ·rw [if_pos c9] at H
      have c9b0 : decide (130 < x5_2) = true := decide_eq_true c9
      clear c9
      obtain rfl := Option.some.inj H
      go_wp2
      go_ret
      exact ⟨by first | rfl | (simp; done) | (simp [*]; done), by repeat (first | exact Drawn0.refl _ | apply Drawn0.step)⟩
     rw [if_neg c9] at H
     have c9b0 : decide (130 < x5_2) = false := decide_eq_false c9
     clear c9
     obtain rfl := Option.some.inj H
     go_wp2
     go_ret
     exact ⟨by first | rfl | (simp; done) | (simp [*]; done), by repeat (first | exact Drawn0.refl _ | apply Drawn0.step)⟩
def spec_esAsked.f (k : Nat) (a0 : Int) (a1 : Int) (a2 : Int) (a3 : Int) : Option (Bool) := (spec_esNodes.f k a0 a1).bind fun t103 => (if t103 > 0 then ((spec_l1In.f a2 0 a0).bind fun t104 => (if t104 = true then ((spec_l1In.f a3 0 200).bind fun t105 => (some t105)) else (some false))) else (some false))
set_option maxHeartbeats 8000000 in
set_option maxRecDepth 100000 in
theorem spec_esAsked.calls (k : Nat) (a0 : Int) (a1 : Int) (a2 : Int) (a3 : Int) (r : Bool) (w : World) (h : spec_esAsked.f k a0 a1 a2 a3 = some r) :
  Calls Try.prog 61 #[.int .i64 a0, .int .i64 a1, .int .i64 a2, .int .i64 a3] w fun e w' => e = .returned (.bool r) ∧ Drawn0 w w' := by
 have H : ((spec_esNodes.f k a0 a1).bind fun t103 => (if t103 > 0 then ((spec_l1In.f a2 0 a0).bind fun t104 => (if t104 = true then ((spec_l1In.f a3 0 200).bind fun t105 => (some t105)) else (some false))) else (some false))) = some r := h
 clear h
 replace H := Option.bind_eq_some_iff.mp H
 obtain ⟨t103, A50, H⟩ := H
 replace H : (if t103 > 0 then ((spec_l1In.f a2 0 a0).bind fun t104 => (if t104 = true then ((spec_l1In.f a3 0 200).bind fun t105 => (some t105)) else (some false))) else (some false)) = some r := H
 have A5 := Aside0.mk A50
 clear A50
 by_cases c6 : t103 > 0
 rotate_left
 ·rw [if_neg c6] at H
  have c6b0 : decide (0 < t103) = false := decide_eq_false c6
  clear c6
  obtain rfl := Option.some.inj H
  go_enter Try.func61, Try.ntmps61
  go_wp2_with (first | ((with_reducible refine gate_callee (f := 55) rfl ?_); refine goesL_ (some 11) rfl rfl Try.func55 (by kernel_rfl) rfl #[.int .i64 a0, .int .i64 a1] rfl (by (try simp only [List.map_toArray, List.map_cons, List.map_nil]); first | done | rfl | (simp only [List.length_drop, List.length_take]; rfl)) ?_; (with_reducible refine (spec_esNodes.calls k a0 a1 t103 _ A5.out).mono ?_); rintro e w' ⟨rfl, ⟨nd, rfl⟩⟩; refine ⟨_, rfl, ?_⟩))
  go_ret
  exact ⟨by first | rfl | (simp; done) | (simp [*]; done), by repeat (first | exact Drawn0.refl _ | apply Drawn0.step)⟩
 rw [if_pos c6] at H
 have c6b0 : decide (0 < t103) = true := decide_eq_true c6
 clear c6
 replace H := Option.bind_eq_some_iff.mp H
 obtain ⟨t104, A70, H⟩ := H
 replace H : (if t104 = true then ((spec_l1In.f a3 0 200).bind fun t105 => (some t105)) else (some false)) = some r := H
 have A7 := Aside0.mk A70
 clear A70
 by_cases c8 : t104 = true
 rotate_left
 ·replace c8 := Bool.eq_false_iff.mpr c8
  subst c8
  have H1 : (some false) = some r := by rw [if_neg (show ¬ (false = true) by decide)] at H; exact H
  clear H
  have H := H1
  clear H1
  obtain rfl := Option.some.inj H
  go_enter Try.func61, Try.ntmps61
  go_wp2_with (first | ((with_reducible refine gate_callee (f := 55) rfl ?_); refine goesL_ (some 11) rfl rfl Try.func55 (by kernel_rfl) rfl #[.int .i64 a0, .int .i64 a1] rfl (by (try simp only [List.map_toArray, List.map_cons, List.map_nil]); first | done | rfl | (simp only [List.length_drop, List.length_take]; rfl)) ?_; (with_reducible refine (spec_esNodes.calls k a0 a1 t103 _ A5.out).mono ?_); rintro e w' ⟨rfl, ⟨nd, rfl⟩⟩; refine ⟨_, rfl, ?_⟩) | (go_at_call 71; (with_reducible refine (spec_l1In.calls a2 0 a0 false _ A7.out).mono ?_); rintro e w' ⟨rfl, ⟨nd, rfl⟩⟩))
  go_ret
  exact ⟨by first | rfl | (simp; done) | (simp [*]; done), by repeat (first | exact Drawn0.refl _ | apply Drawn0.step)⟩
 subst c8
 have H1 : ((spec_l1In.f a3 0 200).bind fun t105 => (some t105)) = some r := by rw [if_pos rfl] at H; exact H
 clear H
 have H := H1
 clear H1
 replace H := Option.bind_eq_some_iff.mp H
 obtain ⟨t105, A90, H⟩ := H
 replace H : (some t105) = some r := H
 have A9 := Aside0.mk A90
 clear A90
 obtain rfl := Option.some.inj H
 go_enter Try.func61, Try.ntmps61
 go_wp2_with (first | ((with_reducible refine gate_callee (f := 55) rfl ?_); refine goesL_ (some 11) rfl rfl Try.func55 (by kernel_rfl) rfl #[.int .i64 a0, .int .i64 a1] rfl (by (try simp only [List.map_toArray, List.map_cons, List.map_nil]); first | done | rfl | (simp only [List.length_drop, List.length_take]; rfl)) ?_; (with_reducible refine (spec_esNodes.calls k a0 a1 t103 _ A5.out).mono ?_); rintro e w' ⟨rfl, ⟨nd, rfl⟩⟩; refine ⟨_, rfl, ?_⟩) | (go_at_call 71; (with_reducible refine (spec_l1In.calls a2 0 a0 true _ A7.out).mono ?_); rintro e w' ⟨rfl, ⟨nd, rfl⟩⟩) | (go_at_call 71; (with_reducible refine (spec_l1In.calls a3 0 200 t105 _ A9.out).mono ?_); rintro e w' ⟨rfl, ⟨nd, rfl⟩⟩))
 go_ret
 exact ⟨by first | rfl | (simp; done) | (simp [*]; done), by repeat (first | exact Drawn0.refl _ | apply Drawn0.step)⟩
def spec_chSum.l0 : Nat → Int → List Int → Int → Int → Option (Int)
 | 0, _, _, _, _ => none
 | k + 1, x3, x6, x7, x8 => if x8 < x7 then (if 0 ≤ x8 then (if x8 < (x6.length : Int) then (spec_chSum.l0 k (wrap64 (x3 + (rd x6 x8))) x6 x7 (wrap64 (x8 + 1))) else (none)) else (none)) else (some x3)
def spec_chSum.f (k : Nat) (l0 : List Int) : Option (Int) := spec_chSum.l0 k 0 l0 (l0.length : Int) 0
set_option maxHeartbeats 8000000 in
set_option maxRecDepth 100000 in
theorem spec_chSum.calls (k : Nat) (A0 : Option Addr) (c0 : Nat) (l0 : List Int) (r : Int) (w : World) (hr0 : Kd.C (Kd.int .i64) w A0 l0.length l0) (hc0 : l0.length ≤ c0) (h : spec_chSum.f k l0 = some r) :
  Calls Try.prog 62 #[.slice A0 l0.length c0] w fun e w' => e = .returned (.int .i64 r) ∧ Drawn0 w w' := by
 have HR0 := Aside0.mk hr0
 have HC0 := Aside0.mk hc0
 clear hr0 hc0
 have H : (spec_chSum.l0 k 0 l0 (l0.length : Int) 0) = some r := h
 clear h
 have H' := Aside0.mk H
 clear H
 go_enter Try.func62, Try.ntmps62
 go_wp2
 go_loopg [3, 8] k (fun kq v3 v8 w' => ∃ (x3_1 : Int) (x8_1 : Int), v3 = .int .i64 x3_1 ∧ v8 = .int .i64 x8_1 ∧ Aside0 (spec_chSum.l0 kq x3_1 l0 (l0.length : Int) x8_1 = some r) ∧ Aside0 (kq ≤ k) ∧ Drawn0 w w')
 case atStart => exact ⟨(0), (0), (by first | rfl | (simp; done) | (simp [*]; done)), (by first | rfl | (simp; done) | (simp [*]; done)), H', ⟨Nat.le_refl _⟩, by repeat (first | exact Drawn0.refl _ | apply Drawn0.step)⟩
 case round =>
  clear H'
  obtain ⟨x3_1, x8_1, rfl, rfl, HA, HK1, ⟨m1, rfl⟩⟩ := hrel
  cases gk with
  | zero => exact absurd HA.out (by simp [spec_chSum.l0])
  | succ k1 =>
   have H := HA.out
   clear HA
   simp only [spec_chSum.l0] at H
   by_cases c2 : x8_1 < (l0.length : Int)
   rotate_left
   ·rw [if_neg c2] at H
    have c2b0 : decide (x8_1 < (l0.length : Int)) = false := decide_eq_false c2
    clear c2
    obtain rfl := Option.some.inj H
    go_wp2
    go_ret
    exact ⟨by first | rfl | (simp; done) | (simp [*]; done), by repeat (first | exact Drawn0.refl _ | apply Drawn0.step)⟩
   rw [if_pos c2] at H
   have c2b0 : decide (x8_1 < (l0.length : Int)) = true := decide_eq_true c2
   clear c2
   by_cases c3 : 0 ≤ x8_1
   rotate_left
   ·rw [if_neg c3] at H
    exact absurd H (by simp)
   rw [if_pos c3] at H
   have c3b0 : decide (0 ≤ x8_1) = true := decide_eq_true c3
   clear c3
   by_cases c4 : x8_1 < (l0.length : Int)
   rotate_left
   ·rw [if_neg c4] at H
    exact absurd H (by simp)
   rw [if_pos c4] at H
   have c4b0 : decide (x8_1 < (l0.length : Int)) = true := decide_eq_true c4
   clear c4
   have H' := Aside0.mk H
   clear H
   have p106 : 0 ≤ (x8_1 : Int) := of_decide_eq_true (by first | (with_reducible assumption) | assumption)
   have q106 : x8_1 < (l0.length : Int) := of_decide_eq_true (by first | (with_reducible assumption) | assumption)
   obtain ⟨ad106, e106, hx106_0⟩ := Kd.at_int HR0.out x8_1 p106 q106
   cases e106
   replace p106 := eq_true p106
   replace q106 := eq_true q106
   go_wp2
   go_roundg k1
   case measure => have := HK1.out; omega
   case rel => exact ⟨(wrap64 (x3_1 + (rd l0 x8_1))), (wrap64 (x8_1 + 1)), (by first | rfl | (simp; done) | (simp [*]; done)), (by first | rfl | (simp; done) | (simp [*]; done)), H', ⟨by have := HK1.out; omega⟩, by repeat (first | exact Drawn0.refl _ | apply Drawn0.step)⟩
def spec_esPower.l0 : Nat → Int → Int → Int → Option (Int)
 | 0, _, _, _ => none
 | k + 1, x0, x1, x5 => if x1 > 0 then (spec_esPower.l0 k x0 (wrap64 (x1 - 1)) (wrap64 (x5 * x0))) else (some x5)
def spec_esPower.f (k : Nat) (a0 : Int) (a1 : Int) : Option (Int) := spec_esPower.l0 k a0 a1 1
theorem spec_esPower.mono_l : ∀ k, (∀ y0 y1 y2, LeO (spec_esPower.l0 k y0 y1 y2) (spec_esPower.l0 (k + 1) y0 y1 y2))
 | 0 => fun _ _ _ r h => by simp [spec_esPower.l0] at h
 | k + 1 => by
  have ih0 := spec_esPower.mono_l k
  ·intro y0 y1 y2
   unfold spec_esPower.l0
   repeat' first
   | (with_reducible exact ih0 _ _ _)
   | (with_reducible exact LeO.refl _)
   | (with_reducible exact LeO.none _)
   | (with_reducible refine LeO.ite ?_ ?_)
   | (with_reducible refine LeO.bind ?_ (fun _ => ?_))
   | exact ih0 _ _ _
   | exact LeO.none _
   | refine LeO.ite ?_ ?_
   | refine LeO.bind ?_ (fun _ => ?_)
theorem spec_esPower.mono : ∀ a0 a1 k, LeO (spec_esPower.f k a0 a1) (spec_esPower.f (k + 1) a0 a1) := by
 intro a0 a1 k
 have ih0 := spec_esPower.mono_l k
 unfold spec_esPower.f
 repeat' first
   | (with_reducible exact ih0 _ _ _)
   | (with_reducible exact LeO.refl _)
   | (with_reducible exact LeO.none _)
   | (with_reducible refine LeO.ite ?_ ?_)
   | (with_reducible refine LeO.bind ?_ (fun _ => ?_))
   | exact ih0 _ _ _
   | exact LeO.none _
   | refine LeO.ite ?_ ?_
   | refine LeO.bind ?_ (fun _ => ?_)
set_option maxHeartbeats 8000000 in
set_option maxRecDepth 100000 in
theorem spec_esPower.calls (k : Nat) (a0 : Int) (a1 : Int) (r : Int) (w : World) (h : spec_esPower.f k a0 a1 = some r) :
  Calls Try.prog 59 #[.int .i64 a0, .int .i64 a1] w fun e w' => e = .returned (.int .i64 r) ∧ Drawn0 w w' := by
 have H : (spec_esPower.l0 k a0 a1 1) = some r := h
 clear h
 have H' := Aside0.mk H
 clear H
 go_enter Try.func59, Try.ntmps59
 go_wp2
 go_loopg [1, 5] k (fun kq v1 v5 w' => ∃ (x1_1 : Int) (x5_1 : Int), v1 = .int .i64 x1_1 ∧ v5 = .int .i64 x5_1 ∧ Aside0 (spec_esPower.l0 kq a0 x1_1 x5_1 = some r) ∧ Aside0 (kq ≤ k) ∧ Drawn0 w w')
 case atStart => exact ⟨(a1), (1), (by first | rfl | (simp; done) | (simp [*]; done)), (by first | rfl | (simp; done) | (simp [*]; done)), H', ⟨Nat.le_refl _⟩, by repeat (first | exact Drawn0.refl _ | apply Drawn0.step)⟩
 case round =>
  clear H'
  try clear p2
  obtain ⟨x1_1, x5_1, rfl, rfl, HA, HK1, ⟨m1, rfl⟩⟩ := hrel
  cases gk with
  | zero => exact absurd HA.out (by simp [spec_esPower.l0])
  | succ k1 =>
   have H := HA.out
   clear HA
   simp only [spec_esPower.l0] at H
   by_cases c3 : x1_1 > 0
   rotate_left
   ·rw [if_neg c3] at H
    have c3b0 : decide (0 < x1_1) = false := decide_eq_false c3
    clear c3
    obtain rfl := Option.some.inj H
    go_wp2
    go_ret
    exact ⟨by first | rfl | (simp; done) | (simp [*]; done), by repeat (first | exact Drawn0.refl _ | apply Drawn0.step)⟩
   rw [if_pos c3] at H
   have c3b0 : decide (0 < x1_1) = true := decide_eq_true c3
   clear c3
   have H' := Aside0.mk H
   clear H
   go_wp2
   go_roundg k1
   case measure => have := HK1.out; omega
   case rel => exact ⟨(wrap64 (x1_1 - 1)), (wrap64 (x5_1 * a0)), (by first | rfl | (simp; done) | (simp [*]; done)), (by first | rfl | (simp; done) | (simp [*]; done)), H', ⟨by have := HK1.out; omega⟩, by repeat (first | exact Drawn0.refl _ | apply Drawn0.step)⟩
def impl_nodesOf.l0 : Nat → Int → Int → Int → Int → Int → Option (Int)
 | 0, _, _, _, _, _ => none
 | k + 1, x0, x5, x6, x7, x8 => if x8 < x7 then (impl_nodesOf.l0 k x0 (wrap64 (x5 + (wrap64 (x6 * x0)))) (wrap64 (x6 * x0)) x7 (wrap64 (x8 + 1))) else (some x5)
def impl_nodesOf.f (k : Nat) (a0 : Int) (a1 : Int) : Option (Int) := impl_nodesOf.l0 k a0 1 1 a1 0
theorem impl_nodesOf.mono_l : ∀ k, (∀ y0 y1 y2 y3 y4, LeO (impl_nodesOf.l0 k y0 y1 y2 y3 y4) (impl_nodesOf.l0 (k + 1) y0 y1 y2 y3 y4))
 | 0 => fun _ _ _ _ _ r h => by simp [impl_nodesOf.l0] at h
 | k + 1 => by
  have ih0 := impl_nodesOf.mono_l k
  ·intro y0 y1 y2 y3 y4
   unfold impl_nodesOf.l0
   repeat' first
   | (with_reducible exact ih0 _ _ _ _ _)
   | (with_reducible exact LeO.refl _)
   | (with_reducible exact LeO.none _)
   | (with_reducible refine LeO.ite ?_ ?_)
   | (with_reducible refine LeO.bind ?_ (fun _ => ?_))
   | exact ih0 _ _ _ _ _
   | exact LeO.none _
   | refine LeO.ite ?_ ?_
   | refine LeO.bind ?_ (fun _ => ?_)
theorem impl_nodesOf.mono : ∀ a0 a1 k, LeO (impl_nodesOf.f k a0 a1) (impl_nodesOf.f (k + 1) a0 a1) := by
 intro a0 a1 k
 have ih0 := impl_nodesOf.mono_l k
 unfold impl_nodesOf.f
 repeat' first
   | (with_reducible exact ih0 _ _ _ _ _)
   | (with_reducible exact LeO.refl _)
   | (with_reducible exact LeO.none _)
   | (with_reducible refine LeO.ite ?_ ?_)
   | (with_reducible refine LeO.bind ?_ (fun _ => ?_))
   | exact ih0 _ _ _ _ _
   | exact LeO.none _
   | refine LeO.ite ?_ ?_
   | refine LeO.bind ?_ (fun _ => ?_)
set_option maxHeartbeats 8000000 in
set_option maxRecDepth 100000 in
theorem impl_nodesOf.calls (k : Nat) (a0 : Int) (a1 : Int) (r : Int) (w : World) (h : impl_nodesOf.f k a0 a1 = some r) :
  Calls Try.prog 57 #[.int .i64 a0, .int .i64 a1] w fun e w' => e = .returned (.int .i64 r) ∧ Drawn0 w w' := by
 have H : (impl_nodesOf.l0 k a0 1 1 a1 0) = some r := h
 clear h
 have H' := Aside0.mk H
 clear H
 go_enter Try.func57, Try.ntmps57
 go_wp2
 go_loopg [5, 6, 8] k (fun kq v5 v6 v8 w' => ∃ (x5_1 : Int) (x6_1 : Int) (x8_1 : Int), v5 = .int .i64 x5_1 ∧ v6 = .int .i64 x6_1 ∧ v8 = .int .i64 x8_1 ∧ Aside0 (impl_nodesOf.l0 kq a0 x5_1 x6_1 a1 x8_1 = some r) ∧ Aside0 (kq ≤ k) ∧ Drawn0 w w')
 case atStart => exact ⟨(1), (1), (0), (by first | rfl | (simp; done) | (simp [*]; done)), (by first | rfl | (simp; done) | (simp [*]; done)), (by first | rfl | (simp; done) | (simp [*]; done)), H', ⟨Nat.le_refl _⟩, by repeat (first | exact Drawn0.refl _ | apply Drawn0.step)⟩
 case round =>
  clear H'
  try clear p2
  obtain ⟨x5_1, x6_1, x8_1, rfl, rfl, rfl, HA, HK1, ⟨m1, rfl⟩⟩ := hrel
  cases gk with
  | zero => exact absurd HA.out (by simp [impl_nodesOf.l0])
  | succ k1 =>
   have H := HA.out
   clear HA
   simp only [impl_nodesOf.l0] at H
   by_cases c3 : x8_1 < a1
   rotate_left
   ·rw [if_neg c3] at H
    have c3b0 : decide (x8_1 < a1) = false := decide_eq_false c3
    clear c3
    obtain rfl := Option.some.inj H
    go_wp2
    go_ret
    exact ⟨by first | rfl | (simp; done) | (simp [*]; done), by repeat (first | exact Drawn0.refl _ | apply Drawn0.step)⟩
   rw [if_pos c3] at H
   have c3b0 : decide (x8_1 < a1) = true := decide_eq_true c3
   clear c3
   have H' := Aside0.mk H
   clear H
   go_wp2
   go_roundg k1
   case measure => have := HK1.out; omega
   case rel => exact ⟨(wrap64 (x5_1 + (wrap64 (x6_1 * a0)))), (wrap64 (x6_1 * a0)), (wrap64 (x8_1 + 1)), (by first | rfl | (simp; done) | (simp [*]; done)), (by first | rfl | (simp; done) | (simp [*]; done)), (by first | rfl | (simp; done) | (simp [*]; done)), H', ⟨by have := HK1.out; omega⟩, by repeat (first | exact Drawn0.refl _ | apply Drawn0.step)⟩
def impl_in.f (a0 : Int) (a1 : Int) (a2 : Int) : Option (Bool) := if a1 ≤ a0 then (some (decide (a0 ≤ a2))) else (some false)
set_option maxHeartbeats 8000000 in
set_option maxRecDepth 100000 in
theorem impl_in.calls (a0 : Int) (a1 : Int) (a2 : Int) (r : Bool) (w : World) (h : impl_in.f a0 a1 a2 = some r) :
  Calls Try.prog 73 #[.int .i64 a0, .int .i64 a1, .int .i64 a2] w fun e w' => e = .returned (.bool r) ∧ Drawn0 w w' := by
 have H : (if a1 ≤ a0 then (some (decide (a0 ≤ a2))) else (some false)) = some r := h
 clear h
 by_cases c4 : a1 ≤ a0
 ·rw [if_pos c4] at H
  have c4b0 : decide (a1 ≤ a0) = true := decide_eq_true c4
  clear c4
  obtain rfl := Option.some.inj H
  go_enter Try.func73, Try.ntmps73
  go_wp2
  go_ret
  exact ⟨by first | rfl | (simp; done) | (simp [*]; done), by repeat (first | exact Drawn0.refl _ | apply Drawn0.step)⟩
 rw [if_neg c4] at H
 have c4b0 : decide (a1 ≤ a0) = false := decide_eq_false c4
 clear c4
 obtain rfl := Option.some.inj H
 go_enter Try.func73, Try.ntmps73
 go_wp2
 go_ret
 exact ⟨by first | rfl | (simp; done) | (simp [*]; done), by repeat (first | exact Drawn0.refl _ | apply Drawn0.step)⟩
def impl_isBranching.f (k : Nat) (a0 : Int) (a1 : Int) : Option (Bool) := (impl_in.f a0 2 3).bind fun t118 => (if t118 = true then ((impl_in.f a1 1 6).bind fun t119 => (if t119 = true then ((impl_nodesOf.f k a0 a1).bind fun t120 => (some (decide (t120 ≤ 130)))) else (some false))) else (some false))
theorem impl_isBranching.mono : ∀ a0 a1 k, LeO (impl_isBranching.f k a0 a1) (impl_isBranching.f (k + 1) a0 a1) := by
 intro a0 a1 k
 unfold impl_isBranching.f
 repeat' first
   | (with_reducible exact impl_nodesOf.mono _ _ _)
   | (with_reducible exact LeO.refl _)
   | (with_reducible exact LeO.none _)
   | (with_reducible refine LeO.ite ?_ ?_)
   | (with_reducible refine LeO.bind ?_ (fun _ => ?_))
   | exact impl_nodesOf.mono _ _ _
   | exact LeO.none _
   | refine LeO.ite ?_ ?_
   | refine LeO.bind ?_ (fun _ => ?_)
set_option maxHeartbeats 8000000 in
set_option maxRecDepth 100000 in
theorem impl_isBranching.calls (k : Nat) (a0 : Int) (a1 : Int) (r : Bool) (w : World) (h : impl_isBranching.f k a0 a1 = some r) :
  Calls Try.prog 56 #[.int .i64 a0, .int .i64 a1] w fun e w' => e = .returned (.bool r) ∧ Drawn0 w w' := by
 have H : ((impl_in.f a0 2 3).bind fun t118 => (if t118 = true then ((impl_in.f a1 1 6).bind fun t119 => (if t119 = true then ((impl_nodesOf.f k a0 a1).bind fun t120 => (some (decide (t120 ≤ 130)))) else (some false))) else (some false))) = some r := h
 clear h
 replace H := Option.bind_eq_some_iff.mp H
 obtain ⟨t118, A30, H⟩ := H
 replace H : (if t118 = true then ((impl_in.f a1 1 6).bind fun t119 => (if t119 = true then ((impl_nodesOf.f k a0 a1).bind fun t120 => (some (decide (t120 ≤ 130)))) else (some false))) else (some false)) = some r := H
 have A3 := Aside0.mk A30
 clear A30
 by_cases c4 : t118 = true
 rotate_left
 ·replace c4 := Bool.eq_false_iff.mpr c4
  subst c4
  have H1 : (some false) = some r := by rw [if_neg (show ¬ (false = true) by decide)] at H; exact H
  clear H
  have H := H1
  clear H1
  obtain rfl := Option.some.inj H
  go_enter Try.func56, Try.ntmps56
  go_wp2_with (first | ((with_reducible refine gate_callee (f := 73) rfl ?_); refine goesL_ (some 6) rfl rfl Try.func73 (by kernel_rfl) rfl #[.int .i64 a0, .int .i64 2, .int .i64 3] rfl (by (try simp only [List.map_toArray, List.map_cons, List.map_nil]); first | done | rfl | (simp only [List.length_drop, List.length_take]; rfl)) ?_; (with_reducible refine (impl_in.calls a0 2 3 false _ A3.out).mono ?_); rintro e w' ⟨rfl, ⟨nd, rfl⟩⟩; refine ⟨_, rfl, ?_⟩))
  go_ret
  exact ⟨by first | rfl | (simp; done) | (simp [*]; done), by repeat (first | exact Drawn0.refl _ | apply Drawn0.step)⟩
 subst c4
 have H1 : ((impl_in.f a1 1 6).bind fun t119 => (if t119 = true then ((impl_nodesOf.f k a0 a1).bind fun t120 => (some (decide (t120 ≤ 130)))) else (some false))) = some r := by rw [if_pos rfl] at H; exact H
 clear H
 have H := H1
 clear H1
 replace H := Option.bind_eq_some_iff.mp H
 obtain ⟨t119, A50, H⟩ := H
 replace H : (if t119 = true then ((impl_nodesOf.f k a0 a1).bind fun t120 => (some (decide (t120 ≤ 130)))) else (some false)) = some r := H
 have A5 := Aside0.mk A50
 clear A50
 by_cases c6 : t119 = true
 rotate_left
 ·replace c6 := Bool.eq_false_iff.mpr c6
  subst c6
  have H1 : (some false) = some r := by rw [if_neg (show ¬ (false = true) by decide)] at H; exact H
  clear H
  have H := H1
  clear H1
  obtain rfl := Option.some.inj H
  go_enter Try.func56, Try.ntmps56
  go_wp2_with (first | ((with_reducible refine gate_callee (f := 73) rfl ?_); refine goesL_ (some 6) rfl rfl Try.func73 (by kernel_rfl) rfl #[.int .i64 a0, .int .i64 2, .int .i64 3] rfl (by (try simp only [List.map_toArray, List.map_cons, List.map_nil]); first | done | rfl | (simp only [List.length_drop, List.length_take]; rfl)) ?_; (with_reducible refine (impl_in.calls a0 2 3 true _ A3.out).mono ?_); rintro e w' ⟨rfl, ⟨nd, rfl⟩⟩; refine ⟨_, rfl, ?_⟩) | (go_at_call 73; (with_reducible refine (impl_in.calls a1 1 6 false _ A5.out).mono ?_); rintro e w' ⟨rfl, ⟨nd, rfl⟩⟩))
  go_ret
  exact ⟨by first | rfl | (simp; done) | (simp [*]; done), by repeat (first | exact Drawn0.refl _ | apply Drawn0.step)⟩
 subst c6
 have H1 : ((impl_nodesOf.f k a0 a1).bind fun t120 => (some (decide (t120 ≤ 130)))) = some r := by rw [if_pos rfl] at H; exact H
 clear H
 have H := H1
 clear H1
 replace H := Option.bind_eq_some_iff.mp H
 obtain ⟨t120, A70, H⟩ := H
 replace H : (some (decide (t120 ≤ 130))) = some r := H
 have A7 := Aside0.mk A70
 clear A70
 obtain rfl := Option.some.inj H
 go_enter Try.func56, Try.ntmps56
 go_wp2_with (first | ((with_reducible refine gate_callee (f := 73) rfl ?_); refine goesL_ (some 6) rfl rfl Try.func73 (by kernel_rfl) rfl #[.int .i64 a0, .int .i64 2, .int .i64 3] rfl (by (try simp only [List.map_toArray, List.map_cons, List.map_nil]); first | done | rfl | (simp only [List.length_drop, List.length_take]; rfl)) ?_; (with_reducible refine (impl_in.calls a0 2 3 true _ A3.out).mono ?_); rintro e w' ⟨rfl, ⟨nd, rfl⟩⟩; refine ⟨_, rfl, ?_⟩) | (go_at_call 73; (with_reducible refine (impl_in.calls a1 1 6 true _ A5.out).mono ?_); rintro e w' ⟨rfl, ⟨nd, rfl⟩⟩) | (go_at_call 57; (with_reducible refine (impl_nodesOf.calls k a0 a1 t120 _ A7.out).mono ?_); rintro e w' ⟨rfl, ⟨nd, rfl⟩⟩))
 go_ret
 exact ⟨by first | rfl | (simp; done) | (simp [*]; done), by repeat (first | exact Drawn0.refl _ | apply Drawn0.step)⟩
def impl_sum.l0 : Nat → Int → List Int → Int → Int → Option (Int)
 | 0, _, _, _, _ => none
 | k + 1, x3, x6, x7, x8 => if x8 < x7 then (if 0 ≤ x8 then (if x8 < (x6.length : Int) then (impl_sum.l0 k (wrap64 (x3 + (rd x6 x8))) x6 x7 (wrap64 (x8 + 1))) else (none)) else (none)) else (some x3)
def impl_sum.f (k : Nat) (l0 : List Int) : Option (Int) := impl_sum.l0 k 0 l0 (l0.length : Int) 0
theorem impl_sum.mono_l : ∀ k, (∀ y0 y1 y2 y3, LeO (impl_sum.l0 k y0 y1 y2 y3) (impl_sum.l0 (k + 1) y0 y1 y2 y3))
 | 0 => fun _ _ _ _ r h => by simp [impl_sum.l0] at h
 | k + 1 => by
  have ih0 := impl_sum.mono_l k
  ·intro y0 y1 y2 y3
   unfold impl_sum.l0
   repeat' first
   | (with_reducible exact ih0 _ _ _ _)
   | (with_reducible exact LeO.refl _)
   | (with_reducible exact LeO.none _)
   | (with_reducible refine LeO.ite ?_ ?_)
   | (with_reducible refine LeO.bind ?_ (fun _ => ?_))
   | exact ih0 _ _ _ _
   | exact LeO.none _
   | refine LeO.ite ?_ ?_
   | refine LeO.bind ?_ (fun _ => ?_)
theorem impl_sum.mono : ∀ a0 k, LeO (impl_sum.f k a0) (impl_sum.f (k + 1) a0) := by
 intro a0 k
 have ih0 := impl_sum.mono_l k
 unfold impl_sum.f
 repeat' first
   | (with_reducible exact ih0 _ _ _ _)
   | (with_reducible exact LeO.refl _)
   | (with_reducible exact LeO.none _)
   | (with_reducible refine LeO.ite ?_ ?_)
   | (with_reducible refine LeO.bind ?_ (fun _ => ?_))
   | exact ih0 _ _ _ _
   | exact LeO.none _
   | refine LeO.ite ?_ ?_
   | refine LeO.bind ?_ (fun _ => ?_)
set_option maxHeartbeats 8000000 in
set_option maxRecDepth 100000 in
theorem impl_sum.calls (k : Nat) (A0 : Option Addr) (c0 : Nat) (l0 : List Int) (r : Int) (w : World) (hr0 : Kd.C (Kd.int .i64) w A0 l0.length l0) (hc0 : l0.length ≤ c0) (h : impl_sum.f k l0 = some r) :
  Calls Try.prog 64 #[.slice A0 l0.length c0] w fun e w' => e = .returned (.int .i64 r) ∧ Drawn0 w w' := by
 have HR0 := Aside0.mk hr0
 have HC0 := Aside0.mk hc0
 clear hr0 hc0
 have H : (impl_sum.l0 k 0 l0 (l0.length : Int) 0) = some r := h
 clear h
 have H' := Aside0.mk H
 clear H
 go_enter Try.func64, Try.ntmps64
 go_wp2
 go_loopg [3, 8] k (fun kq v3 v8 w' => ∃ (x3_1 : Int) (x8_1 : Int), v3 = .int .i64 x3_1 ∧ v8 = .int .i64 x8_1 ∧ Aside0 (impl_sum.l0 kq x3_1 l0 (l0.length : Int) x8_1 = some r) ∧ Aside0 (kq ≤ k) ∧ Drawn0 w w')
 case atStart => exact ⟨(0), (0), (by first | rfl | (simp; done) | (simp [*]; done)), (by first | rfl | (simp; done) | (simp [*]; done)), H', ⟨Nat.le_refl _⟩, by repeat (first | exact Drawn0.refl _ | apply Drawn0.step)⟩
 case round =>
  clear H'
  obtain ⟨x3_1, x8_1, rfl, rfl, HA, HK1, ⟨m1, rfl⟩⟩ := hrel
  cases gk with
  | zero => exact absurd HA.out (by simp [impl_sum.l0])
  | succ k1 =>
   have H := HA.out
   clear HA
   simp only [impl_sum.l0] at H
   by_cases c2 : x8_1 < (l0.length : Int)
   rotate_left
   ·rw [if_neg c2] at H
    have c2b0 : decide (x8_1 < (l0.length : Int)) = false := decide_eq_false c2
    clear c2
    obtain rfl := Option.some.inj H
    go_wp2
    go_ret
    exact ⟨by first | rfl | (simp; done) | (simp [*]; done), by repeat (first | exact Drawn0.refl _ | apply Drawn0.step)⟩
   rw [if_pos c2] at H
   have c2b0 : decide (x8_1 < (l0.length : Int)) = true := decide_eq_true c2
   clear c2
   by_cases c3 : 0 ≤ x8_1
   rotate_left
   ·rw [if_neg c3] at H
    exact absurd H (by simp)
   rw [if_pos c3] at H
   have c3b0 : decide (0 ≤ x8_1) = true := decide_eq_true c3
   clear c3
   by_cases c4 : x8_1 < (l0.length : Int)
   rotate_left
   ·rw [if_neg c4] at H
    exact absurd H (by simp)
   rw [if_pos c4] at H
   have c4b0 : decide (x8_1 < (l0.length : Int)) = true := decide_eq_true c4
   clear c4
   have H' := Aside0.mk H
   clear H
   have p125 : 0 ≤ (x8_1 : Int) := of_decide_eq_true (by first | (with_reducible assumption) | assumption)
   have q125 : x8_1 < (l0.length : Int) := of_decide_eq_true (by first | (with_reducible assumption) | assumption)
   obtain ⟨ad125, e125, hx125_0⟩ := Kd.at_int HR0.out x8_1 p125 q125
   cases e125
   replace p125 := eq_true p125
   replace q125 := eq_true q125
   go_wp2
   go_roundg k1
   case measure => have := HK1.out; omega
   case rel => exact ⟨(wrap64 (x3_1 + (rd l0 x8_1))), (wrap64 (x8_1 + 1)), (by first | rfl | (simp; done) | (simp [*]; done)), (by first | rfl | (simp; done) | (simp [*]; done)), H', ⟨by have := HK1.out; omega⟩, by repeat (first | exact Drawn0.refl _ | apply Drawn0.step)⟩
def spec_l1All.l0 : Nat → Int → Int → List Int → Int → Int → Option (Bool)
 | 0, _, _, _, _, _ => none
 | k + 1, x1, x2, x9, x10, x11 => if x11 < x10 then (if 0 ≤ x11 then (if x11 < (x9.length : Int) then ((spec_l1In.f (rd x9 x11) x1 x2).bind fun t127 => (if t127 = true then (spec_l1All.l0 k x1 x2 x9 x10 (wrap64 (x11 + 1))) else (some false))) else (none)) else (none)) else (some true)
def spec_l1All.f (k : Nat) (l0 : List Int) (a1 : Int) (a2 : Int) : Option (Bool) := spec_l1All.l0 k a1 a2 l0 (l0.length : Int) 0
set_option maxHeartbeats 8000000 in
set_option maxRecDepth 100000 in
theorem spec_l1All.calls (k : Nat) (A0 : Option Addr) (c0 : Nat) (l0 : List Int) (a1 : Int) (a2 : Int) (r : Bool) (w : World) (hr0 : Kd.C (Kd.int .i64) w A0 l0.length l0) (hc0 : l0.length ≤ c0) (h : spec_l1All.f k l0 a1 a2 = some r) :
  Calls Try.prog 65 #[.slice A0 l0.length c0, .int .i64 a1, .int .i64 a2] w fun e w' => e = .returned (.bool r) ∧ Drawn0 w w' := by
 have HR0 := Aside0.mk hr0
 have HC0 := Aside0.mk hc0
 clear hr0 hc0
 have H : (spec_l1All.l0 k a1 a2 l0 (l0.length : Int) 0) = some r := h
 clear h
 have H' := Aside0.mk H
 clear H
 go_enter Try.func65, Try.ntmps65
 go_wp2
 go_loopg [11] k (fun kq v11 w' => ∃ (x11_1 : Int), v11 = .int .i64 x11_1 ∧ Aside0 (spec_l1All.l0 kq a1 a2 l0 (l0.length : Int) x11_1 = some r) ∧ Aside0 (kq ≤ k) ∧ Drawn0 w w')
 case atStart => exact ⟨(0), (by first | rfl | (simp; done) | (simp [*]; done)), H', ⟨Nat.le_refl _⟩, by repeat (first | exact Drawn0.refl _ | apply Drawn0.step)⟩
 case round =>
  clear H'
  try clear p2
  obtain ⟨x11_1, rfl, HA, HK1, ⟨m1, rfl⟩⟩ := hrel
  cases gk with
  | zero => exact absurd HA.out (by simp [spec_l1All.l0])
  | succ k1 =>
   have H := HA.out
   clear HA
   simp only [spec_l1All.l0] at H
   by_cases c4 : x11_1 < (l0.length : Int)
   rotate_left
   ·rw [if_neg c4] at H
    have c4b0 : decide (x11_1 < (l0.length : Int)) = false := decide_eq_false c4
    clear c4
    obtain rfl := Option.some.inj H
    go_wp2
    go_ret
    exact ⟨by first | rfl | (simp; done) | (simp [*]; done), by repeat (first | exact Drawn0.refl _ | apply Drawn0.step)⟩
   rw [if_pos c4] at H
   have c4b0 : decide (x11_1 < (l0.length : Int)) = true := decide_eq_true c4
   clear c4
   by_cases c5 : 0 ≤ x11_1
   rotate_left
   ·rw [if_neg c5] at H
    exact absurd H (by simp)
   rw [if_pos c5] at H
   have c5b0 : decide (0 ≤ x11_1) = true := decide_eq_true c5
   clear c5
   by_cases c6 : x11_1 < (l0.length : Int)
   rotate_left
   ·rw [if_neg c6] at H
    exact absurd H (by simp)
   rw [if_pos c6] at H
   have c6b0 : decide (x11_1 < (l0.length : Int)) = true := decide_eq_true c6
   clear c6
   replace H := Option.bind_eq_some_iff.mp H
   obtain ⟨t127, A70, H⟩ := H
   replace H : (if t127 = true then (spec_l1All.l0 k1 a1 a2 l0 (l0.length : Int) (wrap64 (x11_1 + 1))) else (some false)) = some r := H
   have A7 := Aside0.mk A70
   clear A70
   by_cases c8 : t127 = true
   rotate_left
   ·replace c8 := Bool.eq_false_iff.mpr c8
    subst c8
    have H1 : (some false) = some r := by rw [if_neg (show ¬ (false = true) by decide)] at H; exact H
    clear H
    have H := H1
    clear H1
    obtain rfl := Option.some.inj H
    have p126 : 0 ≤ (x11_1 : Int) := of_decide_eq_true (by first | (with_reducible assumption) | assumption)
    have q126 : x11_1 < (l0.length : Int) := of_decide_eq_true (by first | (with_reducible assumption) | assumption)
    obtain ⟨ad126, e126, hx126_0⟩ := Kd.at_int HR0.out x11_1 p126 q126
    cases e126
    replace p126 := eq_true p126
    replace q126 := eq_true q126
    go_wp2_with (first | ((with_reducible refine gate_callee (f := 71) rfl ?_); refine goesL_ (some 18) rfl rfl Try.func71 (by kernel_rfl) rfl #[.int .i64 (rd l0 x11_1), .int .i64 a1, .int .i64 a2] rfl (by (try simp only [List.map_toArray, List.map_cons, List.map_nil]); first | done | rfl | (simp only [List.length_drop, List.length_take]; rfl)) ?_; (with_reducible refine (spec_l1In.calls (rd l0 x11_1) a1 a2 false _ A7.out).mono ?_); rintro e w' ⟨rfl, ⟨nd, rfl⟩⟩; refine ⟨_, rfl, ?_⟩))
    go_ret
    exact ⟨by first | rfl | (simp; done) | (simp [*]; done), by repeat (first | exact Drawn0.refl _ | apply Drawn0.step)⟩
   subst c8
   have H1 : (spec_l1All.l0 k1 a1 a2 l0 (l0.length : Int) (wrap64 (x11_1 + 1))) = some r := by rw [if_pos rfl] at H; exact H
   clear H
   have H := H1
   clear H1
   have H' := Aside0.mk H
   clear H
   have p126 : 0 ≤ (x11_1 : Int) := of_decide_eq_true (by first | (with_reducible assumption) | assumption)
   have q126 : x11_1 < (l0.length : Int) := of_decide_eq_true (by first | (with_reducible assumption) | assumption)
   obtain ⟨ad126, e126, hx126_0⟩ := Kd.at_int HR0.out x11_1 p126 q126
   cases e126
   replace p126 := eq_true p126
   replace q126 := eq_true q126
   go_wp2_with (first | ((with_reducible refine gate_callee (f := 71) rfl ?_); refine goesL_ (some 18) rfl rfl Try.func71 (by kernel_rfl) rfl #[.int .i64 (rd l0 x11_1), .int .i64 a1, .int .i64 a2] rfl (by (try simp only [List.map_toArray, List.map_cons, List.map_nil]); first | done | rfl | (simp only [List.length_drop, List.length_take]; rfl)) ?_; (with_reducible refine (spec_l1In.calls (rd l0 x11_1) a1 a2 true _ A7.out).mono ?_); rintro e w' ⟨rfl, ⟨nd, rfl⟩⟩; refine ⟨_, rfl, ?_⟩))
   go_roundg k1
   case measure => have := HK1.out; omega
   case rel => exact ⟨(wrap64 (x11_1 + 1)), (by first | rfl | (simp; done) | (simp [*]; done)), H', ⟨by have := HK1.out; omega⟩, by repeat (first | exact Drawn0.refl _ | apply Drawn0.step)⟩
end Go.Proofs.Ytmechelmnpoddaa.A7
namespace Go.Proofs.Ytmechelmnpoddaa.A7
open Go.RowKit YtmechelmnpoddaaW.PrintWords YtmechelmnpoddaaW.PrintLast YtmechelmnpoddaaW.PrintMore
attribute [local go_sem] max2_int min2_int max_two min_two max_three min_three max_four min_four
def spec_l1Most.f (a0 : Int) (a1 : Int) : Option (Int) := if a0 > a1 then (some a0) else (some a1)
set_option maxHeartbeats 8000000 in
set_option maxRecDepth 100000 in
theorem spec_l1Most.calls (a0 : Int) (a1 : Int) (r : Int) (w : World) (h : spec_l1Most.f a0 a1 = some r) :
  Calls Try.prog 69 #[.int .i64 a0, .int .i64 a1] w fun e w' => e = .returned (.int .i64 r) ∧ Drawn0 w w' := by
 have H : (if a0 > a1 then (some a0) else (some a1)) = some r := h
 clear h
 by_cases c3 : a0 > a1
 ·rw [if_pos c3] at H
  have c3b0 : decide (a1 < a0) = true := decide_eq_true c3
  clear c3
  obtain rfl := Option.some.inj H
  go_enter Try.func69, Try.ntmps69
  go_wp2
  go_ret
  exact ⟨by first | rfl | (simp; done) | (simp [*]; done), by repeat (first | exact Drawn0.refl _ | apply Drawn0.step)⟩
 rw [if_neg c3] at H
 have c3b0 : decide (a1 < a0) = false := decide_eq_false c3
 clear c3
 obtain rfl := Option.some.inj H
 go_enter Try.func69, Try.ntmps69
 go_wp2
 go_ret
 exact ⟨by first | rfl | (simp; done) | (simp [*]; done), by repeat (first | exact Drawn0.refl _ | apply Drawn0.step)⟩
def impl_power.l0 : Nat → Int → Int → Int → Int → Option (Int)
 | 0, _, _, _, _ => none
 | k + 1, x0, x5, x6, x7 => if x7 < x6 then (impl_power.l0 k x0 (wrap64 (x5 * x0)) x6 (wrap64 (x7 + 1))) else (some x5)
def impl_power.f (k : Nat) (a0 : Int) (a1 : Int) : Option (Int) := impl_power.l0 k a0 1 a1 0
theorem impl_power.mono_l : ∀ k, (∀ y0 y1 y2 y3, LeO (impl_power.l0 k y0 y1 y2 y3) (impl_power.l0 (k + 1) y0 y1 y2 y3))
 | 0 => fun _ _ _ _ r h => by simp [impl_power.l0] at h
 | k + 1 => by
  have ih0 := impl_power.mono_l k
  ·intro y0 y1 y2 y3
   unfold impl_power.l0
   repeat' first
   | (with_reducible exact ih0 _ _ _ _)
   | (with_reducible exact LeO.refl _)
   | (with_reducible exact LeO.none _)
   | (with_reducible refine LeO.ite ?_ ?_)
   | (with_reducible refine LeO.bind ?_ (fun _ => ?_))
   | exact ih0 _ _ _ _
   | exact LeO.none _
   | refine LeO.ite ?_ ?_
   | refine LeO.bind ?_ (fun _ => ?_)
theorem impl_power.mono : ∀ a0 a1 k, LeO (impl_power.f k a0 a1) (impl_power.f (k + 1) a0 a1) := by
 intro a0 a1 k
 have ih0 := impl_power.mono_l k
 unfold impl_power.f
 repeat' first
   | (with_reducible exact ih0 _ _ _ _)
   | (with_reducible exact LeO.refl _)
   | (with_reducible exact LeO.none _)
   | (with_reducible refine LeO.ite ?_ ?_)
   | (with_reducible refine LeO.bind ?_ (fun _ => ?_))
   | exact ih0 _ _ _ _
   | exact LeO.none _
   | refine LeO.ite ?_ ?_
   | refine LeO.bind ?_ (fun _ => ?_)
set_option maxHeartbeats 8000000 in
set_option maxRecDepth 100000 in
theorem impl_power.calls (k : Nat) (a0 : Int) (a1 : Int) (r : Int) (w : World) (h : impl_power.f k a0 a1 = some r) :
  Calls Try.prog 75 #[.int .i64 a0, .int .i64 a1] w fun e w' => e = .returned (.int .i64 r) ∧ Drawn0 w w' := by
 have H : (impl_power.l0 k a0 1 a1 0) = some r := h
 clear h
 have H' := Aside0.mk H
 clear H
 go_enter Try.func75, Try.ntmps75
 go_wp2
 go_loopg [5, 7] k (fun kq v5 v7 w' => ∃ (x5_1 : Int) (x7_1 : Int), v5 = .int .i64 x5_1 ∧ v7 = .int .i64 x7_1 ∧ Aside0 (impl_power.l0 kq a0 x5_1 a1 x7_1 = some r) ∧ Aside0 (kq ≤ k) ∧ Drawn0 w w')
 case atStart => exact ⟨(1), (0), (by first | rfl | (simp; done) | (simp [*]; done)), (by first | rfl | (simp; done) | (simp [*]; done)), H', ⟨Nat.le_refl _⟩, by repeat (first | exact Drawn0.refl _ | apply Drawn0.step)⟩
 case round =>
  clear H'
  try clear p2
  obtain ⟨x5_1, x7_1, rfl, rfl, HA, HK1, ⟨m1, rfl⟩⟩ := hrel
  cases gk with
  | zero => exact absurd HA.out (by simp [impl_power.l0])
  | succ k1 =>
   have H := HA.out
   clear HA
   simp only [impl_power.l0] at H
   by_cases c3 : x7_1 < a1
   rotate_left
   ·rw [if_neg c3] at H
    have c3b0 : decide (x7_1 < a1) = false := decide_eq_false c3
    clear c3
    obtain rfl := Option.some.inj H
    go_wp2
    go_ret
    exact ⟨by first | rfl | (simp; done) | (simp [*]; done), by repeat (first | exact Drawn0.refl _ | apply Drawn0.step)⟩
   rw [if_pos c3] at H
   have c3b0 : decide (x7_1 < a1) = true := decide_eq_true c3
   clear c3
   have H' := Aside0.mk H
   clear H
   go_wp2
   go_roundg k1
   case measure => have := HK1.out; omega
   case rel => exact ⟨(wrap64 (x5_1 * a0)), (wrap64 (x7_1 + 1)), (by first | rfl | (simp; done) | (simp [*]; done)), (by first | rfl | (simp; done) | (simp [*]; done)), H', ⟨by have := HK1.out; omega⟩, by repeat (first | exact Drawn0.refl _ | apply Drawn0.step)⟩
def spec_l1Abs.f (a0 : Int) : Option (Int) := (spec_l1Most.f a0 (wrap64 (-a0))).bind fun t154 => (some t154)
set_option maxHeartbeats 8000000 in
set_option maxRecDepth 100000 in
theorem spec_l1Abs.calls (a0 : Int) (r : Int) (w : World) (h : spec_l1Abs.f a0 = some r) :
  Calls Try.prog 76 #[.int .i64 a0] w fun e w' => e = .returned (.int .i64 r) ∧ Drawn0 w w' := by
 have H : ((spec_l1Most.f a0 (wrap64 (-a0))).bind fun t154 => (some t154)) = some r := h
 clear h
 replace H := Option.bind_eq_some_iff.mp H
 obtain ⟨t154, A20, H⟩ := H
 replace H : (some t154) = some r := H
 have A2 := Aside0.mk A20
 clear A20
 obtain rfl := Option.some.inj H
 go_enter Try.func76, Try.ntmps76
 go_wp2_with (first | ((with_reducible refine gate_callee (f := 69) rfl ?_); refine goesL_ (some 6) rfl rfl Try.func69 (by kernel_rfl) rfl #[.int .i64 a0, .int .i64 (wrap64 (-a0))] rfl (by (try simp only [List.map_toArray, List.map_cons, List.map_nil]); first | done | rfl | (simp only [List.length_drop, List.length_take]; rfl)) ?_; (with_reducible refine (spec_l1Most.calls a0 (wrap64 (-a0)) t154 _ A2.out).mono ?_); rintro e w' ⟨rfl, ⟨nd, rfl⟩⟩; refine ⟨_, rfl, ?_⟩))
 go_ret
 exact ⟨by first | rfl | (simp; done) | (simp [*]; done), by repeat (first | exact Drawn0.refl _ | apply Drawn0.step)⟩
mutual
def spec_hiRatio.j0 : Nat → Int → Int → Option (Int × Int)
 | 0, _, _ => none
 | k + 1, x0, x1 => (spec_l1Abs.f x0).bind fun t156 => (spec_hiRatio.l0 k x0 x1 t156 x1)
def spec_hiRatio.l0 : Nat → Int → Int → Int → Int → Option (Int × Int)
 | 0, _, _, _, _ => none
 | k + 1, x0, x1, x5, x6 => if x6 > 0 then (if x6 = 0 then (none) else (spec_hiRatio.l0 k x0 x1 x6 (Int.tmod x5 x6))) else (if x5 = 0 then (none) else (some (wrap64 (Int.tdiv x0 x5), wrap64 (Int.tdiv x1 x5))))
end
def spec_hiRatio.f (k : Nat) (a0 : Int) (a1 : Int) : Option (Int × Int) := if a1 < 0 then (spec_hiRatio.j0 k (wrap64 (-a0)) (wrap64 (-a1))) else (spec_hiRatio.j0 k a0 a1)
theorem spec_hiRatio.mono_l : ∀ k, (∀ y0 y1, LeO (spec_hiRatio.j0 k y0 y1) (spec_hiRatio.j0 (k + 1) y0 y1)) ∧ (∀ y0 y1 y2 y3, LeO (spec_hiRatio.l0 k y0 y1 y2 y3) (spec_hiRatio.l0 (k + 1) y0 y1 y2 y3))
 | 0 => ⟨fun _ _ r h => by simp [spec_hiRatio.j0] at h, fun _ _ _ _ r h => by simp [spec_hiRatio.l0] at h⟩
 | k + 1 => by
  obtain ⟨ih0, ih1⟩ := spec_hiRatio.mono_l k
  refine ⟨?_, ?_⟩
  ·intro y0 y1
   unfold spec_hiRatio.j0
   repeat' first
   | (with_reducible exact ih0 _ _)
   | (with_reducible exact ih1 _ _ _ _)
   | (with_reducible exact LeO.refl _)
   | (with_reducible exact LeO.none _)
   | (with_reducible refine LeO.ite ?_ ?_)
   | (with_reducible refine LeO.bind ?_ (fun _ => ?_))
   | exact ih0 _ _
   | exact ih1 _ _ _ _
   | exact LeO.none _
   | refine LeO.ite ?_ ?_
   | refine LeO.bind ?_ (fun _ => ?_)
  ·intro y0 y1 y2 y3
   unfold spec_hiRatio.l0
   repeat' first
   | (with_reducible exact ih0 _ _)
   | (with_reducible exact ih1 _ _ _ _)
   | (with_reducible exact LeO.refl _)
   | (with_reducible exact LeO.none _)
   | (with_reducible refine LeO.ite ?_ ?_)
   | (with_reducible refine LeO.bind ?_ (fun _ => ?_))
   | exact ih0 _ _
   | exact ih1 _ _ _ _
   | exact LeO.none _
   | refine LeO.ite ?_ ?_
   | refine LeO.bind ?_ (fun _ => ?_)
theorem spec_hiRatio.mono : ∀ a0 a1 k, LeO (spec_hiRatio.f k a0 a1) (spec_hiRatio.f (k + 1) a0 a1) := by
 intro a0 a1 k
 obtain ⟨ih0, ih1⟩ := spec_hiRatio.mono_l k
 unfold spec_hiRatio.f
 repeat' first
   | (with_reducible exact ih0 _ _)
   | (with_reducible exact ih1 _ _ _ _)
   | (with_reducible exact LeO.refl _)
   | (with_reducible exact LeO.none _)
   | (with_reducible refine LeO.ite ?_ ?_)
   | (with_reducible refine LeO.bind ?_ (fun _ => ?_))
   | exact ih0 _ _
   | exact ih1 _ _ _ _
   | exact LeO.none _
   | refine LeO.ite ?_ ?_
   | refine LeO.bind ?_ (fun _ => ?_)
def spec_hiRatio.T6 : Bool × List (List Nat × List Nat) := (true, [([], []), ([], []), ([0, 1], [0, 1]), ([], []), ([], []), ([3, 4], [3, 4]), ([2, 5], [2, 5]), ([6, 0, 1, 2, 3, 4, 5, 6], [6])])
def spec_hiRatio.B6 : List Nat := [0, 0, 3, 0, 0, 24, 63, 127]
theorem spec_hiRatio.tab6 : rtab .any (opsOf Try.f58 6) = spec_hiRatio.T6 := by kernel_rfl
theorem spec_hiRatio.bits6 : waitsOk spec_hiRatio.T6.2 spec_hiRatio.B6 = true := by kernel_rfl
set_option maxHeartbeats 8000000 in
set_option maxRecDepth 100000 in
theorem spec_hiRatio.calls (k : Nat) (a0 : Int) (a1 : Int) (r1 : Int) (r2 : Int) (w : World) (h : spec_hiRatio.f k a0 a1 = some (r1, r2)) :
  Calls Try.prog 58 #[.int .i64 a0, .int .i64 a1] w fun e w' => e = .returned (.agg #[.int .i64 r1, .int .i64 r2]) ∧ Below w.heap.size w w' := by
 have hu26 := Try.underlying26
 have HB := Aside0.mk (Below.refl w.heap.size w)
 have H : (if a1 < 0 then (spec_hiRatio.j0 k (wrap64 (-a0)) (wrap64 (-a1))) else (spec_hiRatio.j0 k a0 a1)) = some (r1, r2) := h
 clear h
 have HC3 := Aside0.mk H
 clear H
 go_enter Try.func58, Try.ntmps58
 go_upto_if 8 with (first | ((with_reducible refine gate_dst (N := 4) rfl ?_); refine box_event ?hg (N := 4) ?hd (cs := #[.int .i64 0, .int .i64 0]) (t := 26) ?hr ?_; (case hd => rfl); (case hg => rfl); (case hr => first | (go_simp; done) | (go_simp; rfl)); intro gb155 hg w4 hbox hb; have n0_ := Aside0.mk (bP_ (by repeat (first | (with_reducible first | exact HB.out | apply bA_ | apply bN_ | apply bD_) | exact HB.out)) hb); have n1_ := Aside0.mk (hbox); have n2_ := Aside0.mk ((by rw [hg]; exact (bZ_ (by repeat (first | (with_reducible first | exact HB.out | apply bA_ | apply bN_ | apply bD_) | exact HB.out))) : w.heap.size ≤ gb155)); have n3_ := Aside0.mk ((by rw [hg]; exact (bZ_ (by repeat (first | (with_reducible first | exact HB.out | apply bA_ | apply bN_ | apply bD_) | exact HB.out))) : w.heap.size ≤ gb155)); clear HB; have HB := n0_; have BK155 := n1_; have GW155 := n2_; have GE155 := n3_; clear n0_ n1_ n2_ n3_; clear hb hbox hg))
 (try simp only [Act.put, List.setIfInBounds_toArray, List.set_cons_zero, List.set_cons_succ])
 go_cut [0, 1] (fun v0 v1 wc => ∃ (kq : Nat) (x0_2 : Int) (x1_2 : Int), v0 = .int .i64 x0_2 ∧ v1 = .int .i64 x1_2 ∧ Aside0 (spec_hiRatio.j0 kq x0_2 x1_2 = some (r1, r2)) ∧ Aside0 (kq ≤ k) ∧ Aside0 (wc.heap[gb155]? = some (.cells #[.int .i64 0, .int .i64 0] 26 (0, 0))) ∧ Aside0 (Below w.heap.size w wc))
 case first =>
  have H := HC3.out
  clear HC3
  by_cases c5 : a1 < 0
  ·rw [if_pos c5] at H
   have c5b0 : decide (a1 < 0) = true := decide_eq_true c5
   clear c5
   (first | rw [c5b0] | (simp only [i64_w, i32_w]; rw [c5b0]) | skip)
   have H' := Aside0.mk H
   clear H
   go_wp2
   go_meet
   case rel => exact ⟨_, (wrap64 (-a0)), (wrap64 (-a1)), (by first | rfl | (simp; done) | (simp [*]; done)), (by first | rfl | (simp; done) | (simp [*]; done)), H', ⟨by first | omega | exact Nat.le_refl _⟩, ⟨by (with_reducible repeat (first | apply kN_ | apply kD_ | apply kA_)); exact BK155.out⟩, ⟨by repeat (first | (with_reducible first | exact HB.out | apply bA_ | apply bN_ | apply bD_ | refine bS_ ?_ GE155.out) | exact HB.out)⟩⟩
  rw [if_neg c5] at H
  have c5b0 : decide (a1 < 0) = false := decide_eq_false c5
  clear c5
  (first | rw [c5b0] | (simp only [i64_w, i32_w]; rw [c5b0]) | skip)
  have H' := Aside0.mk H
  clear H
  go_wp2
  go_meet
  case rel => exact ⟨_, (a0), (a1), (by first | rfl | (simp; done) | (simp [*]; done)), (by first | rfl | (simp; done) | (simp [*]; done)), H', ⟨by first | omega | exact Nat.le_refl _⟩, ⟨by (with_reducible repeat (first | apply kN_ | apply kD_ | apply kA_)); exact BK155.out⟩, ⟨by repeat (first | (with_reducible first | exact HB.out | apply bA_ | apply bN_ | apply bD_ | refine bS_ ?_ GE155.out) | exact HB.out)⟩⟩
 case rest =>
  clear HC3
  try clear p2
  try clear c5
  try clear c5b0
  obtain ⟨kq, x0_2, x1_2, rfl, rfl, HA, HJ2, BK155, HB⟩ := hcut
  cases kq with
  | zero => exact absurd HA.out (by simp [spec_hiRatio.j0])
  | succ kj2 =>
   have H := HA.out
   clear HA
   simp only [spec_hiRatio.j0] at H
   replace H := Option.bind_eq_some_iff.mp H
   obtain ⟨t156, A60, H⟩ := H
   replace H : (spec_hiRatio.l0 kj2 x0_2 x1_2 t156 x1_2) = some (r1, r2) := H
   have A6 := Aside0.mk A60
   clear A60
   have H' := Aside0.mk H
   clear H
   go_wp2_with (first | ((with_reducible refine gate_callee (f := 76) rfl ?_); refine goesL_ (some 14) rfl rfl Try.func76 (by kernel_rfl) rfl #[.int .i64 x0_2] rfl (by (try simp only [List.map_toArray, List.map_cons, List.map_nil]); first | done | rfl | (simp only [List.length_drop, List.length_take]; rfl)) ?_; (with_reducible refine (spec_l1Abs.calls x0_2 t156 _ A6.out).mono ?_); rintro e w' ⟨rfl, ⟨nd, rfl⟩⟩; refine ⟨_, rfl, ?_⟩))
   go_loopg [5, 6] kj2 (fun kq v5 v6 w' => ∃ (x5_2 : Int) (x6_2 : Int), v5 = .int .i64 x5_2 ∧ v6 = .int .i64 x6_2 ∧ Aside0 (spec_hiRatio.l0 kq x0_2 x1_2 x5_2 x6_2 = some (r1, r2)) ∧ Aside0 (kq ≤ kj2) ∧ Aside0 (w'.heap[gb155]? = some (.cells #[.int .i64 0, .int .i64 0] 26 (0, 0))) ∧ Aside0 (Below w.heap.size w w'))
   case atStart => exact ⟨(t156), (x1_2), (by first | rfl | (simp; done) | (simp [*]; done)), (by first | rfl | (simp; done) | (simp [*]; done)), H', ⟨Nat.le_refl _⟩, ⟨by (with_reducible repeat (first | apply kN_ | apply kD_ | apply kA_)); exact BK155.out⟩, ⟨by repeat (first | (with_reducible first | exact HB.out | apply bA_ | apply bN_ | apply bD_ | refine bS_ ?_ GE155.out) | exact HB.out)⟩⟩
   case round =>
    clear H'
    try clear p2
    try clear c5
    try clear c5b0
    try clear p6
    try clear p2
    obtain ⟨x5_2, x6_2, rfl, rfl, HA, HK2, BK155, HB⟩ := hrel
    cases gk with
    | zero => exact absurd HA.out (by simp [spec_hiRatio.l0])
    | succ k2 =>
     have H := HA.out
     clear HA
     simp only [spec_hiRatio.l0] at H
     by_cases c7 : x6_2 > 0
     ·rw [if_pos c7] at H
      have c7b0 : decide (0 < x6_2) = true := decide_eq_true c7
      clear c7
      by_cases c8 : x6_2 = 0
      ·rw [if_pos c8] at H
       exact absurd H (by simp)
      rw [if_neg c8] at H
      have c8b0 : (x6_2 == 0) = false := beq_eq_false_iff_ne.mpr c8
      have c8b1 : (x6_2 != 0) = true := bne_iff_ne.mpr c8
      have H' := Aside0.mk H
      clear H
      try go_wp2
      have n0_ := Aside0.mk (kD_ BK155.out)
      have n1_ := Aside0.mk (bD_ HB.out)
      clear BK155
      clear HB
      have BK155 := n0_
      have HB := n1_
      clear n0_ n1_
      refine start_ (n := 6) (S := fun w' => True) (ds := []) #[false, false, false, false, false, false] (by kernel_rfl) rfl rfl trivial (fun hHeld => ?_)
      generalize wr.drew = w9 at BK155 HB hHeld ⊢
      refine pure_ (i := 0) (N := some 18) (v := ?_) (a' := ?_) #[true, false, false, false, false, false] rfl rfl (by kernel_rfl) (fun _ _ _ h => h) (Or.inl ⟨by rfl, ?_⟩) ?_ ?_
      rotate_left
      ·intro w'
       go_simp
       with_reducible rfl
      rotate_left
      ·simp only [sp_]
       rfl
      refine pure_ (i := 1) (N := some 19) (v := ?_) (a' := ?_) #[true, true, false, false, false, false] rfl rfl (by kernel_rfl) (fun _ _ _ h => h) (Or.inl ⟨by rfl, ?_⟩) ?_ ?_
      rotate_left
      ·intro w'
       go_simp
       with_reducible rfl
      rotate_left
      ·simp only [sp_]
       rfl
      refine pure_ (i := 2) (N := some 20) (v := ?_) (a' := ?_) #[true, true, true, false, false, false] rfl rfl (by kernel_rfl) (fun _ _ _ h => h) (Or.inl ⟨by rfl, ?_⟩) ?_ ?_
      rotate_left
      ·intro w'
       go_simp
       with_reducible rfl
      rotate_left
      ·simp only [sp_]
       rfl
      refine pure_ (i := 3) (N := some 21) (v := ?_) (a' := ?_) #[true, true, true, true, false, false] rfl rfl (by kernel_rfl) (fun _ _ _ h => h) (Or.inl ⟨by rfl, ?_⟩) ?_ ?_
      rotate_left
      ·intro w'
       go_simp
       with_reducible rfl
      rotate_left
      ·simp only [sp_]
       rfl
      refine pure_ (i := 4) (N := some 5) (v := ?_) (a' := ?_) #[true, true, true, true, true, false] rfl rfl (by kernel_rfl) (fun _ _ _ h => h) (Or.inl ⟨by rfl, ?_⟩) ?_ ?_
      rotate_left
      ·intro w'
       go_simp
       with_reducible rfl
      rotate_left
      ·simp only [sp_]
       rfl
      refine pure_ (i := 5) (N := some 6) (v := ?_) (a' := ?_) #[true, true, true, true, true, true] rfl rfl (by kernel_rfl) (fun _ _ _ h => h) (Or.inl ⟨by rfl, ?_⟩) ?_ ?_
      rotate_left
      ·intro w'
       go_simp
       with_reducible rfl
      rotate_left
      ·simp only [sp_]
       rfl
      refine done_ (by kernel_rfl) ?_
      try go_wp2
      go_roundg k2
      case measure => have := HJ2.out; have := HK2.out; omega
      case rel => exact ⟨(x6_2), (Int.tmod x5_2 x6_2), (by first | rfl | (simp; done) | (simp [*]; done)), (by first | rfl | (simp; done) | (simp [*]; done)), H', ⟨by have := HJ2.out; have := HK2.out; omega⟩, ⟨by (with_reducible repeat (first | apply kN_ | apply kD_ | apply kA_)); exact BK155.out⟩, ⟨by repeat (first | (with_reducible first | exact HB.out | apply bA_ | apply bN_ | apply bD_ | refine bS_ ?_ GE155.out) | exact HB.out)⟩⟩
     rw [if_neg c7] at H
     have c7b0 : decide (0 < x6_2) = false := decide_eq_false c7
     clear c7
     by_cases c10 : x5_2 = 0
     ·rw [if_pos c10] at H
      exact absurd H (by simp)
     rw [if_neg c10] at H
     have c10b0 : (x5_2 == 0) = false := beq_eq_false_iff_ne.mpr c10
     have c10b1 : (x5_2 != 0) = true := bne_iff_ne.mpr c10
     simp only [Option.some.injEq, Prod.mk.injEq] at H
     obtain ⟨rfl, rfl⟩ := H
     try go_wp2
     have n0_ := Aside0.mk (kD_ BK155.out)
     have n1_ := Aside0.mk (bD_ HB.out)
     clear BK155
     clear HB
     have BK155 := n0_
     have HB := n1_
     clear n0_ n1_
     refine start_ (n := 8) (S := fun w' => True) (ds := []) #[false, false, false, false, false, false, false, false] (by kernel_rfl) rfl rfl trivial (fun hHeld => ?_); refine with_tabW spec_hiRatio.tab6 spec_hiRatio.bits6 (fun HT_ HW_ => ?_)
     generalize wr.drew = w11 at BK155 HB hHeld ⊢
     refine pu_ (i := 0) (N := some 22) (v := ?_) (a' := ?_) HT_.out rfl rfl (Or.inl ⟨by rfl, ?_⟩) ?_ ?_
     rotate_left
     ·intro w'
      go_simp
      with_reducible rfl
     rotate_left
     ·simp only [sp_]
      rfl
     refine pu_ (i := 1) (N := some 23) (v := ?_) (a' := ?_) HT_.out rfl rfl (Or.inl ⟨by rfl, ?_⟩) ?_ ?_
     rotate_left
     ·intro w'
      go_simp
      with_reducible rfl
     rotate_left
     ·simp only [sp_]
      rfl
     refine pu_ (i := 2) (N := some 24) (v := ?_) (a' := ?_) HT_.out rfl rfl (Or.inl ⟨by rfl, ?_⟩) ?_ ?_
     rotate_left
     ·intro w'
      go_simp
      with_reducible rfl
     rotate_left
     ·simp only [sp_]
      rfl
     refine pu_ (i := 3) (N := some 25) (v := ?_) (a' := ?_) HT_.out rfl rfl (Or.inl ⟨by rfl, ?_⟩) ?_ ?_
     rotate_left
     ·intro w'
      go_simp
      with_reducible rfl
     rotate_left
     ·simp only [sp_]
      rfl
     refine pu_ (i := 4) (N := some 26) (v := ?_) (a' := ?_) HT_.out rfl rfl (Or.inl ⟨by rfl, ?_⟩) ?_ ?_
     rotate_left
     ·intro w'
      go_simp
      with_reducible rfl
     rotate_left
     ·simp only [sp_]
      rfl
     refine pu_ (i := 5) (N := some 27) (v := ?_) (a' := ?_) HT_.out rfl rfl (Or.inl ⟨by rfl, ?_⟩) ?_ ?_
     rotate_left
     ·intro w'
      go_simp
      with_reducible rfl
     rotate_left
     ·simp only [sp_]
      rfl
     refine pu_ (i := 6) (N := some 28) (v := ?_) (a' := ?_) HT_.out rfl rfl (Or.inl ⟨by rfl, ?_⟩) ?_ ?_
     rotate_left
     ·intro w'
      go_simp
      with_reducible rfl
     rotate_left
     ·simp only [sp_]
      rfl
     refine one_ (i := 7) (N := none) #[true, true, true, true, true, true, true, true] rfl rfl (one_of HT_.out (by kernel_rfl)) (by decide) (fun K hK => ?_)
     have hs12 : w11.cell? ⟨gb155, 0, none⟩ = some (.int .i64 0) := (blk_cell BK155.out 0).trans rfl
     have hfs12 := kF_ BK155.out 0
     have hs13 : w11.cell? ⟨gb155, 1, none⟩ = some (.int .i64 0) := (blk_cell BK155.out 1).trans rfl
     have hfs13 := kF_ BK155.out 1
     refine skip_ (w1 := ?_) (by rfl) rfl ?_ ?_
     rotate_left
     ·go_simp
      rfl
     refine hK.out _ _ trivial (fun hHeld => ?_)
     clear hK K
     refine done_ (done_of HT_.out (by kernel_rfl)) ?_
     try go_wp2
     refine bodyPost_ret (results_cell_row rfl _ _ gb155 26 #[.int .i64 (wrap64 (Int.tdiv x0_2 x5_2)), .int .i64 (wrap64 (Int.tdiv x1_2 x5_2))] (0, 0) _ rfl (by (with_reducible repeat (first | apply kN_ | apply kD_ | apply kA_)); refine blk_put (cs := #[.int .i64 (wrap64 (Int.tdiv x0_2 x5_2)), .int .i64 0]) ?_ 1 _ rfl; (with_reducible repeat (first | apply kN_ | apply kD_ | apply kA_)); refine blk_put (cs := #[.int .i64 0, .int .i64 0]) ?_ 0 _ rfl; (with_reducible repeat (first | apply kN_ | apply kD_ | apply kA_)); exact BK155.out) Try.underlying26 rfl (by kernel_rfl)) rfl ?_
     exact ⟨by first | rfl | (simp [errW_none, errW_some] <;> rfl) | (simp [*, errW_none, errW_some] <;> rfl), by repeat (first | (with_reducible first | exact HB.out | apply bA_ | apply bN_ | apply bD_ | refine bS_ ?_ GE155.out) | exact HB.out)⟩
end Go.Proofs.Ytmechelmnpoddaa.A7
namespace Go.Proofs.Ytmechelmnpoddaa.A7
open Go.RowKit YtmechelmnpoddaaW.PrintWords YtmechelmnpoddaaW.PrintLast YtmechelmnpoddaaW.PrintMore
attribute [local go_sem] max2_int min2_int max_two min_two max_three min_three max_four min_four
def impl_gcd.l0 : Nat → Int → Int → Option (Int)
 | 0, _, _ => none
 | k + 1, x0, x1 => if x1 = 0 then (some x0) else (impl_gcd.l0 k x1 (Int.tmod x0 x1))
def impl_gcd.f (k : Nat) (a0 : Int) (a1 : Int) : Option (Int) := impl_gcd.l0 k (mx a0 (wrap64 (-a0))) (mx a1 (wrap64 (-a1)))
theorem impl_gcd.mono_l : ∀ k, (∀ y0 y1, LeO (impl_gcd.l0 k y0 y1) (impl_gcd.l0 (k + 1) y0 y1))
 | 0 => fun _ _ r h => by simp [impl_gcd.l0] at h
 | k + 1 => by
  have ih0 := impl_gcd.mono_l k
  ·intro y0 y1
   unfold impl_gcd.l0
   repeat' first
   | (with_reducible exact ih0 _ _)
   | (with_reducible exact LeO.refl _)
   | (with_reducible exact LeO.none _)
   | (with_reducible refine LeO.ite ?_ ?_)
   | (with_reducible refine LeO.bind ?_ (fun _ => ?_))
   | exact ih0 _ _
   | exact LeO.none _
   | refine LeO.ite ?_ ?_
   | refine LeO.bind ?_ (fun _ => ?_)
theorem impl_gcd.mono : ∀ a0 a1 k, LeO (impl_gcd.f k a0 a1) (impl_gcd.f (k + 1) a0 a1) := by
 intro a0 a1 k
 have ih0 := impl_gcd.mono_l k
 unfold impl_gcd.f
 repeat' first
   | (with_reducible exact ih0 _ _)
   | (with_reducible exact LeO.refl _)
   | (with_reducible exact LeO.none _)
   | (with_reducible refine LeO.ite ?_ ?_)
   | (with_reducible refine LeO.bind ?_ (fun _ => ?_))
   | exact ih0 _ _
   | exact LeO.none _
   | refine LeO.ite ?_ ?_
   | refine LeO.bind ?_ (fun _ => ?_)
set_option maxHeartbeats 8000000 in
set_option maxRecDepth 100000 in
theorem impl_gcd.calls (k : Nat) (a0 : Int) (a1 : Int) (r : Int) (w : World) (h : impl_gcd.f k a0 a1 = some r) :
  Calls Try.prog 88 #[.int .i64 a0, .int .i64 a1] w fun e w' => e = .returned (.int .i64 r) ∧ Below w.heap.size w w' := by
 have HB := Aside0.mk (Below.refl w.heap.size w)
 have H : (impl_gcd.l0 k (mx a0 (wrap64 (-a0))) (mx a1 (wrap64 (-a1)))) = some r := h
 clear h
 obtain ⟨ji3, hji3⟩ : ∃ j_ : Int, (mx a0 (wrap64 (-a0))) = j_ := ⟨_, rfl⟩
 replace H : (impl_gcd.l0 k ji3 (mx a1 (wrap64 (-a1)))) = some r := by first | (rw [hji3] at H; exact H) | (simp only [hji3] at H ⊢; exact H)
 have hji3_ : (if a0 < (wrap64 (-a0)) then (wrap64 (-a0)) else a0) = ji3 := hji3
 obtain ⟨ji4, hji4⟩ : ∃ j_ : Int, (mx a1 (wrap64 (-a1))) = j_ := ⟨_, rfl⟩
 replace H : (impl_gcd.l0 k ji3 ji4) = some r := by first | (rw [hji4] at H; exact H) | (simp only [hji4] at H ⊢; exact H)
 have hji4_ : (if a1 < (wrap64 (-a1)) then (wrap64 (-a1)) else a1) = ji4 := hji4
 have H' := Aside0.mk H
 clear H
 go_enter Try.func88, Try.ntmps88
 go_wp2
 repeat (go_quiet (fail); try go_wp2)
 go_loopg [0, 1] k (fun kq v0 v1 w' => ∃ (x0_1 : Int) (x1_1 : Int), v0 = .int .i64 x0_1 ∧ v1 = .int .i64 x1_1 ∧ Aside0 (impl_gcd.l0 kq x0_1 x1_1 = some r) ∧ Aside0 (kq ≤ k) ∧ Aside0 (Below w.heap.size w w'))
 case atStart => exact ⟨(ji3), (ji4), (by first | rfl | (simp; done) | (simp only [← hji3] <;> (first | rfl | simp)) | (simp [*]; done)), (by first | rfl | (simp; done) | (simp only [← hji4] <;> (first | rfl | simp)) | (simp [*]; done)), H', ⟨Nat.le_refl _⟩, ⟨by repeat (first | (with_reducible first | exact HB.out | apply bA_ | apply bN_ | apply bD_) | exact HB.out)⟩⟩
 case round =>
  clear H'
  try clear p2
  obtain ⟨x0_1, x1_1, rfl, rfl, HA, HK1, HB⟩ := hrel
  cases gk with
  | zero => exact absurd HA.out (by simp [impl_gcd.l0])
  | succ k1 =>
   have H := HA.out
   clear HA
   simp only [impl_gcd.l0] at H
   by_cases c5 : x1_1 = 0
   ·rw [if_pos c5] at H
    have c5b0 : (x1_1 == 0) = true := beq_iff_eq.mpr c5
    have c5b1 : (x1_1 != 0) = false := bne_eq_false_iff_eq.mpr c5
    clear c5
    obtain rfl := Option.some.inj H
    go_wp2
    repeat (go_quiet (fail); try go_wp2)
    go_ret
    exact ⟨by first | rfl | (simp [errW_none, errW_some] <;> rfl) | (simp only [← hji3, ← hji4]; first | rfl | (simp [errW_none, errW_some] <;> rfl)) | (simp [*, errW_none, errW_some] <;> rfl), by repeat (first | (with_reducible first | exact HB.out | apply bA_ | apply bN_ | apply bD_) | exact HB.out)⟩
   rw [if_neg c5] at H
   have c5b0 : (x1_1 == 0) = false := beq_eq_false_iff_ne.mpr c5
   have c5b1 : (x1_1 != 0) = true := bne_iff_ne.mpr c5
   have H' := Aside0.mk H
   clear H
   go_wp2
   repeat (go_quiet (fail); try go_wp2)
   go_roundg k1
   case measure => have := HK1.out; omega
   case rel => exact ⟨(x1_1), (Int.tmod x0_1 x1_1), (by first | rfl | (simp; done) | (simp [*]; done)), (by first | rfl | (simp; done) | (simp [*]; done)), H', ⟨by have := HK1.out; omega⟩, ⟨by repeat (first | (with_reducible first | exact HB.out | apply bA_ | apply bN_ | apply bD_) | exact HB.out)⟩⟩
def impl_ratio.f (k : Nat) (a0 : Int) (a1 : Int) : Option (Int × Int) := (impl_gcd.f k a0 a1).bind fun t162 => (if a1 < 0 then (if (wrap64 (-t162)) = 0 then (none) else (some (wrap64 (Int.tdiv a0 (wrap64 (-t162))), wrap64 (Int.tdiv a1 (wrap64 (-t162)))))) else (if t162 = 0 then (none) else (some (wrap64 (Int.tdiv a0 t162), wrap64 (Int.tdiv a1 t162)))))
theorem impl_ratio.mono : ∀ a0 a1 k, LeO (impl_ratio.f k a0 a1) (impl_ratio.f (k + 1) a0 a1) := by
 intro a0 a1 k
 unfold impl_ratio.f
 repeat' first
   | (with_reducible exact impl_gcd.mono _ _ _)
   | (with_reducible exact LeO.refl _)
   | (with_reducible exact LeO.none _)
   | (with_reducible refine LeO.ite ?_ ?_)
   | (with_reducible refine LeO.bind ?_ (fun _ => ?_))
   | exact impl_gcd.mono _ _ _
   | exact LeO.none _
   | refine LeO.ite ?_ ?_
   | refine LeO.bind ?_ (fun _ => ?_)
def impl_ratio.T4 : Bool × List (List Nat × List Nat) := (true, [([], []), ([], []), ([0, 1], [0, 1]), ([], []), ([], []), ([3, 4], [3, 4]), ([2, 5], [2, 5]), ([6, 0, 1, 2, 3, 4, 5, 6], [6])])
def impl_ratio.B4 : List Nat := [0, 0, 3, 0, 0, 24, 63, 127]
theorem impl_ratio.tab4 : rtab .any (opsOf Try.f77 4) = impl_ratio.T4 := by kernel_rfl
theorem impl_ratio.bits4 : waitsOk impl_ratio.T4.2 impl_ratio.B4 = true := by kernel_rfl
set_option maxHeartbeats 8000000 in
set_option maxRecDepth 100000 in
theorem impl_ratio.calls (k : Nat) (a0 : Int) (a1 : Int) (r1 : Int) (r2 : Int) (w : World) (h : impl_ratio.f k a0 a1 = some (r1, r2)) :
  Calls Try.prog 77 #[.int .i64 a0, .int .i64 a1] w fun e w' => e = .returned (.agg #[.int .i64 r1, .int .i64 r2]) ∧ Below w.heap.size w w' := by
 have hu26 := Try.underlying26
 have HB := Aside0.mk (Below.refl w.heap.size w)
 have H : ((impl_gcd.f k a0 a1).bind fun t162 => (if a1 < 0 then (if (wrap64 (-t162)) = 0 then (none) else (some (wrap64 (Int.tdiv a0 (wrap64 (-t162))), wrap64 (Int.tdiv a1 (wrap64 (-t162)))))) else (if t162 = 0 then (none) else (some (wrap64 (Int.tdiv a0 t162), wrap64 (Int.tdiv a1 t162)))))) = some (r1, r2) := h
 clear h
 replace H := Option.bind_eq_some_iff.mp H
 obtain ⟨t162, A30, H⟩ := H
 replace H : (if a1 < 0 then (if (wrap64 (-t162)) = 0 then (none) else (some (wrap64 (Int.tdiv a0 (wrap64 (-t162))), wrap64 (Int.tdiv a1 (wrap64 (-t162)))))) else (if t162 = 0 then (none) else (some (wrap64 (Int.tdiv a0 t162), wrap64 (Int.tdiv a1 t162))))) = some (r1, r2) := H
 have A3 := Aside0.mk A30
 clear A30
 by_cases c4 : a1 < 0
 ·rw [if_pos c4] at H
  have c4b0 : decide (a1 < 0) = true := decide_eq_true c4
  clear c4
  by_cases c5 : (wrap64 (-t162)) = 0
  ·rw [if_pos c5] at H
   exact absurd H (by simp)
  rw [if_neg c5] at H
  have c5b0 : ((wrap64 (-t162)) == 0) = false := beq_eq_false_iff_ne.mpr c5
  have c5b1 : ((wrap64 (-t162)) != 0) = true := bne_iff_ne.mpr c5
  simp only [Option.some.injEq, Prod.mk.injEq] at H
  obtain ⟨rfl, rfl⟩ := H
  go_enter Try.func77, Try.ntmps77
  try go_wp2_with (first | ((with_reducible refine gate_dst (N := 4) rfl ?_); refine box_event ?hg (N := 4) ?hd (cs := #[.int .i64 0, .int .i64 0]) (t := 26) ?hr ?_; (case hd => rfl); (case hg => rfl); (case hr => first | (go_simp; done) | (go_simp; rfl)); intro gb161 hg w6 hbox hb; have n0_ := Aside0.mk (bP_ (by repeat (first | (with_reducible first | exact HB.out | apply bA_ | apply bN_ | apply bD_) | exact HB.out)) hb); have n1_ := Aside0.mk (hbox); have n2_ := Aside0.mk ((by rw [hg]; exact (bZ_ (by repeat (first | (with_reducible first | exact HB.out | apply bA_ | apply bN_ | apply bD_) | exact HB.out))) : w.heap.size ≤ gb161)); have n3_ := Aside0.mk ((by rw [hg]; exact (bZ_ (by repeat (first | (with_reducible first | exact HB.out | apply bA_ | apply bN_ | apply bD_) | exact HB.out))) : w.heap.size ≤ gb161)); clear HB; have HB := n0_; have BK161 := n1_; have GW161 := n2_; have GE161 := n3_; clear n0_ n1_ n2_ n3_; clear hb hbox hg) | ((with_reducible refine gate_callee (f := 88) rfl ?_); refine goesL_ (some 8) rfl rfl Try.func88 (by kernel_rfl) rfl #[.int .i64 a0, .int .i64 a1] rfl (by (try simp only [List.map_toArray, List.map_cons, List.map_nil]); first | done | rfl | (simp only [List.length_drop, List.length_take]; rfl)) ?_; (with_reducible refine (impl_gcd.calls k a0 a1 t162 _ A3.out).mono ?_); rintro e w7 ⟨rfl, hb⟩; refine ⟨_, rfl, ?_⟩; have n0_ := Aside0.mk (blk_below (g := gb161) (o := .cells #[.int .i64 0, .int .i64 0] 26 (0, 0)) (by (with_reducible repeat (first | apply kN_ | apply kD_ | apply kA_)); exact BK161.out) hb); have n1_ := Aside0.mk (bP_ (by repeat (first | (with_reducible first | exact HB.out | apply bA_ | apply bN_ | apply bD_ | refine bS_ ?_ GE161.out) | exact HB.out)) hb); clear BK161; clear HB; have BK161 := n0_; have HB := n1_; clear n0_ n1_; (try clear hb); (try clear hb2); (try clear hk); (try clear hi)))
  have n0_ := Aside0.mk (kD_ BK161.out)
  have n1_ := Aside0.mk (bD_ HB.out)
  clear BK161
  clear HB
  have BK161 := n0_
  have HB := n1_
  clear n0_ n1_
  refine start_ (n := 8) (S := fun w' => True) (ds := []) #[false, false, false, false, false, false, false, false] (by kernel_rfl) rfl rfl trivial (fun hHeld => ?_); refine with_tabW impl_ratio.tab4 impl_ratio.bits4 (fun HT_ HW_ => ?_)
  generalize w7.drew = w8 at BK161 HB hHeld ⊢
  refine pu_ (i := 0) (N := some 13) (v := ?_) (a' := ?_) HT_.out rfl rfl (Or.inl ⟨by rfl, ?_⟩) ?_ ?_
  rotate_left
  ·intro w'
   go_simp
   with_reducible rfl
  rotate_left
  ·simp only [sp_]
   rfl
  refine pu_ (i := 1) (N := some 14) (v := ?_) (a' := ?_) HT_.out rfl rfl (Or.inl ⟨by rfl, ?_⟩) ?_ ?_
  rotate_left
  ·intro w'
   go_simp
   with_reducible rfl
  rotate_left
  ·simp only [sp_]
   rfl
  refine pu_ (i := 2) (N := some 15) (v := ?_) (a' := ?_) HT_.out rfl rfl (Or.inl ⟨by rfl, ?_⟩) ?_ ?_
  rotate_left
  ·intro w'
   go_simp
   with_reducible rfl
  rotate_left
  ·simp only [sp_]
   rfl
  refine pu_ (i := 3) (N := some 16) (v := ?_) (a' := ?_) HT_.out rfl rfl (Or.inl ⟨by rfl, ?_⟩) ?_ ?_
  rotate_left
  ·intro w'
   go_simp
   with_reducible rfl
  rotate_left
  ·simp only [sp_]
   rfl
  refine pu_ (i := 4) (N := some 17) (v := ?_) (a' := ?_) HT_.out rfl rfl (Or.inl ⟨by rfl, ?_⟩) ?_ ?_
  rotate_left
  ·intro w'
   go_simp
   with_reducible rfl
  rotate_left
  ·simp only [sp_]
   rfl
  refine pu_ (i := 5) (N := some 18) (v := ?_) (a' := ?_) HT_.out rfl rfl (Or.inl ⟨by rfl, ?_⟩) ?_ ?_
  rotate_left
  ·intro w'
   go_simp
   with_reducible rfl
  rotate_left
  ·simp only [sp_]
   rfl
  refine pu_ (i := 6) (N := some 19) (v := ?_) (a' := ?_) HT_.out rfl rfl (Or.inl ⟨by rfl, ?_⟩) ?_ ?_
  rotate_left
  ·intro w'
   go_simp
   with_reducible rfl
  rotate_left
  ·simp only [sp_]
   rfl
  refine one_ (i := 7) (N := none) #[true, true, true, true, true, true, true, true] rfl rfl (one_of HT_.out (by kernel_rfl)) (by decide) (fun K hK => ?_)
  have hs9 : w8.cell? ⟨gb161, 0, none⟩ = some (.int .i64 0) := (blk_cell BK161.out 0).trans rfl
  have hfs9 := kF_ BK161.out 0
  have hs10 : w8.cell? ⟨gb161, 1, none⟩ = some (.int .i64 0) := (blk_cell BK161.out 1).trans rfl
  have hfs10 := kF_ BK161.out 1
  refine skip_ (w1 := ?_) (by rfl) rfl ?_ ?_
  rotate_left
  ·go_simp
   rfl
  refine hK.out _ _ trivial (fun hHeld => ?_)
  clear hK K
  refine done_ (done_of HT_.out (by kernel_rfl)) ?_
  try go_wp2
  refine bodyPost_ret (results_cell_row rfl _ _ gb161 26 #[.int .i64 (wrap64 (Int.tdiv a0 (wrap64 (-t162)))), .int .i64 (wrap64 (Int.tdiv a1 (wrap64 (-t162))))] (0, 0) _ rfl (by (with_reducible repeat (first | apply kN_ | apply kD_ | apply kA_)); refine blk_put (cs := #[.int .i64 (wrap64 (Int.tdiv a0 (wrap64 (-t162)))), .int .i64 0]) ?_ 1 _ rfl; (with_reducible repeat (first | apply kN_ | apply kD_ | apply kA_)); refine blk_put (cs := #[.int .i64 0, .int .i64 0]) ?_ 0 _ rfl; (with_reducible repeat (first | apply kN_ | apply kD_ | apply kA_)); exact BK161.out) Try.underlying26 rfl (by kernel_rfl)) rfl ?_
  exact ⟨by first | rfl | (simp [errW_none, errW_some] <;> rfl) | (simp [*, errW_none, errW_some] <;> rfl), by repeat (first | (with_reducible first | exact HB.out | apply bA_ | apply bN_ | apply bD_ | refine bS_ ?_ GE161.out) | exact HB.out)⟩
 rw [if_neg c4] at H
 have c4b0 : decide (a1 < 0) = false := decide_eq_false c4
 clear c4
 by_cases c11 : t162 = 0
 ·rw [if_pos c11] at H
  exact absurd H (by simp)
 rw [if_neg c11] at H
 have c11b0 : (t162 == 0) = false := beq_eq_false_iff_ne.mpr c11
 have c11b1 : (t162 != 0) = true := bne_iff_ne.mpr c11
 simp only [Option.some.injEq, Prod.mk.injEq] at H
 obtain ⟨rfl, rfl⟩ := H
 go_enter Try.func77, Try.ntmps77
 try go_wp2_with (first | ((with_reducible refine gate_dst (N := 4) rfl ?_); refine box_event ?hg (N := 4) ?hd (cs := #[.int .i64 0, .int .i64 0]) (t := 26) ?hr ?_; (case hd => rfl); (case hg => rfl); (case hr => first | (go_simp; done) | (go_simp; rfl)); intro gb161 hg w12 hbox hb; have n0_ := Aside0.mk (bP_ (by repeat (first | (with_reducible first | exact HB.out | apply bA_ | apply bN_ | apply bD_) | exact HB.out)) hb); have n1_ := Aside0.mk (hbox); have n2_ := Aside0.mk ((by rw [hg]; exact (bZ_ (by repeat (first | (with_reducible first | exact HB.out | apply bA_ | apply bN_ | apply bD_) | exact HB.out))) : w.heap.size ≤ gb161)); have n3_ := Aside0.mk ((by rw [hg]; exact (bZ_ (by repeat (first | (with_reducible first | exact HB.out | apply bA_ | apply bN_ | apply bD_) | exact HB.out))) : w.heap.size ≤ gb161)); clear HB; have HB := n0_; have BK161 := n1_; have GW161 := n2_; have GE161 := n3_; clear n0_ n1_ n2_ n3_; clear hb hbox hg) | ((with_reducible refine gate_callee (f := 88) rfl ?_); refine goesL_ (some 8) rfl rfl Try.func88 (by kernel_rfl) rfl #[.int .i64 a0, .int .i64 a1] rfl (by (try simp only [List.map_toArray, List.map_cons, List.map_nil]); first | done | rfl | (simp only [List.length_drop, List.length_take]; rfl)) ?_; (with_reducible refine (impl_gcd.calls k a0 a1 t162 _ A3.out).mono ?_); rintro e w13 ⟨rfl, hb⟩; refine ⟨_, rfl, ?_⟩; have n0_ := Aside0.mk (blk_below (g := gb161) (o := .cells #[.int .i64 0, .int .i64 0] 26 (0, 0)) (by (with_reducible repeat (first | apply kN_ | apply kD_ | apply kA_)); exact BK161.out) hb); have n1_ := Aside0.mk (bP_ (by repeat (first | (with_reducible first | exact HB.out | apply bA_ | apply bN_ | apply bD_ | refine bS_ ?_ GE161.out) | exact HB.out)) hb); clear BK161; clear HB; have BK161 := n0_; have HB := n1_; clear n0_ n1_; (try clear hb); (try clear hb2); (try clear hk); (try clear hi)))
 have n0_ := Aside0.mk (kD_ BK161.out)
 have n1_ := Aside0.mk (bD_ HB.out)
 clear BK161
 clear HB
 have BK161 := n0_
 have HB := n1_
 clear n0_ n1_
 refine start_ (n := 8) (S := fun w' => True) (ds := []) #[false, false, false, false, false, false, false, false] (by kernel_rfl) rfl rfl trivial (fun hHeld => ?_); refine with_tabW impl_ratio.tab4 impl_ratio.bits4 (fun HT_ HW_ => ?_)
 generalize w13.drew = w14 at BK161 HB hHeld ⊢
 refine pu_ (i := 0) (N := some 13) (v := ?_) (a' := ?_) HT_.out rfl rfl (Or.inl ⟨by rfl, ?_⟩) ?_ ?_
 rotate_left
 ·intro w'
  go_simp
  with_reducible rfl
 rotate_left
 ·simp only [sp_]
  rfl
 refine pu_ (i := 1) (N := some 14) (v := ?_) (a' := ?_) HT_.out rfl rfl (Or.inl ⟨by rfl, ?_⟩) ?_ ?_
 rotate_left
 ·intro w'
  go_simp
  with_reducible rfl
 rotate_left
 ·simp only [sp_]
  rfl
 refine pu_ (i := 2) (N := some 15) (v := ?_) (a' := ?_) HT_.out rfl rfl (Or.inl ⟨by rfl, ?_⟩) ?_ ?_
 rotate_left
 ·intro w'
  go_simp
  with_reducible rfl
 rotate_left
 ·simp only [sp_]
  rfl
 refine pu_ (i := 3) (N := some 16) (v := ?_) (a' := ?_) HT_.out rfl rfl (Or.inl ⟨by rfl, ?_⟩) ?_ ?_
 rotate_left
 ·intro w'
  go_simp
  with_reducible rfl
 rotate_left
 ·simp only [sp_]
  rfl
 refine pu_ (i := 4) (N := some 17) (v := ?_) (a' := ?_) HT_.out rfl rfl (Or.inl ⟨by rfl, ?_⟩) ?_ ?_
 rotate_left
 ·intro w'
  go_simp
  with_reducible rfl
 rotate_left
 ·simp only [sp_]
  rfl
 refine pu_ (i := 5) (N := some 18) (v := ?_) (a' := ?_) HT_.out rfl rfl (Or.inl ⟨by rfl, ?_⟩) ?_ ?_
 rotate_left
 ·intro w'
  go_simp
  with_reducible rfl
 rotate_left
 ·simp only [sp_]
  rfl
 refine pu_ (i := 6) (N := some 19) (v := ?_) (a' := ?_) HT_.out rfl rfl (Or.inl ⟨by rfl, ?_⟩) ?_ ?_
 rotate_left
 ·intro w'
  go_simp
  with_reducible rfl
 rotate_left
 ·simp only [sp_]
  rfl
 refine one_ (i := 7) (N := none) #[true, true, true, true, true, true, true, true] rfl rfl (one_of HT_.out (by kernel_rfl)) (by decide) (fun K hK => ?_)
 have hs15 : w14.cell? ⟨gb161, 0, none⟩ = some (.int .i64 0) := (blk_cell BK161.out 0).trans rfl
 have hfs15 := kF_ BK161.out 0
 have hs16 : w14.cell? ⟨gb161, 1, none⟩ = some (.int .i64 0) := (blk_cell BK161.out 1).trans rfl
 have hfs16 := kF_ BK161.out 1
 refine skip_ (w1 := ?_) (by rfl) rfl ?_ ?_
 rotate_left
 ·go_simp
  rfl
 refine hK.out _ _ trivial (fun hHeld => ?_)
 clear hK K
 refine done_ (done_of HT_.out (by kernel_rfl)) ?_
 try go_wp2
 refine bodyPost_ret (results_cell_row rfl _ _ gb161 26 #[.int .i64 (wrap64 (Int.tdiv a0 t162)), .int .i64 (wrap64 (Int.tdiv a1 t162))] (0, 0) _ rfl (by (with_reducible repeat (first | apply kN_ | apply kD_ | apply kA_)); refine blk_put (cs := #[.int .i64 (wrap64 (Int.tdiv a0 t162)), .int .i64 0]) ?_ 1 _ rfl; (with_reducible repeat (first | apply kN_ | apply kD_ | apply kA_)); refine blk_put (cs := #[.int .i64 0, .int .i64 0]) ?_ 0 _ rfl; (with_reducible repeat (first | apply kN_ | apply kD_ | apply kA_)); exact BK161.out) Try.underlying26 rfl (by kernel_rfl)) rfl ?_
 exact ⟨by first | rfl | (simp [errW_none, errW_some] <;> rfl) | (simp [*, errW_none, errW_some] <;> rfl), by repeat (first | (with_reducible first | exact HB.out | apply bA_ | apply bN_ | apply bD_ | refine bS_ ?_ GE161.out) | exact HB.out)⟩
def impl_escapeChance.f (k : Nat) (a0 : Int) (a1 : Int) : Option (Int × Int) := (impl_power.f k a0 a1).bind fun t164 => ((impl_power.f k a0 (wrap64 (a1 + 1))).bind fun t165 => ((impl_ratio.f k (wrap64 ((wrap64 (a0 - 1)) * t164)) (wrap64 (t165 - 1))).bind fun bt166 => (some (bt166.1, bt166.2))))
theorem impl_escapeChance.mono : ∀ a0 a1 k, LeO (impl_escapeChance.f k a0 a1) (impl_escapeChance.f (k + 1) a0 a1) := by
 intro a0 a1 k
 unfold impl_escapeChance.f
 repeat' first
   | (with_reducible exact impl_power.mono _ _ _)
   | (with_reducible exact impl_ratio.mono _ _ _)
   | (with_reducible exact LeO.refl _)
   | (with_reducible exact LeO.none _)
   | (with_reducible refine LeO.ite ?_ ?_)
   | (with_reducible refine LeO.bind ?_ (fun _ => ?_))
   | exact impl_power.mono _ _ _
   | exact impl_ratio.mono _ _ _
   | exact LeO.none _
   | refine LeO.ite ?_ ?_
   | refine LeO.bind ?_ (fun _ => ?_)
set_option maxHeartbeats 8000000 in
set_option maxRecDepth 100000 in
theorem impl_escapeChance.calls (k : Nat) (a0 : Int) (a1 : Int) (r1 : Int) (r2 : Int) (w : World) (h : impl_escapeChance.f k a0 a1 = some (r1, r2)) :
  Calls Try.prog 60 #[.int .i64 a0, .int .i64 a1] w fun e w' => e = .returned (.agg #[.int .i64 r1, .int .i64 r2]) ∧ Below w.heap.size w w' := by
 have hu26 := Try.underlying26
 have HB := Aside0.mk (Below.refl w.heap.size w)
 have H : ((impl_power.f k a0 a1).bind fun t164 => ((impl_power.f k a0 (wrap64 (a1 + 1))).bind fun t165 => ((impl_ratio.f k (wrap64 ((wrap64 (a0 - 1)) * t164)) (wrap64 (t165 - 1))).bind fun bt166 => (some (bt166.1, bt166.2))))) = some (r1, r2) := h
 clear h
 replace H := Option.bind_eq_some_iff.mp H
 obtain ⟨t164, A30, H⟩ := H
 replace H : ((impl_power.f k a0 (wrap64 (a1 + 1))).bind fun t165 => ((impl_ratio.f k (wrap64 ((wrap64 (a0 - 1)) * t164)) (wrap64 (t165 - 1))).bind fun bt166 => (some (bt166.1, bt166.2)))) = some (r1, r2) := H
 have A3 := Aside0.mk A30
 clear A30
 replace H := Option.bind_eq_some_iff.mp H
 obtain ⟨t165, A40, H⟩ := H
 replace H : ((impl_ratio.f k (wrap64 ((wrap64 (a0 - 1)) * t164)) (wrap64 (t165 - 1))).bind fun bt166 => (some (bt166.1, bt166.2))) = some (r1, r2) := H
 have A4 := Aside0.mk A40
 clear A40
 replace H := Option.bind_eq_some_iff.mp H
 obtain ⟨⟨t166, t167⟩, A50, H⟩ := H
 replace H : (some (t166, t167)) = some (r1, r2) := H
 have A5 := Aside0.mk A50
 clear A50
 simp only [Option.some.injEq, Prod.mk.injEq] at H
 obtain ⟨rfl, rfl⟩ := H
 go_enter Try.func60, Try.ntmps60
 go_wp2_with (first | ((with_reducible refine gate_dst (N := 4) rfl ?_); refine box_event ?hg (N := 4) ?hd (cs := #[.int .i64 0, .int .i64 0]) (t := 26) ?hr ?_; (case hd => rfl); (case hg => rfl); (case hr => first | (go_simp; done) | (go_simp; rfl)); intro gb163 hg w6 hbox hb; have n0_ := Aside0.mk (bP_ (by repeat (first | (with_reducible first | exact HB.out | apply bA_ | apply bN_ | apply bD_) | exact HB.out)) hb); have n1_ := Aside0.mk (hbox); have n2_ := Aside0.mk ((by rw [hg]; exact (bZ_ (by repeat (first | (with_reducible first | exact HB.out | apply bA_ | apply bN_ | apply bD_) | exact HB.out))) : w.heap.size ≤ gb163)); have n3_ := Aside0.mk ((by rw [hg]; exact (bZ_ (by repeat (first | (with_reducible first | exact HB.out | apply bA_ | apply bN_ | apply bD_) | exact HB.out))) : w.heap.size ≤ gb163)); clear HB; have HB := n0_; have BK163 := n1_; have GW163 := n2_; have GE163 := n3_; clear n0_ n1_ n2_ n3_; clear hb hbox hg) | ((with_reducible refine gate_callee (f := 75) rfl ?_); refine goesL_ (some 9) rfl rfl Try.func75 (by kernel_rfl) rfl #[.int .i64 a0, .int .i64 a1] rfl (by (try simp only [List.map_toArray, List.map_cons, List.map_nil]); first | done | rfl | (simp only [List.length_drop, List.length_take]; rfl)) ?_; (with_reducible refine (impl_power.calls k a0 a1 t164 _ A3.out).mono ?_); rintro e w' ⟨rfl, ⟨nd, rfl⟩⟩; refine ⟨_, rfl, ?_⟩; (try (rw [drewN_self w6]; generalize hq_ : World.drewN w6 _ = w6; have n0_ : Aside0 (w6.heap[gb163]? = some (.cells #[.int .i64 0, .int .i64 0] 26 (0, 0))) := ⟨by rw [← hq_]; exact (by (with_reducible repeat (first | apply kN_ | apply kD_ | apply kA_)); exact BK163.out)⟩; have n1_ : Aside0 (Below w.heap.size w w6) := ⟨by rw [← hq_]; exact (by repeat (first | (with_reducible first | exact HB.out | apply bA_ | apply bN_ | apply bD_ | refine bS_ ?_ GE163.out) | exact HB.out))⟩; clear BK163 HB hq_; have BK163 := n0_; have HB := n1_; clear n0_ n1_))) | ((with_reducible refine gate_callee (f := 75) rfl ?_); refine goesL_ (some 14) rfl rfl Try.func75 (by kernel_rfl) rfl #[.int .i64 a0, .int .i64 (wrap64 (a1 + 1))] rfl (by (try simp only [List.map_toArray, List.map_cons, List.map_nil]); first | done | rfl | (simp only [List.length_drop, List.length_take]; rfl)) ?_; (with_reducible refine (impl_power.calls k a0 (wrap64 (a1 + 1)) t165 _ A4.out).mono ?_); rintro e w' ⟨rfl, ⟨nd, rfl⟩⟩; refine ⟨_, rfl, ?_⟩; (try (rw [drewN_self w6]; generalize hq_ : World.drewN w6 _ = w6; have n0_ : Aside0 (w6.heap[gb163]? = some (.cells #[.int .i64 0, .int .i64 0] 26 (0, 0))) := ⟨by rw [← hq_]; exact (by (with_reducible repeat (first | apply kN_ | apply kD_ | apply kA_)); exact BK163.out)⟩; have n1_ : Aside0 (Below w.heap.size w w6) := ⟨by rw [← hq_]; exact (by repeat (first | (with_reducible first | exact HB.out | apply bA_ | apply bN_ | apply bD_ | refine bS_ ?_ GE163.out) | exact HB.out))⟩; clear BK163 HB hq_; have BK163 := n0_; have HB := n1_; clear n0_ n1_))) | ((with_reducible refine gate_callee (f := 77) rfl ?_); refine goesL_ (some 16) rfl rfl Try.func77 (by kernel_rfl) rfl #[.int .i64 (wrap64 ((wrap64 (a0 - 1)) * t164)), .int .i64 (wrap64 (t165 - 1))] rfl (by (try simp only [List.map_toArray, List.map_cons, List.map_nil]); first | done | rfl | (simp only [List.length_drop, List.length_take]; rfl)) ?_; (with_reducible refine (impl_ratio.calls k (wrap64 ((wrap64 (a0 - 1)) * t164)) (wrap64 (t165 - 1)) t166 t167 _ A5.out).mono ?_); rintro e w7 ⟨rfl, hb⟩; refine ⟨_, rfl, ?_⟩; have n0_ := Aside0.mk (blk_below (g := gb163) (o := .cells #[.int .i64 0, .int .i64 0] 26 (0, 0)) (by (with_reducible repeat (first | apply kN_ | apply kD_ | apply kA_)); exact BK163.out) hb); have n1_ := Aside0.mk (bP_ (by repeat (first | (with_reducible first | exact HB.out | apply bA_ | apply bN_ | apply bD_ | refine bS_ ?_ GE163.out) | exact HB.out)) hb); clear BK163; clear HB; have BK163 := n0_; have HB := n1_; clear n0_ n1_; (try clear hb); (try clear hb2); (try clear hk); (try clear hi); have hcz8_0 : w7.cell? ⟨gb163, 0, none⟩ = some (.int .i64 0) := (blk_cell BK163.out 0).trans rfl; have hcz8_1 : w7.cell? ⟨gb163, 1, none⟩ = some (.int .i64 0) := (blk_cell BK163.out 1).trans rfl; have hfz8_0 := kF_ BK163.out 0; have hfz8_1 := kF_ BK163.out 1))
 refine bodyPost_ret (results_cell_row rfl _ _ gb163 26 #[.int .i64 t166, .int .i64 t167] (0, 0) _ rfl (by (with_reducible repeat (first | apply kN_ | apply kD_ | apply kA_)); refine blk_put (cs := #[.int .i64 t166, .int .i64 0]) ?_ 1 _ rfl; (with_reducible repeat (first | apply kN_ | apply kD_ | apply kA_)); refine blk_put (cs := #[.int .i64 0, .int .i64 0]) ?_ 0 _ rfl; (with_reducible repeat (first | apply kN_ | apply kD_ | apply kA_)); exact BK163.out) Try.underlying26 rfl (by kernel_rfl)) rfl ?_
 exact ⟨by first | rfl | (simp [errW_none, errW_some] <;> rfl) | (simp [*, errW_none, errW_some] <;> rfl), by repeat (first | (with_reducible first | exact HB.out | apply bA_ | apply bN_ | apply bD_ | refine bS_ ?_ GE163.out) | exact HB.out)⟩
def impl_size.f (a0 : Int) : Option (Int) := some (mx a0 (wrap64 (-a0)))
set_option maxHeartbeats 8000000 in
set_option maxRecDepth 100000 in
theorem impl_size.calls (a0 : Int) (r : Int) (w : World) (h : impl_size.f a0 = some r) :
  Calls Try.prog 78 #[.int .i64 a0] w fun e w' => e = .returned (.int .i64 r) ∧ Below w.heap.size w w' := by
 have HB := Aside0.mk (Below.refl w.heap.size w)
 have H : (some (mx a0 (wrap64 (-a0)))) = some r := h
 clear h
 obtain ⟨ji2, hji2⟩ : ∃ j_ : Int, (mx a0 (wrap64 (-a0))) = j_ := ⟨_, rfl⟩
 replace H : (some ji2) = some r := by first | (rw [hji2] at H; exact H) | (simp only [hji2] at H ⊢; exact H)
 have hji2_ : (if a0 < (wrap64 (-a0)) then (wrap64 (-a0)) else a0) = ji2 := hji2
 obtain rfl := Option.some.inj H
 go_enter Try.func78, Try.ntmps78
 go_wp2
 go_ret
 exact ⟨by first | rfl | (simp [errW_none, errW_some] <;> rfl) | (simp only [← hji2]; first | rfl | (simp [errW_none, errW_some] <;> rfl)) | (simp [*, errW_none, errW_some] <;> rfl), by repeat (first | (with_reducible first | exact HB.out | apply bA_ | apply bN_ | apply bD_) | exact HB.out)⟩
end Go.Proofs.Ytmechelmnpoddaa.A7
namespace Go.Proofs.Ytmechelmnpoddaa.Es
def nth (l : List Nat) (i : Nat) : Nat := l.getD i 0
def run (b inner : Nat) : Nat → Nat → Nat → Nat → List Nat → List Nat → Option (Bool × Nat × List Nat × List Nat)
 | 0, _, _, _, _, _ => none
 | k + 1, at_, lv, st, rot, vis =>
  if at_ < inner then
   if st < 100000 ∧ nth rot at_ ≤ b then
    if 0 < (nth rot at_ + 1) % (b + 1) then
     if lv + 1 < vis.length ∧ nth vis (lv + 1) < 100000 then
      run b inner k (at_ * b + (nth rot at_ + 1) % (b + 1)) (lv + 1) (st + 1) (rot.set at_ ((nth rot at_ + 1) % (b + 1))) (vis.set (lv + 1) (nth vis (lv + 1) + 1))
     else none
    else if at_ = 0 then (if lv = 0 then some (false, st + 1, rot.set at_ ((nth rot at_ + 1) % (b + 1)), vis) else none)
    else if 0 < lv ∧ lv - 1 < vis.length ∧ nth vis (lv - 1) < 100000 then
     run b inner k ((at_ - 1) / b) (lv - 1) (st + 1) (rot.set at_ ((nth rot at_ + 1) % (b + 1))) (vis.set (lv - 1) (nth vis (lv - 1) + 1))
    else none
   else none
  else some (true, st, rot, vis)
def chip (b inner : Nat) (rot vis : List Nat) : Option (Bool × Nat × List Nat × List Nat) :=
 if 0 < vis.length ∧ nth vis 0 < 100000 then run b inner 5000 0 0 0 rot (vis.set 0 (nth vis 0 + 1)) else none
def endN (e : Bool) : Nat := if e then 1 else 0
structure St where
 rot : List Nat
 vis : List Nat
 ends : List Nat
 trips : List Nat
def chips (b inner : Nat) : Nat → St → Option St
 | 0, s => some s
 | n + 1, s => match chip b inner s.rot s.vis with
  | none => none
  | some (e, st, rot, vis) => chips b inner n ⟨rot, vis, s.ends ++ [endN e], s.trips ++ [st]⟩
def start (d inner k : Nat) : St := ⟨List.replicate inner k, List.replicate (d + 1) 0, [], []⟩
def inner (b d : Nat) : Nat := (b ^ d - 1) / (b - 1)
def trees : List (Nat × Nat) := [(2, 1), (2, 2), (2, 3), (2, 4), (2, 5), (2, 6), (3, 1), (3, 2), (3, 3), (3, 4)]
def fN {α : Type} (n : Nat) (f : Nat → α) : α := match n with | 0 => f 0 | m + 1 => f (m + 1)
theorem fN_eq {α : Type} (n : Nat) (f : Nat → α) : fN n f = f n := by cases n <;> rfl
def runP (b inner nv : Nat) : Nat → Nat → Nat → Nat → Nat → Nat → Option (Bool × Nat × Nat × Nat)
 | 0, _, _, _, _, _ => none
 | k + 1, at_, lv, st, R, V =>
  bif Nat.blt at_ inner then
   fN ((R >>> (2 * at_)) % 4) fun old =>
   bif (Nat.blt st 100000 && Nat.ble old b) then
    fN ((old + 1) % (b + 1)) fun r =>
    fN ((R + r <<< (2 * at_)) - old <<< (2 * at_)) fun R1 =>
    bif Nat.blt 0 r then
     fN ((V >>> (20 * (lv + 1))) % 1048576) fun ov =>
     bif (Nat.blt (lv + 1) nv && Nat.blt ov 100000) then
      fN (at_ * b + r) fun at1 => fN (st + 1) fun st1 => fN (lv + 1) fun lv1 => fN (V + 1 <<< (20 * lv1)) fun V1 => runP b inner nv k at1 lv1 st1 R1 V1
     else none
    else bif Nat.beq at_ 0 then (bif Nat.beq lv 0 then some (false, st + 1, R1, V) else none)
    else
     fN ((V >>> (20 * (lv - 1))) % 1048576) fun ov =>
     bif (Nat.blt 0 lv && Nat.blt (lv - 1) nv && Nat.blt ov 100000) then
     fN ((at_ - 1) / b) fun at1 => fN (st + 1) fun st1 => fN (lv - 1) fun lv1 => fN (V + 1 <<< (20 * lv1)) fun V1 => runP b inner nv k at1 lv1 st1 R1 V1
    else none
   else none
  else some (true, st, R, V)
def chipsP (b inner nv : Nat) : Nat → Nat → Nat → Bool
 | 0, _, _ => true
 | n + 1, R, V => bif (Nat.blt 0 nv && Nat.blt (V % 1048576) 100000) then match runP b inner nv 5000 0 0 0 R (V + 1) with
  | none => false
  | some (_, _, R1, V1) => chipsP b inner nv n R1 V1
  else false
def okP (b d k : Nat) : Bool := chipsP b (inner b d) (d + 1) 200 (k * ((4 ^ inner b d - 1) / 3)) 0
theorem all_okP : (trees.all fun p => (List.range (p.1 + 1)).all fun k => okP p.1 p.2 k) = true := by decide +kernel
def pk (B : Nat) : List Nat → Nat
 | [] => 0
 | x :: t => x + B * pk B t
theorem pk_get (B : Nat) (hB : 0 < B) : ∀ (l : List Nat) (i : Nat), (∀ x ∈ l, x < B) → pk B l / B ^ i % B = nth l i
 | [], i, _ => by simp [pk, nth]
 | x :: t, 0, h => by
  have hx : x < B := h x (by simp)
  simp [pk, nth, Nat.add_mul_mod_self_left, Nat.mod_eq_of_lt hx]
 | x :: t, i + 1, h => by
  have hx : x < B := h x (by simp)
  have ih := pk_get B hB t i (fun y hy => h y (by simp [hy]))
  have e : (x + B * pk B t) / B ^ (i + 1) = pk B t / B ^ i := by
   rw [Nat.pow_succ, Nat.mul_comm (B ^ i) B, ← Nat.div_div_eq_div_mul, Nat.add_mul_div_left _ _ hB, Nat.div_eq_of_lt hx, Nat.zero_add]
  simp only [pk]
  rw [e, ih]
  simp [nth]
theorem pk_set (B : Nat) : ∀ (l : List Nat) (i r : Nat), i < l.length → pk B (l.set i r) + nth l i * B ^ i = pk B l + r * B ^ i
 | [], i, r, h => by simp at h
 | x :: t, 0, r, _ => by simp [pk, nth]; omega
 | x :: t, i + 1, r, h => by
  have ih := pk_set B t i r (by simpa using h)
  simp only [List.set_cons_succ, pk]
  have e1 : nth (x :: t) (i + 1) = nth t i := by simp [nth]
  rw [e1]
  have hp : B ^ (i + 1) = B * B ^ i := by rw [Nat.pow_succ, Nat.mul_comm]
  have m1 : nth t i * (B * B ^ i) = B * (nth t i * B ^ i) := by rw [Nat.mul_left_comm]
  have m2 : r * (B * B ^ i) = B * (r * B ^ i) := by rw [Nat.mul_left_comm]
  rw [hp, m1, m2]
  have := congrArg (B * ·) ih
  simp only [Nat.mul_add] at this
  omega
theorem pk_set_eq (B : Nat) (l : List Nat) (i r : Nat) (h : i < l.length) : (pk B l + r * B ^ i) - nth l i * B ^ i = pk B (l.set i r) := by
 have := pk_set B l i r h
 omega
theorem pk_replicate4 (n k : Nat) : pk 4 (List.replicate n k) = k * ((4 ^ n - 1) / 3) := by
 have h3 : ∀ n, 3 * ((4 ^ n - 1) / 3) + 1 = 4 ^ n := by
  intro n
  induction n with
  | zero => rfl
  | succ n ih => rw [Nat.pow_succ]; omega
 induction n with
 | zero => simp [pk]
 | succ n ih =>
  rw [List.replicate_succ]
  simp only [pk]
  rw [ih]
  have a := h3 n
  have c := h3 (n + 1)
  have hp : 4 ^ (n + 1) = 4 * 4 ^ n := by rw [Nat.pow_succ, Nat.mul_comm]
  have e : (4 ^ (n + 1) - 1) / 3 = 1 + 4 * ((4 ^ n - 1) / 3) := by omega
  rw [e, Nat.mul_add, Nat.mul_one, Nat.mul_left_comm]
theorem pk_replicate0 (B n : Nat) : pk B (List.replicate n 0) = 0 := by
 induction n with
 | zero => rfl
 | succ n ih => rw [List.replicate_succ]; simp only [pk]; rw [ih]; simp
structure Fits (inner nv : Nat) (rot vis : List Nat) : Prop where
 lr : rot.length = inner
 br : ∀ x ∈ rot, x < 4
 lv : vis.length = nv
 bv : ∀ x ∈ vis, x < 1048576
theorem mem_set {l : List Nat} {i r B : Nat} (h : ∀ x ∈ l, x < B) (hr : r < B) : ∀ x ∈ l.set i r, x < B := by
 intro x hx
 rcases List.mem_or_eq_of_mem_set hx with h1 | h1
 ·exact h x h1
 ·omega
theorem getR {inner nv : Nat} {rot vis : List Nat} (f : Fits inner nv rot vis) (i : Nat) : (pk 4 rot >>> (2 * i)) % 4 = nth rot i := by
 rw [Nat.shiftRight_eq_div_pow, Nat.pow_mul]
 exact pk_get 4 (by decide) rot i f.br
theorem getV {inner nv : Nat} {rot vis : List Nat} (f : Fits inner nv rot vis) (i : Nat) : (pk 1048576 vis >>> (20 * i)) % 1048576 = nth vis i := by
 rw [Nat.shiftRight_eq_div_pow, Nat.pow_mul]
 exact pk_get 1048576 (by decide) vis i f.bv
theorem setR {inner nv : Nat} {rot vis : List Nat} (f : Fits inner nv rot vis) (i r : Nat) (hi : i < inner) : (pk 4 rot + r <<< (2 * i)) - nth rot i <<< (2 * i) = pk 4 (rot.set i r) := by
 rw [Nat.shiftLeft_eq, Nat.shiftLeft_eq, Nat.pow_mul]
 exact pk_set_eq 4 rot i r (by rw [f.lr]; exact hi)
theorem setV {inner nv : Nat} {rot vis : List Nat} (f : Fits inner nv rot vis) (i : Nat) (hi : i < nv) : pk 1048576 vis + 1 <<< (20 * i) = pk 1048576 (vis.set i (nth vis i + 1)) := by
 rw [Nat.shiftLeft_eq, Nat.pow_mul]
 have := pk_set 1048576 vis i (nth vis i + 1) (by rw [f.lv]; exact hi)
 have e : (nth vis i + 1) * 1048576 ^ i = nth vis i * 1048576 ^ i + 1 * 1048576 ^ i := Nat.add_mul _ _ _
 show pk 1048576 vis + 1 * 1048576 ^ i = _
 omega
theorem run_of_P (b inner nv : Nat) (hb : b ≤ 3) : ∀ (k at_ lv st : Nat) (rot vis : List Nat), Fits inner nv rot vis → ∀ e s R V,
  runP b inner nv k at_ lv st (pk 4 rot) (pk 1048576 vis) = some (e, s, R, V) →
  ∃ rot1 vis1, run b inner k at_ lv st rot vis = some (e, s, rot1, vis1) ∧ R = pk 4 rot1 ∧ V = pk 1048576 vis1 ∧ Fits inner nv rot1 vis1 := by
 intro k
 induction k with
 | zero => intro at_ lv st rot vis _ e s R V h; simp [runP] at h
 | succ k ih =>
  intro at_ lv st rot vis f e s R V h
  simp only [runP, fN_eq, getR f] at h
  simp only [run]
  by_cases h1 : at_ < inner
  rotate_left
  ·have hB : Nat.blt at_ inner = false := by rw [Bool.eq_false_iff]; intro hh; exact h1 (by simpa using hh)
   rw [hB, cond_false] at h
   rw [if_neg h1]
   injection h with h
   injection h with e1 h
   injection h with e2 h
   injection h with e3 e4
   exact ⟨_, _, by rw [e1, e2], e3.symm, e4.symm, f⟩
  have hB : Nat.blt at_ inner = true := by simpa using h1
  rw [hB, cond_true] at h
  rw [if_pos h1]
  by_cases h2 : st < 100000 ∧ nth rot at_ ≤ b
  rotate_left
  ·have hB2 : (Nat.blt st 100000 && Nat.ble (nth rot at_) b) = false := by rw [Bool.eq_false_iff]; intro hh; exact h2 (by simpa using hh)
   rw [hB2, cond_false] at h
   cases h
  have hB2 : (Nat.blt st 100000 && Nat.ble (nth rot at_) b) = true := by simpa using h2
  rw [hB2, cond_true] at h
  rw [if_pos h2]
  have hr4 : (nth rot at_ + 1) % (b + 1) < 4 := Nat.lt_of_lt_of_le (Nat.mod_lt _ (by omega)) (by omega)
  rw [setR f _ _ h1] at h
  have f1 : Fits inner nv (rot.set at_ ((nth rot at_ + 1) % (b + 1))) vis := ⟨by rw [List.length_set]; exact f.lr, mem_set f.br hr4, f.lv, f.bv⟩
  generalize hr : (nth rot at_ + 1) % (b + 1) = r at *
  by_cases h3 : 0 < r
  ·have hB3 : Nat.blt 0 r = true := by simpa using h3
   rw [hB3, cond_true, getV f] at h
   rw [if_pos h3]
   by_cases h4 : lv + 1 < vis.length ∧ nth vis (lv + 1) < 100000
   ·have hB4 : (Nat.blt (lv + 1) nv && Nat.blt (nth vis (lv + 1)) 100000) = true := by rw [← f.lv]; simpa using h4
    rw [hB4, cond_true, setV f _ (by rw [← f.lv]; exact h4.1)] at h
    rw [if_pos h4]
    exact ih _ _ _ _ _ ⟨f1.lr, f1.br, by rw [List.length_set]; exact f.lv, mem_set f.bv (by omega)⟩ e s R V h
   have hB4 : (Nat.blt (lv + 1) nv && Nat.blt (nth vis (lv + 1)) 100000) = false := by
    rw [← f.lv, Bool.eq_false_iff]; intro hh; exact h4 (by simpa using hh)
   rw [hB4, cond_false] at h
   cases h
  have hB3 : Nat.blt 0 r = false := by rw [Bool.eq_false_iff]; intro hh; exact h3 (by simpa using hh)
  rw [hB3, cond_false] at h
  rw [if_neg h3]
  by_cases h5 : at_ = 0
  rotate_left
  ·have hB5 : Nat.beq at_ 0 = false := by rw [Bool.eq_false_iff]; intro hh; exact h5 (Nat.eq_of_beq_eq_true hh)
   rw [hB5, cond_false, getV f] at h
   rw [if_neg h5]
   by_cases h7 : 0 < lv ∧ lv - 1 < vis.length ∧ nth vis (lv - 1) < 100000
   ·have hB7 : (Nat.blt 0 lv && Nat.blt (lv - 1) nv && Nat.blt (nth vis (lv - 1)) 100000) = true := by rw [← f.lv]; simpa [and_assoc] using h7
    rw [hB7, cond_true, setV f _ (by rw [← f.lv]; exact h7.2.1)] at h
    rw [if_pos h7]
    exact ih _ _ _ _ _ ⟨f1.lr, f1.br, by rw [List.length_set]; exact f.lv, mem_set f.bv (by omega)⟩ e s R V h
   have hB7 : (Nat.blt 0 lv && Nat.blt (lv - 1) nv && Nat.blt (nth vis (lv - 1)) 100000) = false := by
    rw [← f.lv, Bool.eq_false_iff]; intro hh; exact h7 (by simpa [and_assoc] using hh)
   rw [hB7, cond_false] at h
   cases h
  have hB5 : Nat.beq at_ 0 = true := by rw [h5]; rfl
  rw [hB5, cond_true] at h
  rw [if_pos h5]
  by_cases h6 : lv = 0
  rotate_left
  ·have hB6 : Nat.beq lv 0 = false := by rw [Bool.eq_false_iff]; intro hh; exact h6 (Nat.eq_of_beq_eq_true hh)
   rw [hB6, cond_false] at h
   cases h
  have hB6 : Nat.beq lv 0 = true := by rw [h6]; rfl
  rw [hB6, cond_true] at h
  rw [if_pos h6]
  injection h with h
  injection h with e1 h
  injection h with e2 h
  injection h with e3 e4
  exact ⟨_, _, by rw [e1, e2], e3.symm, e4.symm, f1⟩
theorem chips_of_P (b inner nv : Nat) (hb : b ≤ 3) : ∀ (n : Nat) (s : St), Fits inner nv s.rot s.vis → chipsP b inner nv n (pk 4 s.rot) (pk 1048576 s.vis) = true → ∃ s1, chips b inner n s = some s1 := by
 intro n
 induction n with
 | zero => intro s _ _; exact ⟨s, rfl⟩
 | succ n ih =>
  intro s f h
  simp only [chipsP] at h
  have h0 := getV f 0
  rw [Nat.mul_zero, Nat.shiftRight_zero] at h0
  rw [h0] at h
  by_cases h1 : 0 < s.vis.length ∧ nth s.vis 0 < 100000
  rotate_left
  ·have hB : (Nat.blt 0 nv && Nat.blt (nth s.vis 0) 100000) = false := by
    rw [← f.lv, Bool.eq_false_iff]; intro hh; exact h1 (by simpa using hh)
   rw [hB, cond_false] at h
   cases h
  have hB : (Nat.blt 0 nv && Nat.blt (nth s.vis 0) 100000) = true := by rw [← f.lv]; simpa using h1
  rw [hB, cond_true] at h
  have e := setV f 0 (by rw [← f.lv]; exact h1.1)
  rw [Nat.mul_zero, Nat.shiftLeft_zero] at e
  rw [e] at h
  have f1 : Fits inner nv s.rot (s.vis.set 0 (nth s.vis 0 + 1)) := ⟨f.lr, f.br, by rw [List.length_set]; exact f.lv, mem_set f.bv (by omega)⟩
  cases hr : runP b inner nv 5000 0 0 0 (pk 4 s.rot) (pk 1048576 (s.vis.set 0 (nth s.vis 0 + 1))) with
  | none => rw [hr] at h; simp at h
  | some q =>
   obtain ⟨e1, s1, R, V⟩ := q
   rw [hr] at h
   obtain ⟨rot1, vis1, hrun, rfl, rfl, f2⟩ := run_of_P b inner nv hb 5000 0 0 0 _ _ f1 e1 s1 R V hr
   have hc : chip b inner s.rot s.vis = some (e1, s1, rot1, vis1) := by rw [chip, if_pos h1]; exact hrun
   obtain ⟨s2, hs2⟩ := ih ⟨rot1, vis1, s.ends ++ [endN e1], s.trips ++ [s1]⟩ f2 h
   exact ⟨s2, by simp only [chips]; rw [hc]; exact hs2⟩
theorem all_end (b d k : Nat) (h : (b, d) ∈ trees) (hk : k ≤ b) : ∃ s, chips b (inner b d) 200 (start d (inner b d) k) = some s := by
 have h1 := List.all_eq_true.1 all_okP (b, d) h
 have h2 : okP b d k = true := List.all_eq_true.1 h1 k (by simp; omega)
 have hb : b ≤ 3 := by
  simp [trees] at h
  omega
 refine chips_of_P b (inner b d) (d + 1) hb 200 (start d (inner b d) k) ⟨by simp [start], ?_, by simp [start], ?_⟩ ?_
 ·intro x hx; simp [start] at hx; omega
 ·intro x hx; simp [start] at hx; omega
 ·simp only [start]
  rw [pk_replicate4, pk_replicate0]
  exact h2
theorem chips_add (b inner : Nat) : ∀ (m n : Nat) (s : St), chips b inner (m + n) s = (chips b inner m s).bind (chips b inner n)
 | 0, n, s => by simp [chips]
 | m + 1, n, s => by
  rw [show m + 1 + n = (m + n) + 1 by omega]
  simp only [chips]
  cases chip b inner s.rot s.vis with
  | none => rfl
  | some q => exact chips_add b inner m n _
theorem end_of (b d k n : Nat) (h : (b, d) ∈ trees) (hk : k ≤ b) (hn : n ≤ 200) : ∃ s, chips b (inner b d) n (start d (inner b d) k) = some s := by
 obtain ⟨s, hs⟩ := all_end b d k h hk
 rw [show 200 = n + (200 - n) by omega, chips_add] at hs
 cases hc : chips b (inner b d) n (start d (inner b d) k) with
 | none => rw [hc] at hs; cases hs
 | some s1 => exact ⟨s1, rfl⟩
end Go.Proofs.Ytmechelmnpoddaa.Es
namespace Go.Proofs.Ytmechelmnpoddaa.H7
open Go.RowKit YtmechelmnpoddaaW.PrintWords YtmechelmnpoddaaW.PrintLast YtmechelmnpoddaaW.PrintMore
open A7
open Es (nth)
def ints (l : List Nat) : List Int := l.map Int.ofNat
theorem ints_length (l : List Nat) : (ints l).length = l.length := by simp [ints]
theorem rd_ints (l : List Nat) (i : Nat) : rd (ints l) (i : Int) = (nth l i : Nat) := by
 unfold rd ints nth
 rw [List.getD_eq_getElem?_getD, List.getElem?_map, Int.toNat_natCast, List.getD_eq_getElem?_getD]
 cases l[i]? <;> rfl
theorem ints_set (l : List Nat) (i r : Nat) : (ints l).set i (r : Int) = ints (l.set i r) := by simp [ints, List.map_set]
theorem row_at {W : World} {base g n cap : Nat} {l : List Nat} (h : W.ownsRow base 3 1 (.slice (some ⟨g, 0, none⟩) n cap) n (nums .i64 (ints l))) (i : Nat) (hi : i < n) :
  W.cell? ⟨g, i, none⟩ = some (.int .i64 (nth l i : Int)) ∧ W.frozen? ⟨g, i, none⟩ = false := by
 have := own_at h (i : Int) (by omega) (by omega)
 rw [rd_ints, Int.toNat_natCast] at this
 exact this
theorem row_set {W : World} {base g n cap : Nat} {l : List Nat} (h : W.ownsRow base 3 1 (.slice (some ⟨g, 0, none⟩) n cap) n (nums .i64 (ints l))) (i x : Nat) :
  (W.setCell ⟨g, i, none⟩ (.int .i64 (x : Int))).ownsRow base 3 1 (.slice (some ⟨g, 0, none⟩) n cap) n (nums .i64 (ints (l.set i x))) := by
 have := (own_store h (i : Int) (x : Int)).1
 rw [Int.toNat_natCast, ints_set] at this
 exact this
theorem row_far {W : World} {base g m n : Nat} {v : Value} {xs : List Value} (h : W.ownsRow base 3 1 v n xs) (hne : v.ownBlock ≠ some g) (u : Value) :
  (W.setCell ⟨g, m, none⟩ u).ownsRow base 3 1 v n xs := ownsRow_setCell_other h hne u
theorem row_len {W : World} {base n : Nat} {v : Value} {l : List Nat} (h : W.ownsRow base 3 1 v n (nums .i64 (ints l))) : l.length = n := by
 have := h.1; simp [nums, ints] at this; exact this
structure EsAt (w : World) (base g : Nat) (b d inner : Nat) (vr ve vt vv : Value) (nr nv : Nat) (rot ends trips vis : List Nat) : Prop where
 blk : w.heap[g]? = some (.cells #[.int .i64 (b : Int), .int .i64 (d : Int), .int .i64 (inner : Int), vr, ve, vt, vv] 58 (0, 0))
 hg : base ≤ g
 r : w.ownsRow base 3 1 vr nr (nums .i64 (ints rot))
 e : w.ownsRow base 3 1 ve ends.length (nums .i64 (ints ends))
 t : w.ownsRow base 3 1 vt trips.length (nums .i64 (ints trips))
 v : w.ownsRow base 3 1 vv nv (nums .i64 (ints vis))
 re : NeRow vr ve
 rt : NeRow vr vt
 rv : NeRow vr vv
 et : NeRow ve vt
 ev : NeRow ve vv
 tv : NeRow vt vv
variable {w : World} {base g b d inner gr cr gv cv nr nv : Nat} {ve vt vr vv : Value} {rot ends trips vis : List Nat}
theorem EsAt.gr_ne (h : EsAt w base g b d inner (.slice (some ⟨gr, 0, none⟩) nr cr) ve vt vv nr nv rot ends trips vis) : gr ≠ g := by
 have := own_ne h.r h.blk (by decide)
 rintro rfl
 exact this rfl
theorem EsAt.gv_ne (h : EsAt w base g b d inner vr ve vt (.slice (some ⟨gv, 0, none⟩) nv cv) nr nv rot ends trips vis) : gv ≠ g := by
 have := own_ne h.v h.blk (by decide)
 rintro rfl
 exact this rfl
theorem EsAt.gr_gv (h : EsAt w base g b d inner (.slice (some ⟨gr, 0, none⟩) nr cr) ve vt (.slice (some ⟨gv, 0, none⟩) nv cv) nr nv rot ends trips vis) : gr ≠ gv := by
 have := h.rv gr rfl
 rintro rfl
 exact this rfl
theorem EsAt.setR (h : EsAt w base g b d inner (.slice (some ⟨gr, 0, none⟩) nr cr) ve vt vv nr nv rot ends trips vis) (i x : Nat) :
  EsAt (w.setCell ⟨gr, i, none⟩ (.int .i64 (x : Int))) base g b d inner (.slice (some ⟨gr, 0, none⟩) nr cr) ve vt vv nr nv (rot.set i x) ends trips vis where
 blk := blk_far h.blk (p := ⟨gr, i, none⟩) (fun e => h.gr_ne e.symm) _
 hg := h.hg
 r := row_set h.r i x
 e := row_far h.e (h.re gr rfl) _
 t := row_far h.t (h.rt gr rfl) _
 v := row_far h.v (h.rv gr rfl) _
 re := h.re
 rt := h.rt
 rv := h.rv
 et := h.et
 ev := h.ev
 tv := h.tv
theorem EsAt.setV (h : EsAt w base g b d inner vr ve vt (.slice (some ⟨gv, 0, none⟩) nv cv) nr nv rot ends trips vis) (i x : Nat) :
  EsAt (w.setCell ⟨gv, i, none⟩ (.int .i64 (x : Int))) base g b d inner vr ve vt (.slice (some ⟨gv, 0, none⟩) nv cv) nr nv rot ends trips (vis.set i x) where
 blk := blk_far h.blk (p := ⟨gv, i, none⟩) (fun e => h.gv_ne e.symm) _
 hg := h.hg
 r := row_far h.r (fun e => (ne_symm h.rv) gv rfl e) _
 e := row_far h.e (fun e => (ne_symm h.ev) gv rfl e) _
 t := row_far h.t (fun e => (ne_symm h.tv) gv rfl e) _
 v := row_set h.v i x
 re := h.re
 rt := h.rt
 rv := h.rv
 et := h.et
 ev := h.ev
 tv := h.tv
theorem EsAt.drew (h : EsAt w base g b d inner vr ve vt vv nr nv rot ends trips vis) : EsAt w.drew base g b d inner vr ve vt vv nr nv rot ends trips vis :=
 ⟨h.blk, h.hg, h.r, h.e, h.t, h.v, h.re, h.rt, h.rv, h.et, h.ev, h.tv⟩
theorem EsAt.appE {w1 : World} {v1 : Value} {n : Nat} (h : EsAt w base g b d inner vr ve vt vv nr nv rot ends trips vis)
  {y : Int} (hown : w1.ownsRow base 3 1 v1 ((ints ends).length + 1) (nums .i64 (ints ends ++ [y]))) (hg : w.grownBy w1 ve.ownBlock) (hat : v1.ownBlock = ve.ownBlock ∨ ∃ b, v1.ownBlock = some b ∧ w.heap.size ≤ b) (hy : y = (n : Int)) :
  w1.heap[g]? = some (.cells #[.int .i64 (b : Int), .int .i64 (d : Int), .int .i64 (inner : Int), vr, ve, vt, vv] 58 (0, 0)) ∧
  EsAt (w1.setCell ⟨g, 4, none⟩ v1) base g b d inner vr v1 vt vv nr nv rot (ends ++ [n]) trips vis := by
 have hb := blk_grown h.blk hg (own_ne h.e h.blk (by decide))
 have e1 : ints ends ++ [(n : Int)] = ints (ends ++ [n]) := by simp [ints]
 have e2 : (ints ends).length + 1 = (ends ++ [n]).length := by simp [ints]
 subst hy
 rw [e1, e2] at hown
 have k1 := own_other h.r hg (ne_other (ne_symm h.re))
 have k2 := own_other h.t hg (ne_other h.et)
 have k3 := own_other h.v hg (ne_other h.ev)
 have q1 := own_ne k1 hb (by decide)
 have q2 := own_ne k2 hb (by decide)
 have q3 := own_ne k3 hb (by decide)
 have q4 := own_ne hown hb (by decide)
 refine ⟨hb, ?_, h.hg, row_far k1 (fun e => q1 e.symm) _, row_far hown (fun e => q4 e.symm) _, row_far k2 (fun e => q2 e.symm) _, row_far k3 (fun e => q3 e.symm) _, ne_append' h.re hat h.r, h.rt, h.rv, ne_append h.et hat h.t, ne_append h.ev hat h.v, h.tv⟩
 have := blk_set hb 4 v1
 simpa using this
theorem EsAt.appT {w1 : World} {v1 : Value} {n : Nat} (h : EsAt w base g b d inner vr ve vt vv nr nv rot ends trips vis)
  {y : Int} (hown : w1.ownsRow base 3 1 v1 ((ints trips).length + 1) (nums .i64 (ints trips ++ [y]))) (hg : w.grownBy w1 vt.ownBlock) (hat : v1.ownBlock = vt.ownBlock ∨ ∃ b, v1.ownBlock = some b ∧ w.heap.size ≤ b) (hy : y = (n : Int)) :
  w1.heap[g]? = some (.cells #[.int .i64 (b : Int), .int .i64 (d : Int), .int .i64 (inner : Int), vr, ve, vt, vv] 58 (0, 0)) ∧
  EsAt (w1.setCell ⟨g, 5, none⟩ v1) base g b d inner vr ve v1 vv nr nv rot ends (trips ++ [n]) vis := by
 have hb := blk_grown h.blk hg (own_ne h.t h.blk (by decide))
 have e1 : ints trips ++ [(n : Int)] = ints (trips ++ [n]) := by simp [ints]
 have e2 : (ints trips).length + 1 = (trips ++ [n]).length := by simp [ints]
 subst hy
 rw [e1, e2] at hown
 have k1 := own_other h.r hg (ne_other (ne_symm h.rt))
 have k2 := own_other h.e hg (ne_other (ne_symm h.et))
 have k3 := own_other h.v hg (ne_other h.tv)
 have q1 := own_ne k1 hb (by decide)
 have q2 := own_ne k2 hb (by decide)
 have q3 := own_ne k3 hb (by decide)
 have q4 := own_ne hown hb (by decide)
 refine ⟨hb, ?_, h.hg, row_far k1 (fun e => q1 e.symm) _, row_far k2 (fun e => q2 e.symm) _, row_far hown (fun e => q4 e.symm) _, row_far k3 (fun e => q3 e.symm) _, h.re, ne_append' h.rt hat h.r, h.rv, ne_append' h.et hat h.e, h.ev, ne_append h.tv hat h.v⟩
 have := blk_set hb 5 v1
 simpa using this
theorem rot_step (x b : Nat) : ∃ r : Nat, ((x : Int) + 1) % ((b : Int) + 1) = (r : Int) ∧ (x + 1) % (b + 1) = r ∧ r ≤ b := by
 refine ⟨(x + 1) % (b + 1), by rw [Int.natCast_emod]; rfl, rfl, ?_⟩
 have := Nat.mod_lt (x + 1) (show b + 1 > 0 by omega)
 omega
theorem mul_small {a b : Nat} (ha : a ≤ 200) (hb : b ≤ 3) : 0 ≤ (a : Int) * (b : Int) ∧ (a : Int) * (b : Int) ≤ 600 := by
 have h : a * b ≤ 200 * 3 := Nat.mul_le_mul ha hb
 have e : ((a * b : Nat) : Int) = (a : Int) * (b : Int) := Int.natCast_mul a b
 omega
set_option maxHeartbeats 4000000 in
set_option maxRecDepth 100000 in
theorem chip_calls (base g b d inner : Nat) (vr ve vt vv : Value) (nv : Nat) (rot ends trips vis : List Nat) (e : Bool) (s : Nat) (rot1 vis1 : List Nat) (w : World)
  (hb : b ≤ 3) (hb2 : 2 ≤ b) (hi : inner ≤ 130) (hi0 : 0 < inner) (hnv : nv ≤ 100) (hel : ends.length ≤ 100000) (htl : trips.length ≤ 100000)
  (H : EsAt w base g b d inner vr ve vt vv inner nv rot ends trips vis) (hrun : Es.chip b inner rot vis = some (e, s, rot1, vis1)) :
  Calls Try.prog 84 #[.pointer (some ⟨g, 0, none⟩)] w fun e' w' => e' = .returned (.tuple #[]) ∧ Below base w w' ∧
   ∃ ve1 vt1, EsAt w' base g b d inner vr ve1 vt1 vv inner nv rot1 (ends ++ [Es.endN e]) (trips ++ [s]) vis1 := by
 have hrun' : 0 < vis.length ∧ nth vis 0 < 100000 ∧ Es.run b inner 5000 0 0 0 rot (vis.set 0 (nth vis 0 + 1)) = some (e, s, rot1, vis1) := by
  unfold Es.chip at hrun
  split at hrun
  ·rename_i h; exact ⟨h.1, h.2, hrun⟩
  ·cases hrun
 clear hrun
 obtain ⟨hv0', hv1, hrun⟩ := hrun'
 have R0 := Aside0.mk hrun
 clear hrun
 have F := Aside0.mk H
 have hv0 : 0 < nv := by rw [← row_len H.v]; exact hv0'
 clear H hv0'
 obtain ⟨gr, cr, rfl, hgr, hcr⟩ := F.out.r.form (by omega)
 obtain ⟨gv, cv, rfl, hgv, hcv⟩ := F.out.v.form (by omega)
 have c6 := blk_cell F.out.blk 6
 have fz : ∀ i, w.frozen? ⟨g, i, none⟩ = false := kF_ F.out.blk
 have cv0 := (row_at F.out.v 0 (by omega)).1
 have fv0 := (row_at F.out.v 0 (by omega)).2
 have n1 := F.out.gr_ne
 have n2 := F.out.gv_ne
 have n3 := F.out.gr_gv
 simp at c6
 go_enter Try.func84, Try.ntmps84
 go_wp2_with (fail)
 clear c6 fz cv0 fv0
 have F1 := Aside0.mk (F.out.setV 0 (nth vis 0 + 1))
 have BW := Aside0.mk ((Below.refl base w).setCell (p := ⟨gv, 0, none⟩) hgv (.int .i64 ((nth vis 0 : Int) + 1)))
 rw [show ((nth vis 0 + 1 : Nat) : Int) = (nth vis 0 : Int) + 1 from by omega] at F1
 go_loopg [2, 3, 4] 5000 (fun kq v2 v3 v4 wr => ∃ (at_ lv : Int) (st : Nat) (rot2 vis2 : List Nat), v2 = .int .i64 at_ ∧ v3 = .int .i64 lv ∧ v4 = .int .i64 (st : Int) ∧
  Aside0 ((∃ a l : Nat, at_ = (a : Int) ∧ lv = (l : Int) ∧ Es.run b inner kq a l st rot2 vis2 = some (e, s, rot1, vis1)) ∨ (at_ = -1 ∧ lv = -1 ∧ e = false ∧ s = st ∧ rot1 = rot2 ∧ vis1 = vis2)) ∧
  Aside0 (EsAt wr base g b d inner (.slice (some ⟨gr, 0, none⟩) inner cr) ve vt (.slice (some ⟨gv, 0, none⟩) nv cv) inner nv rot2 ends trips vis2) ∧ Aside0 (Below base w wr))
 case atStart => exact ⟨0, 0, 0, rot, _, rfl, rfl, rfl, ⟨.inl ⟨0, 0, rfl, rfl, R0.out⟩⟩, F1, BW⟩
 case round =>
  clear F F1 BW R0
  obtain ⟨at_, lv, st, rot2, vis2, rfl, rfl, rfl, HR, HF, HB⟩ := hrel
  rcases HR.out with ⟨a, l, rfl, rfl, hr⟩ | ⟨rfl, rfl, he, hs, h1, h2⟩
  ·clear HR
   have c0 := blk_cell HF.out.blk 0
   have c2 := blk_cell HF.out.blk 2
   have c3 := blk_cell HF.out.blk 3
   have c6 := blk_cell HF.out.blk 6
   simp at c0 c2 c3 c6
   cases gk with
   | zero => exact absurd hr (by simp [Es.run])
   | succ k =>
   simp only [Es.run] at hr
   by_cases h1 : a < inner
   rotate_left
   ·rw [if_neg h1] at hr
    obtain ⟨rfl, rfl, rfl, rfl⟩ : true = e ∧ st = s ∧ rot2 = rot1 ∧ vis2 = vis1 := by simpa using hr
    clear hr
    have c4 := blk_cell HF.out.blk 4
    simp at c4
    have ws : base ≤ wr.heap.size := by have := HB.out.size; omega
    have HO := HF.out.e
    rw [← ints_length] at HO
    go_wp2_with (at_builtin; refine print_append_num (w0 := w) base rfl (.tmp 94) (.tmp 96) 34 3 .i64 8 rfl Try.underlying34 info3 (by decide) ve (ints ends) ((1 : Nat) : Int) rfl rfl HO HB.out ws (by rw [ints_length]; omega) ?_)
    intro v1 w1 hown hbel hg hat
    replace hown : w1.ownsRow base 3 1 v1 ((ints ends).length + 1) (nums .i64 (ints ends ++ [1])) := by simpa using hown
    obtain ⟨A1, m1, rfl⟩ := own_slice hown
    obtain ⟨hb1, F1⟩ := HF.out.appE (n := 1) hown hg hat rfl
    have B1 := Aside0.mk (hbel.setCell (p := ⟨g, 4, none⟩) HF.out.hg (.slice A1 ((ints ends).length + 1) m1))
    have F1 := Aside0.mk F1
    clear hown hbel hg hat HO ws
    have k4 := blk_cell hb1 4
    have z4 := kF_ hb1 4
    simp at k4
    clear hb1
    go_upto_region 19 with (fail)
    generalize w1.setCell ⟨g, 4, none⟩ (Value.slice A1 ((ints ends).length + 1) m1) = W2 at *
    clear k4 z4 c0 c2 c3 c4 c6 HF HB
    have c5 := blk_cell F1.out.blk 5
    simp at c5
    have ws : base ≤ W2.heap.size := by have := B1.out.size; omega
    have HO := F1.out.t
    rw [← ints_length] at HO
    go_wp2_with (at_builtin; refine print_append_num (w0 := w) base rfl (.tmp 104) (.tmp 106) 34 3 .i64 8 rfl Try.underlying34 info3 (by decide) vt (ints trips) (st : Int) rfl rfl HO B1.out ws (by rw [ints_length]; omega) ?_)
    intro v2 w2 hown hbel hg hat
    replace hown : w2.ownsRow base 3 1 v2 ((ints trips).length + 1) (nums .i64 (ints trips ++ [(st : Int)])) := by simpa using hown
    obtain ⟨A2, m2, rfl⟩ := own_slice hown
    obtain ⟨hb2, F2⟩ := F1.out.appT (n := st) hown hg hat rfl
    have B2 := Aside0.mk (hbel.setCell (p := ⟨g, 5, none⟩) F1.out.hg (.slice A2 ((ints trips).length + 1) m2))
    have F2 := Aside0.mk F2
    clear hown hbel hg hat HO ws
    have k5 := blk_cell hb2 5
    have z5 := kF_ hb2 5
    simp at k5
    clear hb2
    go_wp2_with (fail)
    go_end0
    exact ⟨rfl, B2.out, _, _, F2.out⟩
   rw [if_pos h1] at hr
   by_cases h2 : st < 100000 ∧ nth rot2 a ≤ b
   rotate_left
   ·rw [if_neg h2] at hr; cases hr
   rw [if_pos h2] at hr
   obtain ⟨h2, h3⟩ := h2
   have ca := (row_at HF.out.r a h1).1
   have fa := (row_at HF.out.r a h1).2
   have hA := Aside0.mk hr
   clear hr
   go_wp2_with (fail)
   go_region
   obtain ⟨r, er, er', hrb⟩ := rot_step (nth rot2 a) b
   rw [er'] at hA
   simp only [er]
   clear er er'
   have ER := Aside0.mk (HF.out.setR a r).drew
   have BR := Aside0.mk ((HB.out.setCell (p := ⟨gr, a, none⟩) hgr (.int .i64 (r : Int))).drew)
   have hab := mul_small (a := a) (b := b) (by omega) hb
   by_cases h4 : 0 < r
   ·have hr := hA.out
    rw [if_pos h4] at hr
    by_cases h5 : l + 1 < vis2.length ∧ nth vis2 (l + 1) < 100000
    rotate_left
    ·rw [if_neg h5] at hr; cases hr
    rw [if_pos h5] at hr
    have hA2 := Aside0.mk hr
    rw [row_len HF.out.v] at h5
    have cl := (row_at HF.out.v (l + 1) h5.1).1
    have fl := (row_at HF.out.v (l + 1) h5.1).2
    obtain ⟨h6, h7⟩ := h5
    clear hr hA
    go_wp2_with (fail)
    go_roundg k
    case measure => omega
    case rel => exact ⟨_, _, st + 1, _, _, rfl, rfl, by go_num, ⟨.inl ⟨_, _, (by push_cast; rfl), (by push_cast; rfl), hA2.out⟩⟩, ⟨by have := ER.out.setV (l + 1) (nth vis2 (l + 1) + 1); exact this⟩, ⟨by have := BR.out.setCell (p := ⟨gv, l + 1, none⟩) hgv (.int .i64 ((nth vis2 (l + 1) + 1 : Nat) : Int)); exact this⟩⟩
   have hr := hA.out
   rw [if_neg h4] at hr
   by_cases h8 : a = 0
   ·rw [if_pos h8] at hr
    subst h8
    by_cases h9 : l = 0
    rotate_left
    ·rw [if_neg h9] at hr; cases hr
    rw [if_pos h9] at hr
    subst h9
    have hA2 := Aside0.mk hr
    clear hr hA
    go_wp2_with (fail)
    go_roundg k
    case measure => omega
    case rel => exact ⟨-1, -1, st + 1, _, _, rfl, rfl, by go_num, ⟨.inr ⟨rfl, rfl, by have := hA2.out; simp at this; simp [this]⟩⟩, ⟨ER.out⟩, BR⟩
   rw [if_neg h8] at hr
   by_cases h10 : 0 < l ∧ l - 1 < vis2.length ∧ nth vis2 (l - 1) < 100000
   rotate_left
   ·rw [if_neg h10] at hr; cases hr
   rw [if_pos h10] at hr
   have hA2 := Aside0.mk hr
   rw [row_len HF.out.v] at h10
   have cl := (row_at HF.out.v (l - 1) h10.2.1).1
   have fl := (row_at HF.out.v (l - 1) h10.2.1).2
   obtain ⟨h5, h6, h7⟩ := h10
   have hd : (((a - 1) / b : Nat) : Int) = ((a : Int) - 1) / (b : Int) := by rw [Int.natCast_ediv, Int.natCast_sub (by omega)]; rfl
   have hl1 : ((l - 1 : Nat) : Int) = (l : Int) - 1 := by omega
   have HD := Aside0.mk hd
   have HL1 := Aside0.mk hl1
   clear hr hA hd hl1
   go_wp2_with (fail)
   go_roundg k
   case measure => omega
   case rel => exact ⟨_, _, st + 1, _, _, rfl, rfl, by go_num, ⟨.inl ⟨_, _, HD.out.symm, HL1.out.symm, hA2.out⟩⟩, ⟨by have := ER.out.setV (l - 1) (nth vis2 (l - 1) + 1); exact this⟩, ⟨by have := BR.out.setCell (p := ⟨gv, l - 1, none⟩) hgv (.int .i64 ((nth vis2 (l - 1) + 1 : Nat) : Int)); exact this⟩⟩
  ·clear HR
   have HE := Aside0.mk he
   obtain rfl := hs
   obtain rfl := h1
   obtain rfl := h2
   clear he
   have c0 := blk_cell HF.out.blk 0
   have c2 := blk_cell HF.out.blk 2
   have c3 := blk_cell HF.out.blk 3
   have c6 := blk_cell HF.out.blk 6
   simp at c0 c2 c3 c6
   have c4 := blk_cell HF.out.blk 4
   simp at c4
   have ws : base ≤ wr.heap.size := by have := HB.out.size; omega
   have HO := HF.out.e
   rw [← ints_length] at HO
   go_wp2_with (at_builtin; refine print_append_num (w0 := w) base rfl (.tmp 94) (.tmp 96) 34 3 .i64 8 rfl Try.underlying34 info3 (by decide) ve (ints ends) ((0 : Nat) : Int) rfl rfl HO HB.out ws (by rw [ints_length]; omega) ?_)
   intro v1 w1 hown hbel hg hat
   replace hown : w1.ownsRow base 3 1 v1 ((ints ends).length + 1) (nums .i64 (ints ends ++ [0])) := by simpa using hown
   obtain ⟨A1, m1, rfl⟩ := own_slice hown
   obtain ⟨hb1, F1⟩ := HF.out.appE (n := 0) hown hg hat rfl
   have B1 := Aside0.mk (hbel.setCell (p := ⟨g, 4, none⟩) HF.out.hg (.slice A1 ((ints ends).length + 1) m1))
   have F1 := Aside0.mk F1
   clear hown hbel hg hat HO ws
   have k4 := blk_cell hb1 4
   have z4 := kF_ hb1 4
   simp at k4
   clear hb1
   go_upto_region 19 with (fail)
   generalize w1.setCell ⟨g, 4, none⟩ (Value.slice A1 ((ints ends).length + 1) m1) = W2 at *
   clear k4 z4 c0 c2 c3 c4 c6 HF HB
   have c5 := blk_cell F1.out.blk 5
   simp at c5
   have ws : base ≤ W2.heap.size := by have := B1.out.size; omega
   have HO := F1.out.t
   rw [← ints_length] at HO
   go_wp2_with (at_builtin; refine print_append_num (w0 := w) base rfl (.tmp 104) (.tmp 106) 34 3 .i64 8 rfl Try.underlying34 info3 (by decide) vt (ints trips) (s : Int) rfl rfl HO B1.out ws (by rw [ints_length]; omega) ?_)
   intro v2 w2 hown hbel hg hat
   replace hown : w2.ownsRow base 3 1 v2 ((ints trips).length + 1) (nums .i64 (ints trips ++ [(s : Int)])) := by simpa using hown
   obtain ⟨A2, m2, rfl⟩ := own_slice hown
   obtain ⟨hb2, F2⟩ := F1.out.appT (n := s) hown hg hat rfl
   have B2 := Aside0.mk (hbel.setCell (p := ⟨g, 5, none⟩) F1.out.hg (.slice A2 ((ints trips).length + 1) m2))
   have F2 := Aside0.mk F2
   clear hown hbel hg hat HO ws
   have k5 := blk_cell hb2 5
   have z5 := kF_ hb2 5
   simp at k5
   clear hb2
   go_wp2_with (fail)
   go_end0
   obtain rfl := HE.out
   exact ⟨rfl, B2.out, _, _, F2.out⟩
end Go.Proofs.Ytmechelmnpoddaa.H7
namespace Go.Proofs.Ytmechelmnpoddaa.H7
open Go.RowKit YtmechelmnpoddaaW.PrintWords YtmechelmnpoddaaW.PrintLast YtmechelmnpoddaaW.PrintMore
open A7
open Es (nth)
variable {w : World} {base g b d inner gr cr gv cv nr nv : Nat} {ve vt vr vv : Value} {rot ends trips vis : List Nat}
theorem EsAt.appR {w1 : World} {v1 : Value} {n : Nat} (h : EsAt w base g b d inner vr ve vt vv nr nv rot ends trips vis)
  {y : Int} (hown : w1.ownsRow base 3 1 v1 ((ints rot).length + 1) (nums .i64 (ints rot ++ [y]))) (hg : w.grownBy w1 vr.ownBlock) (hat : v1.ownBlock = vr.ownBlock ∨ ∃ b, v1.ownBlock = some b ∧ w.heap.size ≤ b) (hy : y = (n : Int)) :
  w1.heap[g]? = some (.cells #[.int .i64 (b : Int), .int .i64 (d : Int), .int .i64 (inner : Int), vr, ve, vt, vv] 58 (0, 0)) ∧
  EsAt (w1.setCell ⟨g, 3, none⟩ v1) base g b d inner v1 ve vt vv (nr + 1) nv (rot ++ [n]) ends trips vis := by
 have hb := blk_grown h.blk hg (own_ne h.r h.blk (by decide))
 have e1 : ints rot ++ [(n : Int)] = ints (rot ++ [n]) := by simp [ints]
 have e2 : (ints rot).length + 1 = nr + 1 := by rw [ints_length, row_len h.r]
 subst hy
 rw [e1, e2] at hown
 have k1 := own_other h.e hg (ne_other h.re)
 have k2 := own_other h.t hg (ne_other h.rt)
 have k3 := own_other h.v hg (ne_other h.rv)
 have q1 := own_ne k1 hb (by decide)
 have q2 := own_ne k2 hb (by decide)
 have q3 := own_ne k3 hb (by decide)
 have q4 := own_ne hown hb (by decide)
 refine ⟨hb, ?_, h.hg, row_far hown (fun e => q4 e.symm) _, row_far k1 (fun e => q1 e.symm) _, row_far k2 (fun e => q2 e.symm) _, row_far k3 (fun e => q3 e.symm) _, ne_append h.re hat h.e, ne_append h.rt hat h.t, ne_append h.rv hat h.v, h.et, h.ev, h.tv⟩
 have := blk_set hb 3 v1
 simpa using this
theorem EsAt.made (W : World) (b d inner base : Nat) (hb : base ≤ W.heap.size) (hd : d ≤ 100) :
  EsAt ((W.alloc (.cells (madeCells #[.int .i64 0] (d + 1)) 3)).alloc (.cells #[.int .i64 (b : Int), .int .i64 (d : Int), .int .i64 (inner : Int), .slice none 0 0, .slice none 0 0, .slice none 0 0, .slice (some ⟨W.heap.size, 0, none⟩) (d + 1) (d + 1)] 58))
   base (W.heap.size + 1) b d inner (.slice none 0 0) (.slice none 0 0) (.slice none 0 0) (.slice (some ⟨W.heap.size, 0, none⟩) (d + 1) (d + 1)) 0 (d + 1) [] [] [] (List.replicate (d + 1) 0) where
 blk := by
  have := blk_new (W.alloc (.cells (madeCells #[.int .i64 0] (d + 1)) 3)) (.cells #[.int .i64 (b : Int), .int .i64 (d : Int), .int .i64 (inner : Int), .slice none 0 0, .slice none 0 0, .slice none 0 0, .slice (some ⟨W.heap.size, 0, none⟩) (d + 1) (d + 1)] 58)
  simpa using this
 hg := by omega
 r := own_nil _ _ _ _
 e := own_nil _ _ _ _
 t := own_nil _ _ _ _
 v := by
  have h := own_made W base 3 .i64 (d + 1) hb (by omega)
  have e : ints (List.replicate (d + 1) 0) = List.replicate (d + 1) (0 : Int) := by simp [ints]
  rw [e]
  exact h.alloc _
 re := ne_nil _
 rt := ne_nil _
 rv := ne_nil _
 et := ne_nil _
 ev := ne_nil _
 tv := ne_nil _
theorem EsAt.heap_eq {w' : World} (h : EsAt w base g b d inner vr ve vt vv nr nv rot ends trips vis) (e : w'.heap = w.heap) : EsAt w' base g b d inner vr ve vt vv nr nv rot ends trips vis :=
 ⟨by rw [e]; exact h.blk, h.hg, own_move h.r (fun k _ => by rw [e]), own_move h.e (fun k _ => by rw [e]), own_move h.t (fun k _ => by rw [e]), own_move h.v (fun k _ => by rw [e]), h.re, h.rt, h.rv, h.et, h.ev, h.tv⟩
set_option maxHeartbeats 4000000 in
set_option maxRecDepth 100000 in
theorem start_calls (kk b d inner k N p : Nat) (w : World) (hN : spec_esNodes.f kk (b : Int) (d : Int) = some (N : Int)) (hP : spec_esPower.f kk (b : Int) (d : Int) = some (p : Int)) (hNp : N = inner + p) (hN2 : N ≤ 130) (hd : d ≤ 100) (hk : k ≤ 3) :
  Calls Try.prog 83 #[.int .i64 (b : Int), .int .i64 (d : Int), .int .i64 (k : Int)] w fun e' w' => ∃ g vr vv, e' = .returned (.pointer (some ⟨g, 0, none⟩)) ∧ Below w.heap.size w w' ∧
   EsAt w' w.heap.size g b d inner vr (.slice none 0 0) (.slice none 0 0) vv inner (d + 1) (List.replicate inner k) [] [] (List.replicate (d + 1) 0) := by
 have HN := Aside0.mk hN
 have HP := Aside0.mk hP
 clear hN hP
 have hmk := print_make (P := Try.prog) 34 3 .i64 8 Try.underlying34 info3 (by decide) (d + 1) (by omega)
 rw [show ((d + 1 : Nat) : Int) = (d : Int) + 1 from by omega] at hmk
 have hw1 : IntKind.i64.wrap ((d : Int) + 1) = (d : Int) + 1 := IntWalk.i64_in _ (by omega)
 have hw2 : IntKind.i64.wrap ((N : Int) - (p : Int)) = (inner : Int) := by rw [show (N : Int) - (p : Int) = (inner : Int) from by omega]; exact IntWalk.i64_in _ (by omega)
 have hw3 : IntKind.i64.wrap (inner : Int) = (inner : Int) := IntWalk.i64_in _ (by omega)
 have HW3 := Aside0.mk hw3
 clear hw3
 have hu58 := Try.underlying58
 go_enter Try.func83, Try.ntmps83
 go_upto_region 1 with (fail)
 go_cut [7] (fun v7 wc => ∃ g vv, v7 = .pointer (some ⟨g, 0, none⟩) ∧ Aside0 (Below w.heap.size w wc) ∧ Aside0 (EsAt wc w.heap.size g b d inner (.slice none 0 0) (.slice none 0 0) (.slice none 0 0) vv 0 (d + 1) [] [] [] (List.replicate (d + 1) 0)))
 case first =>
  go_region_with (first | (go_at_call 55; (with_reducible refine (spec_esNodes.calls kk b d N _ HN.out).mono ?_); rintro e w' ⟨rfl, ⟨nd, rfl⟩⟩) | (go_at_call 59; (with_reducible refine (spec_esPower.calls kk b d p _ HP.out).mono ?_); rintro e w' ⟨rfl, ⟨nd, rfl⟩⟩))
  all_goals go_wp2_with (fail)
  all_goals go_meet
  case rel => exact ⟨_, _, rfl, ⟨by repeat (first | exact Below.refl _ _ | apply bA_ | apply bN_)⟩, ⟨by rw [HW3.out]; exact (EsAt.made w b d inner w.heap.size (Nat.le_refl _) hd).heap_eq rfl⟩⟩
  case rel => exact ⟨_, _, rfl, ⟨by repeat (first | exact Below.refl _ _ | apply bA_ | apply bN_)⟩, ⟨by rw [HW3.out]; exact (EsAt.made w b d inner w.heap.size (Nat.le_refl _) hd).heap_eq rfl⟩⟩
  case rel => exact ⟨_, _, rfl, ⟨by repeat (first | exact Below.refl _ _ | apply bA_ | apply bN_)⟩, ⟨by rw [HW3.out]; exact (EsAt.made w b d inner w.heap.size (Nat.le_refl _) hd).heap_eq rfl⟩⟩
 case rest =>
  obtain ⟨g, vv, rfl, HB, HF⟩ := hcut
  go_wp2_with (fail)
  go_loopg [8] inner (fun kq v8 wr => ∃ (i : Nat) (vr : Value), v8 = .int .i64 (i : Int) ∧ Aside0 (i + kq = inner) ∧ Aside0 (Below w.heap.size w wr) ∧ Aside0 (EsAt wr w.heap.size g b d inner vr (.slice none 0 0) (.slice none 0 0) vv i (d + 1) (List.replicate i k) [] [] (List.replicate (d + 1) 0)))
  case atStart => exact ⟨0, _, rfl, ⟨by omega⟩, HB, HF⟩
  case round =>
   clear HB HF
   obtain ⟨i, vr, rfl, HI, HB, HF⟩ := hrel
   have c2 := blk_cell HF.out.blk 2
   have c3 := blk_cell HF.out.blk 3
   simp at c2 c3
   by_cases hlt : i < inner
   rotate_left
   ·have hi : i = inner := by have := HI.out; omega
    subst hi
    go_wp2_with (fail)
    go_ret
    exact ⟨_, _, _, rfl, HB.out, HF.out⟩
   have hin : inner ≤ 200 := by omega
   have ws := HB.out.size
   have HO := HF.out.r
   have e1 : (ints (List.replicate i k)).length = i := by simp [ints]
   obtain ⟨A0, m0, rfl⟩ := own_slice HO
   have HO' : wr.ownsRow w.heap.size 3 1 (.slice A0 i m0) (ints (List.replicate i k)).length (nums .i64 (ints (List.replicate i k))) := by rw [e1]; exact HO
   have E1 := Aside0.mk e1
   clear e1 HO
   go_wp2_with (at_builtin; refine print_append_num (w0 := w) w.heap.size rfl (.tmp 35) (.tmp 37) 34 3 .i64 8 rfl Try.underlying34 info3 (by decide) _ (ints (List.replicate i k)) (k : Int) rfl rfl HO' HB.out ws (by rw [E1.out]; omega) ?_)
   intro v1 w1 hown hbel hg hat
   replace hown : w1.ownsRow w.heap.size 3 1 v1 ((ints (List.replicate i k)).length + 1) (nums .i64 (ints (List.replicate i k) ++ [(k : Int)])) := by simpa using hown
   have h4 := HF.out.appR (n := k) hown hg hat rfl
   rw [E1.out] at hown
   obtain ⟨A1, m1, rfl⟩ := own_slice hown
   obtain ⟨hb1, F1⟩ := h4
   have F1 := Aside0.mk F1
   have B1 := Aside0.mk (hbel.setCell (p := ⟨g, 3, none⟩) HF.out.hg (.slice A1 (i + 1) m1))
   clear hown hbel hg hat HO' E1 ws HF HB c2 c3
   have k3 := blk_cell hb1 3
   have z3 := kF_ hb1 3
   simp at k3
   clear hb1
   go_wp2_with (fail)
   have HK := HI.out
   go_roundg (gk - 1)
   case measure => omega
   case rel => exact ⟨i + 1, _, by go_num, ⟨by omega⟩, B1, ⟨by have := F1.out; rw [← List.replicate_succ'] at this; exact this⟩⟩
def EsOut (w : World) (b d inner : Nat) (S : Es.St) (e' : Ending) (w' : World) : Prop := ∃ g vr ve vt vv, e' = .returned (.pointer (some ⟨g, 0, none⟩)) ∧ Below w.heap.size w w' ∧
   EsAt w' w.heap.size g b d inner vr ve vt vv inner (d + 1) S.rot S.ends S.trips S.vis
set_option maxHeartbeats 4000000 in
set_option maxRecDepth 100000 in
theorem go_calls (kk b d inner k N p n : Nat) (S : Es.St) (w : World) (hN : spec_esNodes.f kk (b : Int) (d : Int) = some (N : Int)) (hP : spec_esPower.f kk (b : Int) (d : Int) = some (p : Int)) (hNp : N = inner + p) (hN2 : N ≤ 130) (hd : d ≤ 90) (hk : k ≤ 3)
  (hb : b ≤ 3) (hb2 : 2 ≤ b) (hi0 : 0 < inner) (hn : n ≤ 1000) (hS : Es.chips b inner n (Es.start d inner k) = some S) :
  Calls Try.prog 63 #[.int .i64 (b : Int), .int .i64 (d : Int), .int .i64 (k : Int), .int .i64 (n : Int)] w (EsOut w b d inner S) := by
 have HS := Aside0.mk hS
 clear hS
 have HC := start_calls kk b d inner k N p w hN hP hNp hN2 (by omega) hk
 have HC := Aside0.mk HC
 clear hN hP
 go_enter Try.func63, Try.ntmps63
 go_wp2_with (go_at_call 83; refine HC.out.mono ?_; rintro e' w1 ⟨g, vr, vv, rfl, hB, hF⟩; have HB := Aside0.mk hB; have HF := Aside0.mk hF; clear hB hF)
 go_loopg [10] n (fun kq v10 wr => ∃ (i : Nat) (vr1 ve1 vt1 vv1 : Value) (s : Es.St), v10 = .int .i64 (i : Int) ∧ Aside0 (i + kq = n ∧ Es.chips b inner kq s = some S ∧ s.ends.length = i ∧ s.trips.length = i) ∧ Aside0 (Below w.heap.size w wr) ∧
  Aside0 (EsAt wr w.heap.size g b d inner vr1 ve1 vt1 vv1 inner (d + 1) s.rot s.ends s.trips s.vis))
 case atStart => exact ⟨0, _, _, _, _, Es.start d inner k, rfl, ⟨by omega, HS.out, rfl, rfl⟩, HB, HF⟩
 case round =>
  clear HB HF HS HC
  obtain ⟨i, vr1, ve1, vt1, vv1, s, rfl, HI, HB, HF⟩ := hrel
  by_cases hlt : i < n
  rotate_left
  ·have h0 : gk = 0 := by have := HI.out.1; omega
   subst h0
   have hs := HI.out.2.1
   simp only [Es.chips] at hs
   have hs := Option.some.inj hs
   subst hs
   go_wp2_with (fail)
   go_ret
   exact ⟨_, _, _, _, _, rfl, HB.out, HF.out⟩
  obtain ⟨kq, rfl⟩ : ∃ m, gk = m + 1 := ⟨gk - 1, by have := HI.out.1; omega⟩
  have hc := HI.out.2.1
  simp only [Es.chips] at hc
  cases hch : Es.chip b inner s.rot s.vis with
  | none => rw [hch] at hc; cases hc
  | some q =>
  obtain ⟨e, st, rot1, vis1⟩ := q
  rw [hch] at hc
  have HC2 := Aside0.mk hc
  have HC1 := Aside0.mk hch
  clear hc hch
  go_wp2_with (go_at_call 84; refine (chip_calls w.heap.size g b d inner vr1 ve1 vt1 vv1 (d + 1) s.rot s.ends s.trips s.vis e st rot1 vis1 _ hb hb2 (by omega) hi0 (by omega) (by have := HI.out; omega) (by have := HI.out; omega) HF.out HC1.out).mono ?_; rintro e' w2 ⟨rfl, hB, ve2, vt2, hF⟩; have HB2 := Aside0.mk (HB.out.trans hB); have HF2 := Aside0.mk hF; clear hB hF)
  go_roundg kq
  case measure => omega
  case rel => exact ⟨i + 1, _, _, _, _, ⟨rot1, vis1, s.ends ++ [Es.endN e], s.trips ++ [st]⟩, by go_num, ⟨by have := HI.out; omega, HC2.out, by have := HI.out; simp; omega, by have := HI.out; simp; omega⟩, HB2, HF2⟩
end Go.Proofs.Ytmechelmnpoddaa.H7
namespace Go.Proofs.Ytmechelmnpoddaa.H7
open Go.RowKit YtmechelmnpoddaaW.PrintWords YtmechelmnpoddaaW.PrintLast YtmechelmnpoddaaW.PrintMore
open A7
open Es (nth)
def branch (b d : Int) : Prop := (b = 2 ∧ 1 ≤ d ∧ d ≤ 6) ∨ (b = 3 ∧ 1 ≤ d ∧ d ≤ 4)
instance (b d : Int) : Decidable (branch b d) := by unfold branch; infer_instance
def asked (b d k n : Int) : Bool := decide (branch b d ∧ 0 ≤ k ∧ k ≤ b ∧ 0 ≤ n ∧ n ≤ 200)
theorem in_no (a lo hi : Int) (h : ¬ (lo ≤ a ∧ a ≤ hi)) : spec_l1In.f a lo hi = some false ∧ impl_in.f a lo hi = some false := by
 unfold spec_l1In.f impl_in.f
 by_cases h1 : lo ≤ a
 rotate_left
 ·simp [h1]
 have h2 : ¬ a ≤ hi := fun h2 => h ⟨h1, h2⟩
 simp [h1, h2]
theorem in_yes (a lo hi : Int) (h : lo ≤ a ∧ a ≤ hi) : spec_l1In.f a lo hi = some true ∧ impl_in.f a lo hi = some true := by
 unfold spec_l1In.f impl_in.f
 simp [h.1, h.2]
theorem in_eq (a lo hi : Int) : spec_l1In.f a lo hi = some (decide (lo ≤ a ∧ a ≤ hi)) ∧ impl_in.f a lo hi = some (decide (lo ≤ a ∧ a ≤ hi)) := by
 by_cases h : lo ≤ a ∧ a ≤ hi
 ·rw [(in_yes a lo hi h).1, (in_yes a lo hi h).2]; simp [h]
 rw [(in_no a lo hi h).1, (in_no a lo hi h).2]; simp [h]
theorem nodes_of (b d : Int) : ∃ N : Nat, spec_esNodes.f 30 b d = some (N : Int) ∧ (0 < N ↔ branch b d) ∧ impl_isBranching.f 30 b d = some (decide (branch b d)) := by
 by_cases h : (2 ≤ b ∧ b ≤ 3) ∧ (1 ≤ d ∧ d ≤ 6)
 ·have h0 : b = 2 ∨ b = 3 := by omega
  have h1 : d = 1 ∨ d = 2 ∨ d = 3 ∨ d = 4 ∨ d = 5 ∨ d = 6 := by omega
  rcases h0 with rfl | rfl <;> rcases h1 with rfl | rfl | rfl | rfl | rfl | rfl
  ·exact ⟨3, by decide +kernel, by decide, by decide +kernel⟩
  ·exact ⟨7, by decide +kernel, by decide, by decide +kernel⟩
  ·exact ⟨15, by decide +kernel, by decide, by decide +kernel⟩
  ·exact ⟨31, by decide +kernel, by decide, by decide +kernel⟩
  ·exact ⟨63, by decide +kernel, by decide, by decide +kernel⟩
  ·exact ⟨127, by decide +kernel, by decide, by decide +kernel⟩
  ·exact ⟨4, by decide +kernel, by decide, by decide +kernel⟩
  ·exact ⟨13, by decide +kernel, by decide, by decide +kernel⟩
  ·exact ⟨40, by decide +kernel, by decide, by decide +kernel⟩
  ·exact ⟨121, by decide +kernel, by decide, by decide +kernel⟩
  ·exact ⟨0, by decide +kernel, by decide, by decide +kernel⟩
  ·exact ⟨0, by decide +kernel, by decide, by decide +kernel⟩
 have hb : ¬ branch b d := by unfold branch; omega
 refine ⟨0, ?_, by simp [hb], ?_⟩
 ·unfold spec_esNodes.f
  by_cases h0 : 2 ≤ b ∧ b ≤ 3
  rotate_left
  ·rw [(in_no _ _ _ h0).1]
   simp [spec_esNodes.j0]
  have h1 : ¬ (1 ≤ d ∧ d ≤ 6) := fun h1 => h ⟨h0, h1⟩
  rw [(in_yes _ _ _ h0).1, (in_no _ _ _ h1).1]
  simp [spec_esNodes.j0]
 ·unfold impl_isBranching.f
  by_cases h0 : 2 ≤ b ∧ b ≤ 3
  rotate_left
  ·rw [(in_no _ _ _ h0).2]
   simp [hb]
  have h1 : ¬ (1 ≤ d ∧ d ≤ 6) := fun h1 => h ⟨h0, h1⟩
  rw [(in_yes _ _ _ h0).2, (in_no _ _ _ h1).2]
  simp [hb]
theorem asked_eq (b d k n : Int) : spec_esAsked.f 30 b d k n = some (asked b d k n) := by
 obtain ⟨N, h1, h2, _⟩ := nodes_of b d
 unfold spec_esAsked.f asked
 rw [h1, (in_eq k 0 b).1, (in_eq n 0 200).1]
 by_cases hb : branch b d
 rotate_left
 ·have hN : ¬ ((N : Int) > 0) := by intro h; exact hb (h2.1 (by omega))
  have hb' : ¬ (branch b d ∧ 0 ≤ k ∧ k ≤ b ∧ 0 ≤ n ∧ n ≤ 200) := fun h => hb h.1
  simp only [Option.bind_some]
  rw [if_neg hN, decide_eq_false hb']
 have hN : (N : Int) > 0 := by have := h2.2 hb; omega
 simp only [Option.bind_some]
 rw [if_pos hN]
 by_cases hk : 0 ≤ k ∧ k ≤ b
 rotate_left
 ·have hk' : ¬ (branch b d ∧ 0 ≤ k ∧ k ≤ b ∧ 0 ≤ n ∧ n ≤ 200) := fun h => hk ⟨h.2.1, h.2.2.1⟩
  simp [decide_eq_false hk, decide_eq_false hk']
 by_cases hn : 0 ≤ n ∧ n ≤ 200
 ·simp [hb, hk, hn]
 have hn' : ¬ (branch b d ∧ 0 ≤ k ∧ k ≤ b ∧ 0 ≤ n ∧ n ≤ 200) := fun h => hn h.2.2.2
 simp [decide_eq_true hk, decide_eq_false hn, decide_eq_false hn']
def outS (b d k n : Int) : Es.St := match Es.chips b.toNat (Es.inner b.toNat d.toNat) n.toNat (Es.start d.toNat (Es.inner b.toNat d.toNat) k.toNat) with
 | some s => s
 | none => ⟨[], [], [], []⟩
theorem branch_tree {b d : Int} (h : branch b d) : ∃ b1 d1 : Nat, b = b1 ∧ d = d1 ∧ (b1, d1) ∈ Es.trees := by
 unfold branch at h
 refine ⟨b.toNat, d.toNat, by omega, by omega, ?_⟩
 have h0 : (b = 2 ∧ (d = 1 ∨ d = 2 ∨ d = 3 ∨ d = 4 ∨ d = 5 ∨ d = 6)) ∨ (b = 3 ∧ (d = 1 ∨ d = 2 ∨ d = 3 ∨ d = 4)) := by omega
 rcases h0 with ⟨rfl, rfl | rfl | rfl | rfl | rfl | rfl⟩ | ⟨rfl, rfl | rfl | rfl | rfl⟩ <;> decide
structure Tree (b d inner N p : Nat) : Prop where
 nodes : spec_esNodes.f 30 (b : Int) (d : Int) = some (N : Int)
 power : spec_esPower.f 30 (b : Int) (d : Int) = some (p : Int)
 sum : N = inner + p
 few : N ≤ 130
 b3 : b ≤ 3
 b2 : 2 ≤ b
 i0 : 0 < inner
 d6 : d ≤ 6
 d1 : 1 ≤ d
 first : impl_nodesOf.f 30 (b : Int) (d - 1 : Int) = some (inner : Int)
theorem tree_is (b d : Nat) (h : (b, d) ∈ Es.trees) : ∃ N p, Tree b d (Es.inner b d) N p := by
 simp only [Es.trees, List.mem_cons, Prod.mk.injEq, List.mem_nil_iff, or_false] at h
 rcases h with ⟨rfl, rfl⟩ | ⟨rfl, rfl⟩ | ⟨rfl, rfl⟩ | ⟨rfl, rfl⟩ | ⟨rfl, rfl⟩ | ⟨rfl, rfl⟩ | ⟨rfl, rfl⟩ | ⟨rfl, rfl⟩ | ⟨rfl, rfl⟩ | ⟨rfl, rfl⟩
 ·exact ⟨3, 2, by decide +kernel, by decide +kernel, by decide, by decide, by decide, by decide, by decide, by decide, by decide, by decide +kernel⟩
 ·exact ⟨7, 4, by decide +kernel, by decide +kernel, by decide, by decide, by decide, by decide, by decide, by decide, by decide, by decide +kernel⟩
 ·exact ⟨15, 8, by decide +kernel, by decide +kernel, by decide, by decide, by decide, by decide, by decide, by decide, by decide, by decide +kernel⟩
 ·exact ⟨31, 16, by decide +kernel, by decide +kernel, by decide, by decide, by decide, by decide, by decide, by decide, by decide, by decide +kernel⟩
 ·exact ⟨63, 32, by decide +kernel, by decide +kernel, by decide, by decide, by decide, by decide, by decide, by decide, by decide, by decide +kernel⟩
 ·exact ⟨127, 64, by decide +kernel, by decide +kernel, by decide, by decide, by decide, by decide, by decide, by decide, by decide, by decide +kernel⟩
 ·exact ⟨4, 3, by decide +kernel, by decide +kernel, by decide, by decide, by decide, by decide, by decide, by decide, by decide, by decide +kernel⟩
 ·exact ⟨13, 9, by decide +kernel, by decide +kernel, by decide, by decide, by decide, by decide, by decide, by decide, by decide, by decide +kernel⟩
 ·exact ⟨40, 27, by decide +kernel, by decide +kernel, by decide, by decide, by decide, by decide, by decide, by decide, by decide, by decide +kernel⟩
 ·exact ⟨121, 81, by decide +kernel, by decide +kernel, by decide, by decide, by decide, by decide, by decide, by decide, by decide, by decide +kernel⟩
theorem asked_tree {b d k n : Int} (h : asked b d k n = true) : ∃ b1 d1 k1 n1 N p : Nat, b = b1 ∧ d = d1 ∧ k = k1 ∧ n = n1 ∧ (b1, d1) ∈ Es.trees ∧ k1 ≤ b1 ∧ n1 ≤ 200 ∧ Tree b1 d1 (Es.inner b1 d1) N p ∧
  Es.chips b1 (Es.inner b1 d1) n1 (Es.start d1 (Es.inner b1 d1) k1) = some (outS b d k n) := by
 have h' : branch b d ∧ 0 ≤ k ∧ k ≤ b ∧ 0 ≤ n ∧ n ≤ 200 := by simpa [asked] using h
 obtain ⟨hb, h1, h2, h3, h4⟩ := h'
 obtain ⟨b1, d1, rfl, rfl, ht⟩ := branch_tree hb
 obtain ⟨N, p, hT⟩ := tree_is b1 d1 ht
 obtain ⟨s, hs⟩ := Es.end_of b1 d1 k.toNat n.toNat ht (by omega) (by omega)
 refine ⟨b1, d1, k.toNat, n.toNat, N, p, rfl, rfl, by omega, by omega, ht, by omega, by omega, hT, ?_⟩
 unfold outS
 rw [Int.toNat_natCast, Int.toNat_natCast, hs]
theorem go_asked (b d k n : Int) (w : World) (h : asked b d k n = true) : ∃ b1 d1, Calls Try.prog 63 #[.int .i64 b, .int .i64 d, .int .i64 k, .int .i64 n] w (EsOut w b1 d1 (Es.inner b1 d1) (outS b d k n)) := by
 obtain ⟨b1, d1, k1, n1, N, p, rfl, rfl, rfl, rfl, ht, hk, hn, hT, hc⟩ := asked_tree h
 exact ⟨b1, d1, go_calls 30 b1 d1 _ k1 N p n1 _ w hT.nodes hT.power hT.sum hT.few (by have := hT.d6; omega) (by have := hT.b3; omega) hT.b3 hT.b2 hT.i0 (by omega) hc⟩
theorem own_R {w : World} {base n : Nat} {v : Value} {l : List Nat} (h : w.ownsRow base 3 1 v n (nums .i64 (ints l))) : Kd.R (Kd.int .i64) 3 w base (fun _ => True) v (ints l) := by
 have hl := row_len h
 refine Kd.R_of_own ?_ (fun _ _ => trivial)
 rw [ints_length, hl]
 exact h
def SlOut (w : World) (l : List Int) (ok : Bool) (e : Ending) (w' : World) : Prop :=
 ∃ v0_ : Value, e = .returned (.tuple #[v0_, .bool ok]) ∧ Kd.R (Kd.int .i64) 3 w' w.heap.size (fun _ => True) v0_ l ∧ Below w.heap.size w w'
theorem slout_no (w w' : World) (h : Below w.heap.size w w') : SlOut w [] false (.returned (.tuple #[.slice none 0 0, .bool false])) w' := ⟨_, rfl, Kd.R_nil _ _ _ _ _, h⟩
def spec_EscapeList.f (a0 a1 a2 a3 : Int) : Option (List Int × Bool) := some (if asked a0 a1 a2 a3 = true then ints (outS a0 a1 a2 a3).ends else [], asked a0 a1 a2 a3)
set_option maxHeartbeats 4000000 in
set_option maxRecDepth 100000 in
theorem spec_EscapeList.walk (a0 a1 a2 a3 : Int) (w : World) : Calls Try.prog 30 #[.int .i64 a0, .int .i64 a1, .int .i64 a2, .int .i64 a3] w (SlOut w (if asked a0 a1 a2 a3 = true then ints (outS a0 a1 a2 a3).ends else []) (asked a0 a1 a2 a3)) := by
 have HA := Aside0.mk (asked_eq a0 a1 a2 a3)
 cases hq : asked a0 a1 a2 a3 with
 | false =>
  rw [hq] at HA
  rw [if_neg (by decide)]
  clear hq
  go_enter Try.func30, Try.ntmps30
  go_wp2_with (go_at_call 61; (with_reducible refine (spec_esAsked.calls 30 a0 a1 a2 a3 false _ HA.out).mono ?_); rintro e w' ⟨rfl, ⟨nd, rfl⟩⟩)
  go_ret2
  exact slout_no _ _ (bN_ (Below.refl _ _) _)
 | true =>
  have HB := fun W => go_asked a0 a1 a2 a3 W hq
  have HB := Aside0.mk HB
  rw [hq] at HA
  rw [if_pos rfl]
  clear hq
  go_enter Try.func30, Try.ntmps30
  go_wp2_with (first | (go_at_call 61; (with_reducible refine (spec_esAsked.calls 30 a0 a1 a2 a3 true _ HA.out).mono ?_); rintro e w' ⟨rfl, ⟨nd, rfl⟩⟩) | (go_at_call 63; obtain ⟨b1, d1, hc⟩ := HB.out (w.drewN nd); refine hc.mono ?_; rintro e w1 ⟨g, vr, ve, vt, vv, rfl, hB, hF⟩; have HF := Aside0.mk hF; have HL := Aside0.mk ((bN_ (Below.refl w.heap.size w) nd).trans hB); clear hB hF; have c := blk_cell HF.out.blk 4; simp at c))
  go_ret2
  exact ⟨_, rfl, own_R HF.out.e, HL.out⟩
theorem spec_EscapeList.calls (a0 a1 a2 a3 : Int) (r1 : List Int) (r2 : Bool) (w : World) (h : spec_EscapeList.f a0 a1 a2 a3 = some (r1, r2)) :
  Calls Try.prog 30 #[.int .i64 a0, .int .i64 a1, .int .i64 a2, .int .i64 a3] w fun e w' => ∃ v0_ : Value, e = .returned (.tuple #[v0_, .bool r2]) ∧ Kd.R (Kd.int .i64) 3 w' w.heap.size (fun _ => True) v0_ r1 ∧ Below w.heap.size w w' := by
 have e := Option.some.inj h
 injection e with e1 e2
 subst e1 e2
 exact spec_EscapeList.walk a0 a1 a2 a3 w
end Go.Proofs.Ytmechelmnpoddaa.H7
namespace Go.Proofs.Ytmechelmnpoddaa.H7
open Go.RowKit YtmechelmnpoddaaW.PrintWords YtmechelmnpoddaaW.PrintLast YtmechelmnpoddaaW.PrintMore
open A7
open Es (nth)
structure FoAt (w : World) (base g : Nat) (b d : Nat) (vr ve vt vv : Value) (nr nv : Nat) (rot ends trips vis : List Nat) : Prop where
 blk : w.heap[g]? = some (.cells #[.int .i64 (b : Int), .int .i64 (d : Int), vr, ve, vt, vv] 67 (0, 0))
 hg : base ≤ g
 r : w.ownsRow base 3 1 vr nr (nums .i64 (ints rot))
 e : w.ownsRow base 3 1 ve ends.length (nums .i64 (ints ends))
 t : w.ownsRow base 3 1 vt trips.length (nums .i64 (ints trips))
 v : w.ownsRow base 3 1 vv nv (nums .i64 (ints vis))
 re : NeRow vr ve
 rt : NeRow vr vt
 rv : NeRow vr vv
 et : NeRow ve vt
 ev : NeRow ve vv
 tv : NeRow vt vv
variable {w : World} {base g b d gr cr gv cv nr nv : Nat} {ve vt vr vv : Value} {rot ends trips vis : List Nat}
theorem FoAt.gr_ne (h : FoAt w base g b d (.slice (some ⟨gr, 0, none⟩) nr cr) ve vt vv nr nv rot ends trips vis) : gr ≠ g := by
 have := own_ne h.r h.blk (by decide)
 rintro rfl
 exact this rfl
theorem FoAt.gv_ne (h : FoAt w base g b d vr ve vt (.slice (some ⟨gv, 0, none⟩) nv cv) nr nv rot ends trips vis) : gv ≠ g := by
 have := own_ne h.v h.blk (by decide)
 rintro rfl
 exact this rfl
theorem FoAt.gr_gv (h : FoAt w base g b d (.slice (some ⟨gr, 0, none⟩) nr cr) ve vt (.slice (some ⟨gv, 0, none⟩) nv cv) nr nv rot ends trips vis) : gr ≠ gv := by
 have := h.rv gr rfl
 rintro rfl
 exact this rfl
theorem FoAt.setR (h : FoAt w base g b d (.slice (some ⟨gr, 0, none⟩) nr cr) ve vt vv nr nv rot ends trips vis) (i x : Nat) :
  FoAt (w.setCell ⟨gr, i, none⟩ (.int .i64 (x : Int))) base g b d (.slice (some ⟨gr, 0, none⟩) nr cr) ve vt vv nr nv (rot.set i x) ends trips vis where
 blk := blk_far h.blk (p := ⟨gr, i, none⟩) (fun e => h.gr_ne e.symm) _
 hg := h.hg
 r := row_set h.r i x
 e := row_far h.e (h.re gr rfl) _
 t := row_far h.t (h.rt gr rfl) _
 v := row_far h.v (h.rv gr rfl) _
 re := h.re
 rt := h.rt
 rv := h.rv
 et := h.et
 ev := h.ev
 tv := h.tv
theorem FoAt.setV (h : FoAt w base g b d vr ve vt (.slice (some ⟨gv, 0, none⟩) nv cv) nr nv rot ends trips vis) (i x : Nat) :
  FoAt (w.setCell ⟨gv, i, none⟩ (.int .i64 (x : Int))) base g b d vr ve vt (.slice (some ⟨gv, 0, none⟩) nv cv) nr nv rot ends trips (vis.set i x) where
 blk := blk_far h.blk (p := ⟨gv, i, none⟩) (fun e => h.gv_ne e.symm) _
 hg := h.hg
 r := row_far h.r (fun e => (ne_symm h.rv) gv rfl e) _
 e := row_far h.e (fun e => (ne_symm h.ev) gv rfl e) _
 t := row_far h.t (fun e => (ne_symm h.tv) gv rfl e) _
 v := row_set h.v i x
 re := h.re
 rt := h.rt
 rv := h.rv
 et := h.et
 ev := h.ev
 tv := h.tv
theorem FoAt.drew (h : FoAt w base g b d vr ve vt vv nr nv rot ends trips vis) : FoAt w.drew base g b d vr ve vt vv nr nv rot ends trips vis :=
 ⟨h.blk, h.hg, h.r, h.e, h.t, h.v, h.re, h.rt, h.rv, h.et, h.ev, h.tv⟩
theorem FoAt.heap_eq {w' : World} (h : FoAt w base g b d vr ve vt vv nr nv rot ends trips vis) (e : w'.heap = w.heap) : FoAt w' base g b d vr ve vt vv nr nv rot ends trips vis :=
 ⟨by rw [e]; exact h.blk, h.hg, own_move h.r (fun k _ => by rw [e]), own_move h.e (fun k _ => by rw [e]), own_move h.t (fun k _ => by rw [e]), own_move h.v (fun k _ => by rw [e]), h.re, h.rt, h.rv, h.et, h.ev, h.tv⟩
structure FoMid (w : World) (base g b d : Nat) (vr ve vt vv : Value) (nr nv : Nat) (rot vis : List Nat) (ve1 vt1 : Value) (ends trips : List Nat) : Prop where
 blk : w.heap[g]? = some (.cells #[.int .i64 (b : Int), .int .i64 (d : Int), vr, ve, vt, vv] 67 (0, 0))
 hg : base ≤ g
 r : w.ownsRow base 3 1 vr nr (nums .i64 (ints rot))
 e : w.ownsRow base 3 1 ve1 ends.length (nums .i64 (ints ends))
 t : w.ownsRow base 3 1 vt1 trips.length (nums .i64 (ints trips))
 v : w.ownsRow base 3 1 vv nv (nums .i64 (ints vis))
 re : NeRow vr ve1
 rt : NeRow vr vt1
 rv : NeRow vr vv
 et : NeRow ve1 vt1
 ev : NeRow ve1 vv
 tv : NeRow vt1 vv
theorem FoMid.of (h : FoAt w base g b d vr ve vt vv nr nv rot ends trips vis) : FoMid w base g b d vr ve vt vv nr nv rot vis ve vt ends trips :=
 ⟨h.blk, h.hg, h.r, h.e, h.t, h.v, h.re, h.rt, h.rv, h.et, h.ev, h.tv⟩
theorem FoMid.alloc {ve1 vt1 : Value} (h : FoMid w base g b d vr ve vt vv nr nv rot vis ve1 vt1 ends trips) (o : Obj) : FoMid (w.alloc o) base g b d vr ve vt vv nr nv rot vis ve1 vt1 ends trips :=
 ⟨kA_ h.blk o, h.hg, h.r.alloc o, h.e.alloc o, h.t.alloc o, h.v.alloc o, h.re, h.rt, h.rv, h.et, h.ev, h.tv⟩
theorem FoMid.drew {ve1 vt1 : Value} (h : FoMid w base g b d vr ve vt vv nr nv rot vis ve1 vt1 ends trips) : FoMid w.drew base g b d vr ve vt vv nr nv rot vis ve1 vt1 ends trips :=
 ⟨h.blk, h.hg, h.r, h.e, h.t, h.v, h.re, h.rt, h.rv, h.et, h.ev, h.tv⟩
theorem hat_of {v v1 : Value} {H g1 n cap : Nat} (hv : v1 = .slice (some ⟨g1, 0, none⟩) n cap) (h : v.ownBlock = some g1 ∨ g1 = H) : v1.ownBlock = v.ownBlock ∨ ∃ b, v1.ownBlock = some b ∧ H ≤ b := by
 subst hv
 rcases h with h | h
 ·exact .inl h.symm
 ·exact .inr ⟨g1, rfl, by omega⟩
theorem FoMid.appE {ve1 vt1 v1 : Value} {w1 : World} {n : Nat} (h : FoMid w base g b d vr ve vt vv nr nv rot vis ve1 vt1 ends trips)
  (hown : w1.ownsRow base 3 1 v1 (ends.length + 1) (nums .i64 (ints ends) ++ [.int .i64 (n : Int)])) (hg : w.grownBy w1 ve1.ownBlock) (hat : v1.ownBlock = ve1.ownBlock ∨ ∃ b, v1.ownBlock = some b ∧ w.heap.size ≤ b) :
  FoMid w1 base g b d vr ve vt vv nr nv rot vis v1 vt1 (ends ++ [n]) trips := by
 have hb := blk_grown h.blk hg (own_ne h.e h.blk (by decide))
 have e1 : nums .i64 (ints ends) ++ [.int .i64 (n : Int)] = nums .i64 (ints (ends ++ [n])) := by simp [ints, nums]
 have e2 : ends.length + 1 = (ends ++ [n]).length := by simp
 rw [e1, e2] at hown
 exact ⟨hb, h.hg, own_other h.r hg (ne_other (ne_symm h.re)), hown, own_other h.t hg (ne_other h.et), own_other h.v hg (ne_other h.ev), ne_append' h.re hat h.r, h.rt, h.rv, ne_append h.et hat h.t, ne_append h.ev hat h.v, h.tv⟩
theorem FoMid.appT {ve1 vt1 v1 : Value} {w1 : World} {n : Nat} (h : FoMid w base g b d vr ve vt vv nr nv rot vis ve1 vt1 ends trips)
  (hown : w1.ownsRow base 3 1 v1 (trips.length + 1) (nums .i64 (ints trips) ++ [.int .i64 (n : Int)])) (hg : w.grownBy w1 vt1.ownBlock) (hat : v1.ownBlock = vt1.ownBlock ∨ ∃ b, v1.ownBlock = some b ∧ w.heap.size ≤ b) :
  FoMid w1 base g b d vr ve vt vv nr nv rot vis ve1 v1 ends (trips ++ [n]) := by
 have hb := blk_grown h.blk hg (own_ne h.t h.blk (by decide))
 have e1 : nums .i64 (ints trips) ++ [.int .i64 (n : Int)] = nums .i64 (ints (trips ++ [n])) := by simp [ints, nums]
 have e2 : trips.length + 1 = (trips ++ [n]).length := by simp
 rw [e1, e2] at hown
 exact ⟨hb, h.hg, own_other h.r hg (ne_other (ne_symm h.rt)), own_other h.e hg (ne_other (ne_symm h.et)), hown, own_other h.v hg (ne_other h.tv), h.re, ne_append' h.rt hat h.r, h.rv, ne_append' h.et hat h.e, h.ev, ne_append h.tv hat h.v⟩
theorem FoMid.done {ve1 vt1 : Value} (h : FoMid w base g b d vr ve vt vv nr nv rot vis ve1 vt1 ends trips) :
  FoAt ((w.setCell ⟨g, 3, none⟩ ve1).setCell ⟨g, 4, none⟩ vt1) base g b d vr ve1 vt1 vv nr nv rot ends trips vis := by
 have q1 := own_ne h.r h.blk (by decide)
 have q2 := own_ne h.e h.blk (by decide)
 have q3 := own_ne h.t h.blk (by decide)
 have q4 := own_ne h.v h.blk (by decide)
 refine ⟨?_, h.hg, row_far (row_far h.r (fun e => q1 e.symm) _) (fun e => q1 e.symm) _, row_far (row_far h.e (fun e => q2 e.symm) _) (fun e => q2 e.symm) _, row_far (row_far h.t (fun e => q3 e.symm) _) (fun e => q3 e.symm) _, row_far (row_far h.v (fun e => q4 e.symm) _) (fun e => q4 e.symm) _, h.re, h.rt, h.rv, h.et, h.ev, h.tv⟩
 have := blk_set (blk_set h.blk 3 ve1) 4 vt1
 simpa using this
def Stays (w w1 : World) (row : Option Nat) : Prop := ∀ (ad : Addr) (u : Value), ad.block < w.heap.size → some ad.block ≠ row → w.cell? ad = some u → w1.cell? ad = some u
section
variable {P : Program} {ops : Array Oper} {o : Oper} {a : Act} {K : Act → World → Prop} {Q : Exit → Act → World → Prop} {E : Prop} {ve1 vt1 : Value}
theorem step_appE (hgd : o.guard = none) (s x : Operand) (ho : o.op = .call { callee := .builtin .append, args := #[s, x], argTypes := #[34, 34] }) (ht : P.underlying 34 = some (.slice 3)) (hinfo : (P.info? 3).map (fun i => (i.zero, i.size, i.bytes)) = some (some (.int .i64 0), 1, 8))
  (n B : Nat) (hs : a.eval s = ve1) (hx : a.eval x = .slice (some ⟨B, 0, none⟩) 1 1) (h : FoMid w base g b d vr ve vt vv nr nv rot vis ve1 vt1 ends trips) (hbase : base ≤ w.heap.size) (hl : ends.length ≤ 1000000)
  (hbox : w.cell? ⟨B, 0, none⟩ = some (.int .i64 (n : Int)))
  (k : ∀ g1 cap1 w1, FoMid w1 base g b d vr ve vt vv nr nv rot vis (.slice (some ⟨g1, 0, none⟩) (ends.length + 1) cap1) vt1 (ends ++ [n]) trips → w.heap.size ≤ w1.heap.size → Stays w w1 ve1.ownBlock → Below base w w1 → K (a.put o.dst (.slice (some ⟨g1, 0, none⟩) (ends.length + 1) cap1)) w1) :
  if Region.wanted o (yielded ops a.tmps) = true then Oper.wp P o a w K Q else E := by
 obtain ⟨i0, hi0, hz0, hz1, hz2⟩ := info_parts hinfo
 refine step_append_lies w hgd s x 34 ho base 3 i0 (.int .i64 0) 1 8 ht hi0 hz0 hz1 hz2 rfl (by omega) ve1 ends.length (nums .i64 (ints ends)) hs h.e ⟨B, 0, none⟩ 1 1 [.int .i64 (n : Int)] hx rfl ?_ (by intro u hu; simp at hu; subst hu; rfl) (by omega) (by unfold maxLen; omega) (by omega) hbase _ rfl ?_
 ·intro j u hj
  match j, hj with
  | 0, hj => simp at hj; subst hj; simpa [Addr.add] using hbox
 ·intro g1 cap1 w1 hown hg hat hlt
  exact k g1 cap1 w1 (h.appE hown hg (hat_of rfl hat)) hg.size (fun ad u h1 h2 h3 => (hg.cell_far ad h1 h2).trans h3) ((Below.refl base w).grown hg hbase (own_base h.e))
theorem step_appT (hgd : o.guard = none) (s x : Operand) (ho : o.op = .call { callee := .builtin .append, args := #[s, x], argTypes := #[34, 34] }) (ht : P.underlying 34 = some (.slice 3)) (hinfo : (P.info? 3).map (fun i => (i.zero, i.size, i.bytes)) = some (some (.int .i64 0), 1, 8))
  (n B : Nat) (hs : a.eval s = vt1) (hx : a.eval x = .slice (some ⟨B, 0, none⟩) 1 1) (h : FoMid w base g b d vr ve vt vv nr nv rot vis ve1 vt1 ends trips) (hbase : base ≤ w.heap.size) (hl : trips.length ≤ 1000000)
  (hbox : w.cell? ⟨B, 0, none⟩ = some (.int .i64 (n : Int)))
  (k : ∀ g1 cap1 w1, FoMid w1 base g b d vr ve vt vv nr nv rot vis ve1 (.slice (some ⟨g1, 0, none⟩) (trips.length + 1) cap1) ends (trips ++ [n]) → w.heap.size ≤ w1.heap.size → Stays w w1 vt1.ownBlock → Below base w w1 → K (a.put o.dst (.slice (some ⟨g1, 0, none⟩) (trips.length + 1) cap1)) w1) :
  if Region.wanted o (yielded ops a.tmps) = true then Oper.wp P o a w K Q else E := by
 obtain ⟨i0, hi0, hz0, hz1, hz2⟩ := info_parts hinfo
 refine step_append_lies w hgd s x 34 ho base 3 i0 (.int .i64 0) 1 8 ht hi0 hz0 hz1 hz2 rfl (by omega) vt1 trips.length (nums .i64 (ints trips)) hs h.t ⟨B, 0, none⟩ 1 1 [.int .i64 (n : Int)] hx rfl ?_ (by intro u hu; simp at hu; subst hu; rfl) (by omega) (by unfold maxLen; omega) (by omega) hbase _ rfl ?_
 ·intro j u hj
  match j, hj with
  | 0, hj => simp at hj; subst hj; simpa [Addr.add] using hbox
 ·intro g1 cap1 w1 hown hg hat hlt
  exact k g1 cap1 w1 (h.appT hown hg (hat_of rfl hat)) hg.size (fun ad u h1 h2 h3 => (hg.cell_far ad h1 h2).trans h3) ((Below.refl base w).grown hg hbase (own_base h.t))
end
def T16 : Bool × List (List Nat × List Nat) := (true, [([], []), ([], []), ([], []), ([2], [2]), ([3], [3]), ([4], [4]), ([], []), ([6], [6]), ([5, 7], [5, 7]), ([], []), ([9], [9]), ([10], [10]), ([11], [11]), ([], []), ([13], [13]), ([12, 14, 8], [12, 14]), ([0, 0, 2, 3, 4, 5, 6, 7, 8, 12, 15], [0]), ([16, 0, 2, 3, 4, 5, 6, 7, 8, 12, 15], [16]), ([17, 8, 15, 0, 2, 3, 4, 5, 6, 7, 8, 12, 15], [8, 17]), ([1, 0, 1, 2, 3, 4, 5, 6, 7, 8, 9, 10, 11, 12, 13, 14, 15, 16, 17, 18], [1]), ([19, 0, 1, 2, 3, 4, 5, 6, 7, 8, 9, 10, 11, 12, 13, 14, 15, 16, 17, 18], [19]), ([20, 15, 18, 0, 1, 2, 3, 4, 5, 6, 7, 8, 9, 10, 11, 12, 13, 14, 15, 16, 17, 18], [15, 20])])
def B16 : List Nat := [0, 0, 0, 4, 12, 28, 0, 64, 252, 0, 512, 1536, 3584, 0, 8192, 32764, 65533, 131069, 262141, 524287, 1048575, 2097151]
theorem lastS_ {P : Program} {md : Region.Mode} {ops : Array Oper} {Q : Exit → Act → World → Prop} {S : World → Prop} {ds : List Nat} {i : Nat} {oi : Oper} {fuel : Nat} {l : Array Bool} {a : Act} {w w1 : World} (l' : Array Bool) (hi : ops[i]? = some oi) (hN : oi.dst = none) (hc : readyB md ops l l' i = true) (hd : i ∈ ds)
  (hw : Region.wanted oi (yielded ops a.tmps) = true) (hrun : (execOp a.eval oi).run P w = .ok .skip w1) (h : wpAnyLast P md ops Q S ds fuel l' a w1) : wpAnyLast P md ops Q S ds (fuel + 1) l a w :=
 last_ l' hi hN hc hd fun _ hK => skip_ hw hN hrun (hK.out _ _ h)
theorem tab16 : rtab .any (opsOf Try.f86 16) = T16 := by kernel_rfl
theorem bits16 : waitsOk T16.2 B16 = true := by kernel_rfl
theorem cell_kept_alloc {w : World} {B : Nat} {u : Value} (h : w.cell? ⟨B, 0, none⟩ = some u) (o : Obj) : (w.alloc o).cell? ⟨B, 0, none⟩ = some u :=
 (World.cell?_alloc_lt _ _ _ (World.block_lt_of_cell? w _ h)).trans h
set_option maxHeartbeats 4000000 in
set_option maxRecDepth 100000 in
theorem fchip_calls (base g b d inner : Nat) (vr ve vt vv : Value) (nv : Nat) (rot ends trips vis : List Nat) (e : Bool) (s : Nat) (rot1 vis1 : List Nat) (w : World)
  (hb : b ≤ 3) (hb2 : 2 ≤ b) (hi : inner ≤ 130) (hi0 : 0 < inner) (hnv : nv ≤ 100) (hel : ends.length ≤ 100000) (htl : trips.length ≤ 100000)
  (hfi : impl_nodesOf.f 30 (b : Int) ((d : Int) - 1) = some (inner : Int)) (hd : d ≤ 100)
  (H : FoAt w base g b d vr ve vt vv inner nv rot ends trips vis) (hrun : Es.chip b inner rot vis = some (e, s, rot1, vis1)) :
  Calls Try.prog 86 #[.pointer (some ⟨g, 0, none⟩)] w fun e' w' => e' = .returned (.tuple #[]) ∧ Below base w w' ∧
   ∃ ve1 vt1, FoAt w' base g b d vr ve1 vt1 vv inner nv rot1 (ends ++ [Es.endN e]) (trips ++ [s]) vis1 := by
 have hrun' : 0 < vis.length ∧ nth vis 0 < 100000 ∧ Es.run b inner 5000 0 0 0 rot (vis.set 0 (nth vis 0 + 1)) = some (e, s, rot1, vis1) := by
  unfold Es.chip at hrun
  split at hrun
  ·rename_i h; exact ⟨h.1, h.2, hrun⟩
  ·cases hrun
 clear hrun
 obtain ⟨hv0', hv1, hrun⟩ := hrun'
 have R0 := Aside0.mk hrun
 clear hrun
 have F := Aside0.mk H
 have hv0 : 0 < nv := by rw [← row_len H.v]; exact hv0'
 clear H hv0'
 obtain ⟨gr, cr, rfl, hgr, hcr⟩ := F.out.r.form (by omega)
 obtain ⟨gv, cv, rfl, hgv, hcv⟩ := F.out.v.form (by omega)
 have HN : ∀ W, Calls Try.prog 57 #[.int .i64 (b : Int), .int .i64 ((d : Int) - 1)] W fun e w' => e = .returned (.int .i64 (inner : Int)) ∧ ∃ m, w' = W.drewN m := fun W =>
  (impl_nodesOf.calls 30 (b : Int) ((d : Int) - 1) (inner : Int) W hfi).mono fun e w' h => ⟨h.1, h.2.out⟩
 have HN := Aside0.mk HN
 clear hfi
 have c0 := blk_cell F.out.blk 0
 have c1 := blk_cell F.out.blk 1
 simp at c0 c1
 have hw1 : IntKind.i64.wrap ((d : Int) - 1) = (d : Int) - 1 := IntWalk.i64_in _ (by omega)
 go_enter Try.func86, Try.ntmps86
 go_wp2_with (fail)
 go_quiet ((go_at_call 57; exact Calls.quiet_of (HN.out _)))
 have F0 := Aside0.mk (F.out.heap_eq (w' := w.drewN nq) rfl)
 have B0 := Aside0.mk (bN_ (Below.refl base w) nq)
 generalize w.drewN nq = W at *
 clear F c0 c1 hw1 HN
 have c5 := blk_cell F0.out.blk 5
 have fz : ∀ i, W.frozen? ⟨g, i, none⟩ = false := kF_ F0.out.blk
 have cv0 := (row_at F0.out.v 0 (by omega)).1
 have fv0 := (row_at F0.out.v 0 (by omega)).2
 have n1 := F0.out.gr_ne
 have n2 := F0.out.gv_ne
 have n3 := F0.out.gr_gv
 simp at c5
 go_wp2_with (fail)
 clear c5 fz cv0 fv0
 have F1 := Aside0.mk (F0.out.setV 0 (nth vis 0 + 1))
 have BW := Aside0.mk (B0.out.setCell (p := ⟨gv, 0, none⟩) hgv (.int .i64 ((nth vis 0 : Int) + 1)))
 rw [show ((nth vis 0 + 1 : Nat) : Int) = (nth vis 0 : Int) + 1 from by omega] at F1
 go_loopg [2, 3, 4] 5000 (fun kq v2 v3 v4 wr => ∃ (at_ lv : Int) (st : Nat) (rot2 vis2 : List Nat), v2 = .int .i64 at_ ∧ v3 = .int .i64 lv ∧ v4 = .int .i64 (st : Int) ∧
  Aside0 ((∃ a l : Nat, at_ = (a : Int) ∧ lv = (l : Int) ∧ Es.run b inner kq a l st rot2 vis2 = some (e, s, rot1, vis1)) ∨ (at_ = -1 ∧ e = false ∧ s = st ∧ rot1 = rot2 ∧ vis1 = vis2)) ∧
  Aside0 (FoAt wr base g b d (.slice (some ⟨gr, 0, none⟩) inner cr) ve vt (.slice (some ⟨gv, 0, none⟩) nv cv) inner nv rot2 ends trips vis2) ∧ Aside0 (Below base w wr))
 case atStart => exact ⟨0, 0, 0, rot, _, rfl, rfl, rfl, ⟨.inl ⟨0, 0, rfl, rfl, R0.out⟩⟩, F1, BW⟩
 case round =>
  clear F0 F1 BW R0 B0
  obtain ⟨at_, lv, st, rot2, vis2, rfl, rfl, rfl, HR, HF, HB⟩ := hrel
  rcases HR.out with ⟨a, l, rfl, rfl, hr⟩ | ⟨rfl, he, hs, h1, h2⟩
  ·clear HR
   have c0 := blk_cell HF.out.blk 0
   have c2 := blk_cell HF.out.blk 2
   have c5 := blk_cell HF.out.blk 5
   simp at c0 c2 c5
   cases gk with
   | zero => exact absurd hr (by simp [Es.run])
   | succ k =>
   simp only [Es.run] at hr
   by_cases h1 : a < inner
   ·rw [if_pos h1] at hr
    by_cases h2 : st < 100000 ∧ nth rot2 a ≤ b
    rotate_left
    ·rw [if_neg h2] at hr; cases hr
    rw [if_pos h2] at hr
    obtain ⟨h2, h3⟩ := h2
    have ca := (row_at HF.out.r a h1).1
    have fa := (row_at HF.out.r a h1).2
    have hA := Aside0.mk hr
    clear hr
    go_wp2_with (fail)
    go_region
    obtain ⟨r, er, er', hrb⟩ := rot_step (nth rot2 a) b
    rw [er'] at hA
    simp only [er]
    clear er er'
    have ER := Aside0.mk (HF.out.setR a r).drew
    have BR := Aside0.mk ((HB.out.setCell (p := ⟨gr, a, none⟩) hgr (.int .i64 (r : Int))).drew)
    have hab := mul_small (a := a) (b := b) (by omega) hb
    by_cases h4 : 0 < r
    ·have hr := hA.out
     rw [if_pos h4] at hr
     by_cases h5 : l + 1 < vis2.length ∧ nth vis2 (l + 1) < 100000
     rotate_left
     ·rw [if_neg h5] at hr; cases hr
     rw [if_pos h5] at hr
     have hA2 := Aside0.mk hr
     rw [row_len HF.out.v] at h5
     have cl := (row_at HF.out.v (l + 1) h5.1).1
     have fl := (row_at HF.out.v (l + 1) h5.1).2
     obtain ⟨h6, h7⟩ := h5
     clear hr hA
     go_wp2_with (fail)
     go_roundg k
     case measure => omega
     case rel => exact ⟨_, _, st + 1, _, _, rfl, rfl, by go_num, ⟨.inl ⟨_, _, (by push_cast; rfl), (by push_cast; rfl), hA2.out⟩⟩, ⟨by have := ER.out.setV (l + 1) (nth vis2 (l + 1) + 1); exact this⟩, ⟨by have := BR.out.setCell (p := ⟨gv, l + 1, none⟩) hgv (.int .i64 ((nth vis2 (l + 1) + 1 : Nat) : Int)); exact this⟩⟩
    have hr := hA.out
    rw [if_neg h4] at hr
    by_cases h8 : a = 0
    ·rw [if_pos h8] at hr
     subst h8
     by_cases h9 : l = 0
     rotate_left
     ·rw [if_neg h9] at hr; cases hr
     rw [if_pos h9] at hr
     subst h9
     have hA2 := Aside0.mk hr
     clear hr hA
     go_wp2_with (fail)
     go_roundg k
     case measure => omega
     case rel => exact ⟨-1, _, st + 1, _, _, rfl, rfl, by go_num, ⟨.inr ⟨rfl, by have := hA2.out; simp at this; simp [this]⟩⟩, ⟨ER.out⟩, BR⟩
    rw [if_neg h8] at hr
    by_cases h10 : 0 < l ∧ l - 1 < vis2.length ∧ nth vis2 (l - 1) < 100000
    rotate_left
    ·rw [if_neg h10] at hr; cases hr
    rw [if_pos h10] at hr
    have hA2 := Aside0.mk hr
    rw [row_len HF.out.v] at h10
    have cl := (row_at HF.out.v (l - 1) h10.2.1).1
    have fl := (row_at HF.out.v (l - 1) h10.2.1).2
    obtain ⟨h5, h6, h7⟩ := h10
    have hd : (((a - 1) / b : Nat) : Int) = ((a : Int) - 1) / (b : Int) := by rw [Int.natCast_ediv, Int.natCast_sub (by omega)]; rfl
    have hl1 : ((l - 1 : Nat) : Int) = (l : Int) - 1 := by omega
    have hq0 : 0 ≤ ((a : Int) - 1) / (b : Int) := by rw [← hd]; exact Int.natCast_nonneg _
    have hq1 : ((((a : Int) - 1) / (b : Int)) == -1) = false := by rw [beq_eq_false_iff_ne]; omega
    have hq2 : ((((a : Int) - 1) / (b : Int)) != -1) = true := by rw [bne_iff_ne]; omega
    have HD := Aside0.mk hd
    have HL1 := Aside0.mk hl1
    clear hr hA hd hl1
    go_wp2_with (fail)
    go_roundg k
    case measure => omega
    case rel => exact ⟨_, _, st + 1, _, _, rfl, rfl, by go_num, ⟨.inl ⟨_, _, HD.out.symm, HL1.out.symm, hA2.out⟩⟩, ⟨by have := ER.out.setV (l - 1) (nth vis2 (l - 1) + 1); exact this⟩, ⟨by have := BR.out.setCell (p := ⟨gv, l - 1, none⟩) hgv (.int .i64 ((nth vis2 (l - 1) + 1 : Nat) : Int)); exact this⟩⟩
   rw [if_neg h1] at hr
   obtain ⟨rfl, rfl, rfl, rfl⟩ : true = e ∧ st = s ∧ rot2 = rot1 ∧ vis2 = vis1 := by simpa using hr
   clear hr
   have FINE := Aside0.mk (rfl : Es.endN true = 1)
   have MM := Aside0.mk (FoMid.of HF.out).drew
   have HH := Aside0.mk (below_drew HB.out)
   have c3 := (blk_cell MM.out.blk 3).trans rfl
   have c4 := (blk_cell MM.out.blk 4).trans rfl
   have HHs : base ≤ wr.drew.heap.size := (by have := HB.out.size; have := HF.out.hg; have := blk_lt HF.out.blk; show base ≤ wr.heap.size; omega)
   have HWs : wr.heap.size ≤ wr.drew.heap.size := Nat.le_refl _
   have LE : ∀ k, ve.ownBlock = some k → k < wr.heap.size := own_lt HF.out.e
   have LT : ∀ k, vt.ownBlock = some k → k < wr.heap.size := own_lt HF.out.t
   clear c0 c2 c5 HF HB
   go_upto_region 16 with (fail)
   refine start_ (n := 22) (S := fun w' => w'.cell? ⟨g, 3, none⟩ = some ve ∧ w'.cell? ⟨g, 4, none⟩ = some vt) (ds := [18, 21]) #[false, false, false, false, false, false, false, false, false, false, false, false, false, false, false, false, false, false, false, false, false, false] (by kernel_rfl) rfl rfl ⟨c3, c4⟩ (fun hHeld => ?_)
   refine with_tabW tab16 bits16 (fun HT_ HW_ => ?_)
   clear c3 c4
   generalize wr.drew = W9 at MM HH HHs HWs hHeld ⊢
   refine pu_ (i := 0) (N := some 100) (v := ?_) (a' := ?_) HT_.out rfl rfl (Or.inl ⟨by rfl, ?_⟩) ?_ ?_
   rotate_left
   ·intro w'
    go_simp
    with_reducible rfl
   rotate_left
   ·simp only [sp_]
    rfl
   refine pu_ (i := 1) (N := some 101) (v := ?_) (a' := ?_) HT_.out rfl rfl (Or.inl ⟨by rfl, ?_⟩) ?_ ?_
   rotate_left
   ·intro w'
    go_simp
    with_reducible rfl
   rotate_left
   ·simp only [sp_]
    rfl
   refine pu_ (i := 2) (N := some 102) (v := ?_) (a' := ?_) HT_.out rfl rfl (Or.inl ⟨by rfl, ?_⟩) ?_ ?_
   rotate_left
   ·intro w'
    go_simp
    with_reducible rfl
   rotate_left
   ·simp only [sp_]
    rfl
   refine pu_ (i := 3) (N := some 103) (v := ?_) (a' := ?_) HT_.out rfl rfl (Or.inl ⟨by rfl, ?_⟩) ?_ ?_
   rotate_left
   ·intro w'
    go_simp
    with_reducible rfl
   rotate_left
   ·simp only [sp_]
    rfl
   refine pu_ (i := 4) (N := some 104) (v := ?_) (a' := ?_) HT_.out rfl rfl (Or.inl ⟨by rfl, ?_⟩) ?_ ?_
   rotate_left
   ·intro w'
    go_simp
    with_reducible rfl
   rotate_left
   ·simp only [sp_]
    rfl
   refine tk_ (i := 5) (N := some 105) (v := ?_) (a' := ?_) HT_.out HW_.out rfl rfl (Or.inl ⟨by rfl, ?_⟩) hHeld ?_ ?_
   rotate_left
   ·intro w' hSw
    obtain ⟨hS3, hS4⟩ := hSw
    go_simp
    with_reducible rfl
   rotate_left
   ·simp only [sp_]
    rfl
   refine pu_ (i := 6) (N := some 106) (v := ?_) (a' := ?_) HT_.out rfl rfl (Or.inl ⟨by rfl, ?_⟩) ?_ ?_
   rotate_left
   ·intro w'
    go_simp
    with_reducible rfl
   rotate_left
   ·simp only [sp_]
    rfl
   refine pu_ (i := 9) (N := some 109) (v := ?_) (a' := ?_) HT_.out rfl rfl (Or.inl ⟨by rfl, ?_⟩) ?_ ?_
   rotate_left
   ·intro w'
    go_simp
    with_reducible rfl
   rotate_left
   ·simp only [sp_]
    rfl
   refine pu_ (i := 10) (N := some 110) (v := ?_) (a' := ?_) HT_.out rfl rfl (Or.inl ⟨by rfl, ?_⟩) ?_ ?_
   rotate_left
   ·intro w'
    go_simp
    with_reducible rfl
   rotate_left
   ·simp only [sp_]
    rfl
   refine pu_ (i := 11) (N := some 111) (v := ?_) (a' := ?_) HT_.out rfl rfl (Or.inl ⟨by rfl, ?_⟩) ?_ ?_
   rotate_left
   ·intro w'
    go_simp
    with_reducible rfl
   rotate_left
   ·simp only [sp_]
    rfl
   refine tk_ (i := 12) (N := some 112) (v := ?_) (a' := ?_) HT_.out HW_.out rfl rfl (Or.inl ⟨by rfl, ?_⟩) hHeld ?_ ?_
   rotate_left
   ·intro w' hSw
    obtain ⟨hS3, hS4⟩ := hSw
    go_simp
    with_reducible rfl
   rotate_left
   ·simp only [sp_]
    rfl
   refine pu_ (i := 13) (N := some 113) (v := ?_) (a' := ?_) HT_.out rfl rfl (Or.inl ⟨by rfl, ?_⟩) ?_ ?_
   rotate_left
   ·intro w'
    go_simp
    with_reducible rfl
   rotate_left
   ·simp only [sp_]
    rfl
   refine two_ (i := 7) (j := 14) (Ni := some 107) (Nj := some 114) #[true, true, true, true, true, true, true, true, false, true, true, true, true, true, false, false, false, false, false, false, false, false] #[true, true, true, true, true, true, true, false, false, true, true, true, true, true, true, false, false, false, false, false, false, false] rfl rfl rfl rfl (two_of HT_.out (by kernel_rfl)) (by decide) (by decide) (fun K hK => ?_) (fun K hK => ?_)
   ·skip
    refine value_ (v := .slice (some ⟨W9.heap.size, 0, none⟩) 1 1) (w1 := W9.alloc (.cells #[.int .i64 ((1 : Nat) : Int)] 3)) (by rfl) rfl (by go_simp) ?_
    have b1 : (W9.alloc (.cells #[.int .i64 ((1 : Nat) : Int)] 3)).cell? ⟨W9.heap.size, 0, none⟩ = some (.int .i64 ((1 : Nat) : Int)) := (blk_cell (blk_new _ _) 0).trans rfl
    have b2 : W9.heap.size < (W9.alloc (.cells #[.int .i64 ((1 : Nat) : Int)] 3)).heap.size := by simp
    have b3 : ∀ k, ve.ownBlock = some k → k < wr.heap.size := LE
    have m1 := Aside0.mk (MM.out.alloc (.cells #[.int .i64 ((1 : Nat) : Int)] 3))
    have h1 := Aside0.mk (HH.out.alloc HHs (.cells #[.int .i64 ((1 : Nat) : Int)] 3))
    have s1 : base ≤ (W9.alloc (.cells #[.int .i64 ((1 : Nat) : Int)] 3)).heap.size ∧ wr.heap.size ≤ (W9.alloc (.cells #[.int .i64 ((1 : Nat) : Int)] 3)).heap.size := by simp; omega
    have g1 : wr.heap.size ≤ W9.heap.size := HWs
    clear MM HH HHs HWs hHeld
    generalize W9.alloc (.cells #[.int .i64 ((1 : Nat) : Int)] 3) = X1 at *
    generalize W9.heap.size = BE at *
    have MM := m1
    have HH := h1
    have HHs := s1.1
    have HWs := s1.2
    have boxE := b1
    have ltbE := b2
    have gebE := g1
    clear b1 b2 b3 m1 h1 s1 g1
    refine hK.out _ _ ⟨(blk_cell MM.out.blk 3).trans rfl, (blk_cell MM.out.blk 4).trans rfl⟩ (fun hHeld => ?_)
    clear hK K
    (try simp only [Act.put, List.setIfInBounds_toArray, List.set_cons_zero, List.set_cons_succ])
    refine two_ (i := 8) (j := 14) (Ni := some 108) (Nj := some 114) #[true, true, true, true, true, true, true, true, true, true, true, true, true, true, false, false, false, false, false, false, false, false] #[true, true, true, true, true, true, true, true, false, true, true, true, true, true, true, false, false, false, false, false, false, false] rfl rfl rfl rfl (two_of HT_.out (by kernel_rfl)) (by decide) (by decide) (fun K hK => ?_) (fun K hK => ?_)
    ·skip
     refine step_appE rfl (.tmp 105) (.tmp 107) rfl Try.underlying34 info3 _ BE rfl rfl MM.out HHs (by omega) boxE ?_
     intro gE capE X2 m1 s1 st1 h1
     have m1 := Aside0.mk m1
     have h1 := Aside0.mk (HH.out.trans h1)
     have s2 : base ≤ X2.heap.size ∧ wr.heap.size ≤ X2.heap.size := by omega
     clear MM HH HHs HWs hHeld st1 s1 boxE ltbE
     have MM := m1
     have HH := h1
     have HHs := s2.1
     have HWs := s2.2
     clear m1 h1 s2
     refine hK.out _ _ ⟨(blk_cell MM.out.blk 3).trans rfl, (blk_cell MM.out.blk 4).trans rfl⟩ (fun hHeld => ?_)
     clear hK K
     (try simp only [Act.put, List.setIfInBounds_toArray, List.set_cons_zero, List.set_cons_succ])
     refine one_ (i := 14) (N := some 114) #[true, true, true, true, true, true, true, true, true, true, true, true, true, true, true, false, false, false, false, false, false, false] rfl rfl (one_of HT_.out (by kernel_rfl)) (by decide) (fun K hK => ?_)
     refine value_ (v := .slice (some ⟨X2.heap.size, 0, none⟩) 1 1) (w1 := X2.alloc (.cells #[.int .i64 (st : Int)] 3)) (by rfl) rfl (by go_simp) ?_
     have b1 : (X2.alloc (.cells #[.int .i64 (st : Int)] 3)).cell? ⟨X2.heap.size, 0, none⟩ = some (.int .i64 (st : Int)) := (blk_cell (blk_new _ _) 0).trans rfl
     have b2 : X2.heap.size < (X2.alloc (.cells #[.int .i64 (st : Int)] 3)).heap.size := by simp
     have b3 : ∀ k, ve.ownBlock = some k → k < wr.heap.size := LE
     have m1 := Aside0.mk (MM.out.alloc (.cells #[.int .i64 (st : Int)] 3))
     have h1 := Aside0.mk (HH.out.alloc HHs (.cells #[.int .i64 (st : Int)] 3))
     have s1 : base ≤ (X2.alloc (.cells #[.int .i64 (st : Int)] 3)).heap.size ∧ wr.heap.size ≤ (X2.alloc (.cells #[.int .i64 (st : Int)] 3)).heap.size := by simp; omega
     have g1 : wr.heap.size ≤ X2.heap.size := HWs
     clear MM HH HHs HWs hHeld
     generalize X2.alloc (.cells #[.int .i64 (st : Int)] 3) = X3 at *
     generalize X2.heap.size = BT at *
     have MM := m1
     have HH := h1
     have HHs := s1.1
     have HWs := s1.2
     have boxT := b1
     have ltbT := b2
     have gebT := g1
     clear b1 b2 b3 m1 h1 s1 g1
     refine hK.out _ _ ⟨(blk_cell MM.out.blk 3).trans rfl, (blk_cell MM.out.blk 4).trans rfl⟩ (fun hHeld => ?_)
     clear hK K
     (try simp only [Act.put, List.setIfInBounds_toArray, List.set_cons_zero, List.set_cons_succ])
     refine one_ (i := 15) (N := some 115) #[true, true, true, true, true, true, true, true, true, true, true, true, true, true, true, true, false, false, false, false, false, false] rfl rfl (one_of HT_.out (by kernel_rfl)) (by decide) (fun K hK => ?_)
     refine step_appT rfl (.tmp 112) (.tmp 114) rfl Try.underlying34 info3 _ BT rfl rfl MM.out HHs (by omega) boxT ?_
     intro gT capT X4 m1 s1 st1 h1
     have m1 := Aside0.mk m1
     have h1 := Aside0.mk (HH.out.trans h1)
     have s2 : base ≤ X4.heap.size ∧ wr.heap.size ≤ X4.heap.size := by omega
     clear MM HH HHs HWs hHeld st1 s1 boxT ltbT
     have MM := m1
     have HH := h1
     have HHs := s2.1
     have HWs := s2.2
     clear m1 h1 s2
     refine hK.out _ _ ⟨(blk_cell MM.out.blk 3).trans rfl, (blk_cell MM.out.blk 4).trans rfl⟩ (fun hHeld => ?_)
     clear hK K
     (try simp only [Act.put, List.setIfInBounds_toArray, List.set_cons_zero, List.set_cons_succ])
     refine pu_ (i := 16) (N := some 116) (v := ?_) (a' := ?_) HT_.out rfl rfl (Or.inl ⟨by rfl, ?_⟩) ?_ ?_
     rotate_left
     ·intro w'
      go_simp
      with_reducible rfl
     rotate_left
     ·simp only [sp_]
      rfl
     refine pu_ (i := 17) (N := some 117) (v := ?_) (a' := ?_) HT_.out rfl rfl (Or.inl ⟨by rfl, ?_⟩) ?_ ?_
     rotate_left
     ·intro w'
      go_simp
      with_reducible rfl
     rotate_left
     ·simp only [sp_]
      rfl
     have z3 := (blk_cell MM.out.blk 3).trans rfl
     have y3 := kF_ MM.out.blk 3
     have z4 := (blk_cell (blk_set MM.out.blk 3 (.slice (some ⟨gE, 0, none⟩) (ends.length + 1) capE)) 4).trans rfl
     have y4 := kF_ (blk_set MM.out.blk 3 (.slice (some ⟨gE, 0, none⟩) (ends.length + 1) capE)) 4
     have hFin := Aside0.mk MM.out.done
     have hBel := Aside0.mk ((HH.out.setCell (p := ⟨g, 3, none⟩) MM.out.hg (.slice (some ⟨gE, 0, none⟩) (ends.length + 1) capE)).setCell (p := ⟨g, 4, none⟩) MM.out.hg (.slice (some ⟨gT, 0, none⟩) (trips.length + 1) capT))
     refine lastS_ (i := 18) (w1 := X4.setCell ⟨g, 3, none⟩ (.slice (some ⟨gE, 0, none⟩) (ends.length + 1) capE)) #[true, true, true, true, true, true, true, true, true, true, true, true, true, true, true, true, true, true, true, false, false, false] rfl rfl (one_of HT_.out (by kernel_rfl)) (by decide) (by rfl) ?_ ?_
     ·clear hFin hBel HH MM z4 y4
      go_simp
     clear z3 y3 MM HH
     (try simp only [Act.put, List.setIfInBounds_toArray, List.set_cons_zero, List.set_cons_succ])
     generalize X4.setCell ⟨g, 3, none⟩ (.slice (some ⟨gE, 0, none⟩) (ends.length + 1) capE) = Y at *
     refine pu_ (i := 19) (N := some 118) (v := ?_) (a' := ?_) HT_.out rfl rfl (Or.inl ⟨by rfl, ?_⟩) ?_ ?_
     rotate_left
     ·intro w'
      go_simp
      with_reducible rfl
     rotate_left
     ·simp only [sp_]
      rfl
     refine pu_ (i := 20) (N := some 119) (v := ?_) (a' := ?_) HT_.out rfl rfl (Or.inl ⟨by rfl, ?_⟩) ?_ ?_
     rotate_left
     ·intro w'
      go_simp
      with_reducible rfl
     rotate_left
     ·simp only [sp_]
      rfl
     refine lastS_ (i := 21) (w1 := Y.setCell ⟨g, 4, none⟩ (.slice (some ⟨gT, 0, none⟩) (trips.length + 1) capT)) #[true, true, true, true, true, true, true, true, true, true, true, true, true, true, true, true, true, true, true, true, true, true] rfl rfl (one_of HT_.out (by kernel_rfl)) (by decide) (by rfl) ?_ ?_
     ·clear hFin hBel
      go_simp
     clear z4 y4
     (try simp only [Act.put, List.setIfInBounds_toArray, List.set_cons_zero, List.set_cons_succ])
     refine done_ (done_of HT_.out (by kernel_rfl)) ?_
     try go_wp2_with (fail)
     go_end0
     exact ⟨rfl, hBel.out, _, _, by first | exact hFin.out | (rw [show Es.endN true = 1 from rfl]; exact hFin.out) | (rw [show Es.endN false = 0 from rfl]; exact hFin.out) | (rw [he]; rw [show Es.endN false = 0 from rfl]; exact hFin.out)⟩
    ·skip
     refine value_ (v := .slice (some ⟨X1.heap.size, 0, none⟩) 1 1) (w1 := X1.alloc (.cells #[.int .i64 (st : Int)] 3)) (by rfl) rfl (by go_simp) ?_
     have b1 : (X1.alloc (.cells #[.int .i64 (st : Int)] 3)).cell? ⟨X1.heap.size, 0, none⟩ = some (.int .i64 (st : Int)) := (blk_cell (blk_new _ _) 0).trans rfl
     have b2 : X1.heap.size < (X1.alloc (.cells #[.int .i64 (st : Int)] 3)).heap.size := by simp
     have b3 : ∀ k, ve.ownBlock = some k → k < wr.heap.size := LE
     have b1E' := cell_kept_alloc boxE (.cells #[.int .i64 (st : Int)] 3)
     have b2E' : BE < (X1.alloc (.cells #[.int .i64 (st : Int)] 3)).heap.size := by simp; omega
     have m1 := Aside0.mk (MM.out.alloc (.cells #[.int .i64 (st : Int)] 3))
     have h1 := Aside0.mk (HH.out.alloc HHs (.cells #[.int .i64 (st : Int)] 3))
     have s1 : base ≤ (X1.alloc (.cells #[.int .i64 (st : Int)] 3)).heap.size ∧ wr.heap.size ≤ (X1.alloc (.cells #[.int .i64 (st : Int)] 3)).heap.size := by simp; omega
     have g1 : wr.heap.size ≤ X1.heap.size := HWs
     clear MM HH HHs HWs hHeld boxE ltbE
     generalize X1.alloc (.cells #[.int .i64 (st : Int)] 3) = X5 at *
     generalize X1.heap.size = BT at *
     have MM := m1
     have HH := h1
     have HHs := s1.1
     have HWs := s1.2
     have boxT := b1
     have ltbT := b2
     have gebT := g1
     have boxE := b1E'
     have ltbE := b2E'
     clear b1 b2 b3 m1 h1 s1 g1 b1E' b2E'
     refine hK.out _ _ ⟨(blk_cell MM.out.blk 3).trans rfl, (blk_cell MM.out.blk 4).trans rfl⟩ (fun hHeld => ?_)
     clear hK K
     (try simp only [Act.put, List.setIfInBounds_toArray, List.set_cons_zero, List.set_cons_succ])
     refine one_ (i := 8) (N := some 108) #[true, true, true, true, true, true, true, true, true, true, true, true, true, true, true, false, false, false, false, false, false, false] rfl rfl (one_of HT_.out (by kernel_rfl)) (by decide) (fun K hK => ?_)
     refine step_appE rfl (.tmp 105) (.tmp 107) rfl Try.underlying34 info3 _ BE rfl rfl MM.out HHs (by omega) boxE ?_
     intro gE capE X6 m1 s1 st1 h1
     have b1 := st1 ⟨BT, 0, none⟩ _ ltbT (fun e => by have hq_ : BT < wr.heap.size := LE _ e.symm; omega) boxT
     have b2 : BT < X6.heap.size := by omega
     have m1 := Aside0.mk m1
     have h1 := Aside0.mk (HH.out.trans h1)
     have s2 : base ≤ X6.heap.size ∧ wr.heap.size ≤ X6.heap.size := by omega
     clear MM HH HHs HWs hHeld st1 s1 boxE ltbE boxT ltbT
     have MM := m1
     have HH := h1
     have HHs := s2.1
     have HWs := s2.2
     have boxT := b1
     have ltbT := b2
     clear b1 b2
     clear m1 h1 s2
     refine hK.out _ _ ⟨(blk_cell MM.out.blk 3).trans rfl, (blk_cell MM.out.blk 4).trans rfl⟩ (fun hHeld => ?_)
     clear hK K
     (try simp only [Act.put, List.setIfInBounds_toArray, List.set_cons_zero, List.set_cons_succ])
     refine one_ (i := 15) (N := some 115) #[true, true, true, true, true, true, true, true, true, true, true, true, true, true, true, true, false, false, false, false, false, false] rfl rfl (one_of HT_.out (by kernel_rfl)) (by decide) (fun K hK => ?_)
     refine step_appT rfl (.tmp 112) (.tmp 114) rfl Try.underlying34 info3 _ BT rfl rfl MM.out HHs (by omega) boxT ?_
     intro gT capT X7 m1 s1 st1 h1
     have m1 := Aside0.mk m1
     have h1 := Aside0.mk (HH.out.trans h1)
     have s2 : base ≤ X7.heap.size ∧ wr.heap.size ≤ X7.heap.size := by omega
     clear MM HH HHs HWs hHeld st1 s1 boxT ltbT
     have MM := m1
     have HH := h1
     have HHs := s2.1
     have HWs := s2.2
     clear m1 h1 s2
     refine hK.out _ _ ⟨(blk_cell MM.out.blk 3).trans rfl, (blk_cell MM.out.blk 4).trans rfl⟩ (fun hHeld => ?_)
     clear hK K
     (try simp only [Act.put, List.setIfInBounds_toArray, List.set_cons_zero, List.set_cons_succ])
     refine pu_ (i := 16) (N := some 116) (v := ?_) (a' := ?_) HT_.out rfl rfl (Or.inl ⟨by rfl, ?_⟩) ?_ ?_
     rotate_left
     ·intro w'
      go_simp
      with_reducible rfl
     rotate_left
     ·simp only [sp_]
      rfl
     refine pu_ (i := 17) (N := some 117) (v := ?_) (a' := ?_) HT_.out rfl rfl (Or.inl ⟨by rfl, ?_⟩) ?_ ?_
     rotate_left
     ·intro w'
      go_simp
      with_reducible rfl
     rotate_left
     ·simp only [sp_]
      rfl
     have z3 := (blk_cell MM.out.blk 3).trans rfl
     have y3 := kF_ MM.out.blk 3
     have z4 := (blk_cell (blk_set MM.out.blk 3 (.slice (some ⟨gE, 0, none⟩) (ends.length + 1) capE)) 4).trans rfl
     have y4 := kF_ (blk_set MM.out.blk 3 (.slice (some ⟨gE, 0, none⟩) (ends.length + 1) capE)) 4
     have hFin := Aside0.mk MM.out.done
     have hBel := Aside0.mk ((HH.out.setCell (p := ⟨g, 3, none⟩) MM.out.hg (.slice (some ⟨gE, 0, none⟩) (ends.length + 1) capE)).setCell (p := ⟨g, 4, none⟩) MM.out.hg (.slice (some ⟨gT, 0, none⟩) (trips.length + 1) capT))
     refine lastS_ (i := 18) (w1 := X7.setCell ⟨g, 3, none⟩ (.slice (some ⟨gE, 0, none⟩) (ends.length + 1) capE)) #[true, true, true, true, true, true, true, true, true, true, true, true, true, true, true, true, true, true, true, false, false, false] rfl rfl (one_of HT_.out (by kernel_rfl)) (by decide) (by rfl) ?_ ?_
     ·clear hFin hBel HH MM z4 y4
      go_simp
     clear z3 y3 MM HH
     (try simp only [Act.put, List.setIfInBounds_toArray, List.set_cons_zero, List.set_cons_succ])
     generalize X7.setCell ⟨g, 3, none⟩ (.slice (some ⟨gE, 0, none⟩) (ends.length + 1) capE) = Y at *
     refine pu_ (i := 19) (N := some 118) (v := ?_) (a' := ?_) HT_.out rfl rfl (Or.inl ⟨by rfl, ?_⟩) ?_ ?_
     rotate_left
     ·intro w'
      go_simp
      with_reducible rfl
     rotate_left
     ·simp only [sp_]
      rfl
     refine pu_ (i := 20) (N := some 119) (v := ?_) (a' := ?_) HT_.out rfl rfl (Or.inl ⟨by rfl, ?_⟩) ?_ ?_
     rotate_left
     ·intro w'
      go_simp
      with_reducible rfl
     rotate_left
     ·simp only [sp_]
      rfl
     refine lastS_ (i := 21) (w1 := Y.setCell ⟨g, 4, none⟩ (.slice (some ⟨gT, 0, none⟩) (trips.length + 1) capT)) #[true, true, true, true, true, true, true, true, true, true, true, true, true, true, true, true, true, true, true, true, true, true] rfl rfl (one_of HT_.out (by kernel_rfl)) (by decide) (by rfl) ?_ ?_
     ·clear hFin hBel
      go_simp
     clear z4 y4
     (try simp only [Act.put, List.setIfInBounds_toArray, List.set_cons_zero, List.set_cons_succ])
     refine done_ (done_of HT_.out (by kernel_rfl)) ?_
     try go_wp2_with (fail)
     go_end0
     exact ⟨rfl, hBel.out, _, _, by first | exact hFin.out | (rw [show Es.endN true = 1 from rfl]; exact hFin.out) | (rw [show Es.endN false = 0 from rfl]; exact hFin.out) | (rw [he]; rw [show Es.endN false = 0 from rfl]; exact hFin.out)⟩
   ·skip
    refine value_ (v := .slice (some ⟨W9.heap.size, 0, none⟩) 1 1) (w1 := W9.alloc (.cells #[.int .i64 (st : Int)] 3)) (by rfl) rfl (by go_simp) ?_
    have b1 : (W9.alloc (.cells #[.int .i64 (st : Int)] 3)).cell? ⟨W9.heap.size, 0, none⟩ = some (.int .i64 (st : Int)) := (blk_cell (blk_new _ _) 0).trans rfl
    have b2 : W9.heap.size < (W9.alloc (.cells #[.int .i64 (st : Int)] 3)).heap.size := by simp
    have b3 : ∀ k, ve.ownBlock = some k → k < wr.heap.size := LE
    have m1 := Aside0.mk (MM.out.alloc (.cells #[.int .i64 (st : Int)] 3))
    have h1 := Aside0.mk (HH.out.alloc HHs (.cells #[.int .i64 (st : Int)] 3))
    have s1 : base ≤ (W9.alloc (.cells #[.int .i64 (st : Int)] 3)).heap.size ∧ wr.heap.size ≤ (W9.alloc (.cells #[.int .i64 (st : Int)] 3)).heap.size := by simp; omega
    have g1 : wr.heap.size ≤ W9.heap.size := HWs
    clear MM HH HHs HWs hHeld
    generalize W9.alloc (.cells #[.int .i64 (st : Int)] 3) = X8 at *
    generalize W9.heap.size = BT at *
    have MM := m1
    have HH := h1
    have HHs := s1.1
    have HWs := s1.2
    have boxT := b1
    have ltbT := b2
    have gebT := g1
    clear b1 b2 b3 m1 h1 s1 g1
    refine hK.out _ _ ⟨(blk_cell MM.out.blk 3).trans rfl, (blk_cell MM.out.blk 4).trans rfl⟩ (fun hHeld => ?_)
    clear hK K
    (try simp only [Act.put, List.setIfInBounds_toArray, List.set_cons_zero, List.set_cons_succ])
    refine one_ (i := 7) (N := some 107) #[true, true, true, true, true, true, true, true, false, true, true, true, true, true, true, false, false, false, false, false, false, false] rfl rfl (one_of HT_.out (by kernel_rfl)) (by decide) (fun K hK => ?_)
    refine value_ (v := .slice (some ⟨X8.heap.size, 0, none⟩) 1 1) (w1 := X8.alloc (.cells #[.int .i64 ((1 : Nat) : Int)] 3)) (by rfl) rfl (by go_simp) ?_
    have b1 : (X8.alloc (.cells #[.int .i64 ((1 : Nat) : Int)] 3)).cell? ⟨X8.heap.size, 0, none⟩ = some (.int .i64 ((1 : Nat) : Int)) := (blk_cell (blk_new _ _) 0).trans rfl
    have b2 : X8.heap.size < (X8.alloc (.cells #[.int .i64 ((1 : Nat) : Int)] 3)).heap.size := by simp
    have b3 : ∀ k, ve.ownBlock = some k → k < wr.heap.size := LE
    have b1T' := cell_kept_alloc boxT (.cells #[.int .i64 ((1 : Nat) : Int)] 3)
    have b2T' : BT < (X8.alloc (.cells #[.int .i64 ((1 : Nat) : Int)] 3)).heap.size := by simp; omega
    have m1 := Aside0.mk (MM.out.alloc (.cells #[.int .i64 ((1 : Nat) : Int)] 3))
    have h1 := Aside0.mk (HH.out.alloc HHs (.cells #[.int .i64 ((1 : Nat) : Int)] 3))
    have s1 : base ≤ (X8.alloc (.cells #[.int .i64 ((1 : Nat) : Int)] 3)).heap.size ∧ wr.heap.size ≤ (X8.alloc (.cells #[.int .i64 ((1 : Nat) : Int)] 3)).heap.size := by simp; omega
    have g1 : wr.heap.size ≤ X8.heap.size := HWs
    clear MM HH HHs HWs hHeld boxT ltbT
    generalize X8.alloc (.cells #[.int .i64 ((1 : Nat) : Int)] 3) = X9 at *
    generalize X8.heap.size = BE at *
    have MM := m1
    have HH := h1
    have HHs := s1.1
    have HWs := s1.2
    have boxE := b1
    have ltbE := b2
    have gebE := g1
    have boxT := b1T'
    have ltbT := b2T'
    clear b1 b2 b3 m1 h1 s1 g1 b1T' b2T'
    refine hK.out _ _ ⟨(blk_cell MM.out.blk 3).trans rfl, (blk_cell MM.out.blk 4).trans rfl⟩ (fun hHeld => ?_)
    clear hK K
    (try simp only [Act.put, List.setIfInBounds_toArray, List.set_cons_zero, List.set_cons_succ])
    refine one_ (i := 8) (N := some 108) #[true, true, true, true, true, true, true, true, true, true, true, true, true, true, true, false, false, false, false, false, false, false] rfl rfl (one_of HT_.out (by kernel_rfl)) (by decide) (fun K hK => ?_)
    refine step_appE rfl (.tmp 105) (.tmp 107) rfl Try.underlying34 info3 _ BE rfl rfl MM.out HHs (by omega) boxE ?_
    intro gE capE X10 m1 s1 st1 h1
    have b1 := st1 ⟨BT, 0, none⟩ _ ltbT (fun e => by have hq_ : BT < wr.heap.size := LE _ e.symm; omega) boxT
    have b2 : BT < X10.heap.size := by omega
    have m1 := Aside0.mk m1
    have h1 := Aside0.mk (HH.out.trans h1)
    have s2 : base ≤ X10.heap.size ∧ wr.heap.size ≤ X10.heap.size := by omega
    clear MM HH HHs HWs hHeld st1 s1 boxE ltbE boxT ltbT
    have MM := m1
    have HH := h1
    have HHs := s2.1
    have HWs := s2.2
    have boxT := b1
    have ltbT := b2
    clear b1 b2
    clear m1 h1 s2
    refine hK.out _ _ ⟨(blk_cell MM.out.blk 3).trans rfl, (blk_cell MM.out.blk 4).trans rfl⟩ (fun hHeld => ?_)
    clear hK K
    (try simp only [Act.put, List.setIfInBounds_toArray, List.set_cons_zero, List.set_cons_succ])
    refine one_ (i := 15) (N := some 115) #[true, true, true, true, true, true, true, true, true, true, true, true, true, true, true, true, false, false, false, false, false, false] rfl rfl (one_of HT_.out (by kernel_rfl)) (by decide) (fun K hK => ?_)
    refine step_appT rfl (.tmp 112) (.tmp 114) rfl Try.underlying34 info3 _ BT rfl rfl MM.out HHs (by omega) boxT ?_
    intro gT capT X11 m1 s1 st1 h1
    have m1 := Aside0.mk m1
    have h1 := Aside0.mk (HH.out.trans h1)
    have s2 : base ≤ X11.heap.size ∧ wr.heap.size ≤ X11.heap.size := by omega
    clear MM HH HHs HWs hHeld st1 s1 boxT ltbT
    have MM := m1
    have HH := h1
    have HHs := s2.1
    have HWs := s2.2
    clear m1 h1 s2
    refine hK.out _ _ ⟨(blk_cell MM.out.blk 3).trans rfl, (blk_cell MM.out.blk 4).trans rfl⟩ (fun hHeld => ?_)
    clear hK K
    (try simp only [Act.put, List.setIfInBounds_toArray, List.set_cons_zero, List.set_cons_succ])
    refine pu_ (i := 16) (N := some 116) (v := ?_) (a' := ?_) HT_.out rfl rfl (Or.inl ⟨by rfl, ?_⟩) ?_ ?_
    rotate_left
    ·intro w'
     go_simp
     with_reducible rfl
    rotate_left
    ·simp only [sp_]
     rfl
    refine pu_ (i := 17) (N := some 117) (v := ?_) (a' := ?_) HT_.out rfl rfl (Or.inl ⟨by rfl, ?_⟩) ?_ ?_
    rotate_left
    ·intro w'
     go_simp
     with_reducible rfl
    rotate_left
    ·simp only [sp_]
     rfl
    have z3 := (blk_cell MM.out.blk 3).trans rfl
    have y3 := kF_ MM.out.blk 3
    have z4 := (blk_cell (blk_set MM.out.blk 3 (.slice (some ⟨gE, 0, none⟩) (ends.length + 1) capE)) 4).trans rfl
    have y4 := kF_ (blk_set MM.out.blk 3 (.slice (some ⟨gE, 0, none⟩) (ends.length + 1) capE)) 4
    have hFin := Aside0.mk MM.out.done
    have hBel := Aside0.mk ((HH.out.setCell (p := ⟨g, 3, none⟩) MM.out.hg (.slice (some ⟨gE, 0, none⟩) (ends.length + 1) capE)).setCell (p := ⟨g, 4, none⟩) MM.out.hg (.slice (some ⟨gT, 0, none⟩) (trips.length + 1) capT))
    refine lastS_ (i := 18) (w1 := X11.setCell ⟨g, 3, none⟩ (.slice (some ⟨gE, 0, none⟩) (ends.length + 1) capE)) #[true, true, true, true, true, true, true, true, true, true, true, true, true, true, true, true, true, true, true, false, false, false] rfl rfl (one_of HT_.out (by kernel_rfl)) (by decide) (by rfl) ?_ ?_
    ·clear hFin hBel HH MM z4 y4
     go_simp
    clear z3 y3 MM HH
    (try simp only [Act.put, List.setIfInBounds_toArray, List.set_cons_zero, List.set_cons_succ])
    generalize X11.setCell ⟨g, 3, none⟩ (.slice (some ⟨gE, 0, none⟩) (ends.length + 1) capE) = Y at *
    refine pu_ (i := 19) (N := some 118) (v := ?_) (a' := ?_) HT_.out rfl rfl (Or.inl ⟨by rfl, ?_⟩) ?_ ?_
    rotate_left
    ·intro w'
     go_simp
     with_reducible rfl
    rotate_left
    ·simp only [sp_]
     rfl
    refine pu_ (i := 20) (N := some 119) (v := ?_) (a' := ?_) HT_.out rfl rfl (Or.inl ⟨by rfl, ?_⟩) ?_ ?_
    rotate_left
    ·intro w'
     go_simp
     with_reducible rfl
    rotate_left
    ·simp only [sp_]
     rfl
    refine lastS_ (i := 21) (w1 := Y.setCell ⟨g, 4, none⟩ (.slice (some ⟨gT, 0, none⟩) (trips.length + 1) capT)) #[true, true, true, true, true, true, true, true, true, true, true, true, true, true, true, true, true, true, true, true, true, true] rfl rfl (one_of HT_.out (by kernel_rfl)) (by decide) (by rfl) ?_ ?_
    ·clear hFin hBel
     go_simp
    clear z4 y4
    (try simp only [Act.put, List.setIfInBounds_toArray, List.set_cons_zero, List.set_cons_succ])
    refine done_ (done_of HT_.out (by kernel_rfl)) ?_
    try go_wp2_with (fail)
    go_end0
    exact ⟨rfl, hBel.out, _, _, by first | exact hFin.out | (rw [show Es.endN true = 1 from rfl]; exact hFin.out) | (rw [show Es.endN false = 0 from rfl]; exact hFin.out) | (rw [he]; rw [show Es.endN false = 0 from rfl]; exact hFin.out)⟩
  ·clear HR
   obtain rfl := he
   have FINE := Aside0.mk (rfl : Es.endN false = 0)
   obtain rfl := hs
   obtain rfl := h1
   obtain rfl := h2
   have c0 := blk_cell HF.out.blk 0
   have c2 := blk_cell HF.out.blk 2
   have c5 := blk_cell HF.out.blk 5
   simp at c0 c2 c5
   have MM := Aside0.mk (FoMid.of HF.out).drew
   have HH := Aside0.mk (below_drew HB.out)
   have c3 := (blk_cell MM.out.blk 3).trans rfl
   have c4 := (blk_cell MM.out.blk 4).trans rfl
   have HHs : base ≤ wr.drew.heap.size := (by have := HB.out.size; have := HF.out.hg; have := blk_lt HF.out.blk; show base ≤ wr.heap.size; omega)
   have HWs : wr.heap.size ≤ wr.drew.heap.size := Nat.le_refl _
   have LE : ∀ k, ve.ownBlock = some k → k < wr.heap.size := own_lt HF.out.e
   have LT : ∀ k, vt.ownBlock = some k → k < wr.heap.size := own_lt HF.out.t
   clear c0 c2 c5 HF HB
   go_upto_region 16 with (fail)
   refine start_ (n := 22) (S := fun w' => w'.cell? ⟨g, 3, none⟩ = some ve ∧ w'.cell? ⟨g, 4, none⟩ = some vt) (ds := [18, 21]) #[false, false, false, false, false, false, false, false, false, false, false, false, false, false, false, false, false, false, false, false, false, false] (by kernel_rfl) rfl rfl ⟨c3, c4⟩ (fun hHeld => ?_)
   refine with_tabW tab16 bits16 (fun HT_ HW_ => ?_)
   clear c3 c4
   generalize wr.drew = W9 at MM HH HHs HWs hHeld ⊢
   refine pu_ (i := 0) (N := some 100) (v := ?_) (a' := ?_) HT_.out rfl rfl (Or.inl ⟨by rfl, ?_⟩) ?_ ?_
   rotate_left
   ·intro w'
    go_simp
    with_reducible rfl
   rotate_left
   ·simp only [sp_]
    rfl
   refine pu_ (i := 1) (N := some 101) (v := ?_) (a' := ?_) HT_.out rfl rfl (Or.inl ⟨by rfl, ?_⟩) ?_ ?_
   rotate_left
   ·intro w'
    go_simp
    with_reducible rfl
   rotate_left
   ·simp only [sp_]
    rfl
   refine pu_ (i := 2) (N := some 102) (v := ?_) (a' := ?_) HT_.out rfl rfl (Or.inl ⟨by rfl, ?_⟩) ?_ ?_
   rotate_left
   ·intro w'
    go_simp
    with_reducible rfl
   rotate_left
   ·simp only [sp_]
    rfl
   refine pu_ (i := 3) (N := some 103) (v := ?_) (a' := ?_) HT_.out rfl rfl (Or.inl ⟨by rfl, ?_⟩) ?_ ?_
   rotate_left
   ·intro w'
    go_simp
    with_reducible rfl
   rotate_left
   ·simp only [sp_]
    rfl
   refine pu_ (i := 4) (N := some 104) (v := ?_) (a' := ?_) HT_.out rfl rfl (Or.inl ⟨by rfl, ?_⟩) ?_ ?_
   rotate_left
   ·intro w'
    go_simp
    with_reducible rfl
   rotate_left
   ·simp only [sp_]
    rfl
   refine tk_ (i := 5) (N := some 105) (v := ?_) (a' := ?_) HT_.out HW_.out rfl rfl (Or.inl ⟨by rfl, ?_⟩) hHeld ?_ ?_
   rotate_left
   ·intro w' hSw
    obtain ⟨hS3, hS4⟩ := hSw
    go_simp
    with_reducible rfl
   rotate_left
   ·simp only [sp_]
    rfl
   refine pu_ (i := 6) (N := some 106) (v := ?_) (a' := ?_) HT_.out rfl rfl (Or.inl ⟨by rfl, ?_⟩) ?_ ?_
   rotate_left
   ·intro w'
    go_simp
    with_reducible rfl
   rotate_left
   ·simp only [sp_]
    rfl
   refine pu_ (i := 9) (N := some 109) (v := ?_) (a' := ?_) HT_.out rfl rfl (Or.inl ⟨by rfl, ?_⟩) ?_ ?_
   rotate_left
   ·intro w'
    go_simp
    with_reducible rfl
   rotate_left
   ·simp only [sp_]
    rfl
   refine pu_ (i := 10) (N := some 110) (v := ?_) (a' := ?_) HT_.out rfl rfl (Or.inl ⟨by rfl, ?_⟩) ?_ ?_
   rotate_left
   ·intro w'
    go_simp
    with_reducible rfl
   rotate_left
   ·simp only [sp_]
    rfl
   refine pu_ (i := 11) (N := some 111) (v := ?_) (a' := ?_) HT_.out rfl rfl (Or.inl ⟨by rfl, ?_⟩) ?_ ?_
   rotate_left
   ·intro w'
    go_simp
    with_reducible rfl
   rotate_left
   ·simp only [sp_]
    rfl
   refine tk_ (i := 12) (N := some 112) (v := ?_) (a' := ?_) HT_.out HW_.out rfl rfl (Or.inl ⟨by rfl, ?_⟩) hHeld ?_ ?_
   rotate_left
   ·intro w' hSw
    obtain ⟨hS3, hS4⟩ := hSw
    go_simp
    with_reducible rfl
   rotate_left
   ·simp only [sp_]
    rfl
   refine pu_ (i := 13) (N := some 113) (v := ?_) (a' := ?_) HT_.out rfl rfl (Or.inl ⟨by rfl, ?_⟩) ?_ ?_
   rotate_left
   ·intro w'
    go_simp
    with_reducible rfl
   rotate_left
   ·simp only [sp_]
    rfl
   refine two_ (i := 7) (j := 14) (Ni := some 107) (Nj := some 114) #[true, true, true, true, true, true, true, true, false, true, true, true, true, true, false, false, false, false, false, false, false, false] #[true, true, true, true, true, true, true, false, false, true, true, true, true, true, true, false, false, false, false, false, false, false] rfl rfl rfl rfl (two_of HT_.out (by kernel_rfl)) (by decide) (by decide) (fun K hK => ?_) (fun K hK => ?_)
   ·skip
    refine value_ (v := .slice (some ⟨W9.heap.size, 0, none⟩) 1 1) (w1 := W9.alloc (.cells #[.int .i64 ((0 : Nat) : Int)] 3)) (by rfl) rfl (by go_simp) ?_
    have b1 : (W9.alloc (.cells #[.int .i64 ((0 : Nat) : Int)] 3)).cell? ⟨W9.heap.size, 0, none⟩ = some (.int .i64 ((0 : Nat) : Int)) := (blk_cell (blk_new _ _) 0).trans rfl
    have b2 : W9.heap.size < (W9.alloc (.cells #[.int .i64 ((0 : Nat) : Int)] 3)).heap.size := by simp
    have b3 : ∀ k, ve.ownBlock = some k → k < wr.heap.size := LE
    have m1 := Aside0.mk (MM.out.alloc (.cells #[.int .i64 ((0 : Nat) : Int)] 3))
    have h1 := Aside0.mk (HH.out.alloc HHs (.cells #[.int .i64 ((0 : Nat) : Int)] 3))
    have s1 : base ≤ (W9.alloc (.cells #[.int .i64 ((0 : Nat) : Int)] 3)).heap.size ∧ wr.heap.size ≤ (W9.alloc (.cells #[.int .i64 ((0 : Nat) : Int)] 3)).heap.size := by simp; omega
    have g1 : wr.heap.size ≤ W9.heap.size := HWs
    clear MM HH HHs HWs hHeld
    generalize W9.alloc (.cells #[.int .i64 ((0 : Nat) : Int)] 3) = X1 at *
    generalize W9.heap.size = BE at *
    have MM := m1
    have HH := h1
    have HHs := s1.1
    have HWs := s1.2
    have boxE := b1
    have ltbE := b2
    have gebE := g1
    clear b1 b2 b3 m1 h1 s1 g1
    refine hK.out _ _ ⟨(blk_cell MM.out.blk 3).trans rfl, (blk_cell MM.out.blk 4).trans rfl⟩ (fun hHeld => ?_)
    clear hK K
    (try simp only [Act.put, List.setIfInBounds_toArray, List.set_cons_zero, List.set_cons_succ])
    refine two_ (i := 8) (j := 14) (Ni := some 108) (Nj := some 114) #[true, true, true, true, true, true, true, true, true, true, true, true, true, true, false, false, false, false, false, false, false, false] #[true, true, true, true, true, true, true, true, false, true, true, true, true, true, true, false, false, false, false, false, false, false] rfl rfl rfl rfl (two_of HT_.out (by kernel_rfl)) (by decide) (by decide) (fun K hK => ?_) (fun K hK => ?_)
    ·skip
     refine step_appE rfl (.tmp 105) (.tmp 107) rfl Try.underlying34 info3 _ BE rfl rfl MM.out HHs (by omega) boxE ?_
     intro gE capE X2 m1 s1 st1 h1
     have m1 := Aside0.mk m1
     have h1 := Aside0.mk (HH.out.trans h1)
     have s2 : base ≤ X2.heap.size ∧ wr.heap.size ≤ X2.heap.size := by omega
     clear MM HH HHs HWs hHeld st1 s1 boxE ltbE
     have MM := m1
     have HH := h1
     have HHs := s2.1
     have HWs := s2.2
     clear m1 h1 s2
     refine hK.out _ _ ⟨(blk_cell MM.out.blk 3).trans rfl, (blk_cell MM.out.blk 4).trans rfl⟩ (fun hHeld => ?_)
     clear hK K
     (try simp only [Act.put, List.setIfInBounds_toArray, List.set_cons_zero, List.set_cons_succ])
     refine one_ (i := 14) (N := some 114) #[true, true, true, true, true, true, true, true, true, true, true, true, true, true, true, false, false, false, false, false, false, false] rfl rfl (one_of HT_.out (by kernel_rfl)) (by decide) (fun K hK => ?_)
     refine value_ (v := .slice (some ⟨X2.heap.size, 0, none⟩) 1 1) (w1 := X2.alloc (.cells #[.int .i64 (s : Int)] 3)) (by rfl) rfl (by go_simp) ?_
     have b1 : (X2.alloc (.cells #[.int .i64 (s : Int)] 3)).cell? ⟨X2.heap.size, 0, none⟩ = some (.int .i64 (s : Int)) := (blk_cell (blk_new _ _) 0).trans rfl
     have b2 : X2.heap.size < (X2.alloc (.cells #[.int .i64 (s : Int)] 3)).heap.size := by simp
     have b3 : ∀ k, ve.ownBlock = some k → k < wr.heap.size := LE
     have m1 := Aside0.mk (MM.out.alloc (.cells #[.int .i64 (s : Int)] 3))
     have h1 := Aside0.mk (HH.out.alloc HHs (.cells #[.int .i64 (s : Int)] 3))
     have s1 : base ≤ (X2.alloc (.cells #[.int .i64 (s : Int)] 3)).heap.size ∧ wr.heap.size ≤ (X2.alloc (.cells #[.int .i64 (s : Int)] 3)).heap.size := by simp; omega
     have g1 : wr.heap.size ≤ X2.heap.size := HWs
     clear MM HH HHs HWs hHeld
     generalize X2.alloc (.cells #[.int .i64 (s : Int)] 3) = X3 at *
     generalize X2.heap.size = BT at *
     have MM := m1
     have HH := h1
     have HHs := s1.1
     have HWs := s1.2
     have boxT := b1
     have ltbT := b2
     have gebT := g1
     clear b1 b2 b3 m1 h1 s1 g1
     refine hK.out _ _ ⟨(blk_cell MM.out.blk 3).trans rfl, (blk_cell MM.out.blk 4).trans rfl⟩ (fun hHeld => ?_)
     clear hK K
     (try simp only [Act.put, List.setIfInBounds_toArray, List.set_cons_zero, List.set_cons_succ])
     refine one_ (i := 15) (N := some 115) #[true, true, true, true, true, true, true, true, true, true, true, true, true, true, true, true, false, false, false, false, false, false] rfl rfl (one_of HT_.out (by kernel_rfl)) (by decide) (fun K hK => ?_)
     refine step_appT rfl (.tmp 112) (.tmp 114) rfl Try.underlying34 info3 _ BT rfl rfl MM.out HHs (by omega) boxT ?_
     intro gT capT X4 m1 s1 st1 h1
     have m1 := Aside0.mk m1
     have h1 := Aside0.mk (HH.out.trans h1)
     have s2 : base ≤ X4.heap.size ∧ wr.heap.size ≤ X4.heap.size := by omega
     clear MM HH HHs HWs hHeld st1 s1 boxT ltbT
     have MM := m1
     have HH := h1
     have HHs := s2.1
     have HWs := s2.2
     clear m1 h1 s2
     refine hK.out _ _ ⟨(blk_cell MM.out.blk 3).trans rfl, (blk_cell MM.out.blk 4).trans rfl⟩ (fun hHeld => ?_)
     clear hK K
     (try simp only [Act.put, List.setIfInBounds_toArray, List.set_cons_zero, List.set_cons_succ])
     refine pu_ (i := 16) (N := some 116) (v := ?_) (a' := ?_) HT_.out rfl rfl (Or.inl ⟨by rfl, ?_⟩) ?_ ?_
     rotate_left
     ·intro w'
      go_simp
      with_reducible rfl
     rotate_left
     ·simp only [sp_]
      rfl
     refine pu_ (i := 17) (N := some 117) (v := ?_) (a' := ?_) HT_.out rfl rfl (Or.inl ⟨by rfl, ?_⟩) ?_ ?_
     rotate_left
     ·intro w'
      go_simp
      with_reducible rfl
     rotate_left
     ·simp only [sp_]
      rfl
     have z3 := (blk_cell MM.out.blk 3).trans rfl
     have y3 := kF_ MM.out.blk 3
     have z4 := (blk_cell (blk_set MM.out.blk 3 (.slice (some ⟨gE, 0, none⟩) (ends.length + 1) capE)) 4).trans rfl
     have y4 := kF_ (blk_set MM.out.blk 3 (.slice (some ⟨gE, 0, none⟩) (ends.length + 1) capE)) 4
     have hFin := Aside0.mk MM.out.done
     have hBel := Aside0.mk ((HH.out.setCell (p := ⟨g, 3, none⟩) MM.out.hg (.slice (some ⟨gE, 0, none⟩) (ends.length + 1) capE)).setCell (p := ⟨g, 4, none⟩) MM.out.hg (.slice (some ⟨gT, 0, none⟩) (trips.length + 1) capT))
     refine lastS_ (i := 18) (w1 := X4.setCell ⟨g, 3, none⟩ (.slice (some ⟨gE, 0, none⟩) (ends.length + 1) capE)) #[true, true, true, true, true, true, true, true, true, true, true, true, true, true, true, true, true, true, true, false, false, false] rfl rfl (one_of HT_.out (by kernel_rfl)) (by decide) (by rfl) ?_ ?_
     ·clear hFin hBel HH MM z4 y4
      go_simp
     clear z3 y3 MM HH
     (try simp only [Act.put, List.setIfInBounds_toArray, List.set_cons_zero, List.set_cons_succ])
     generalize X4.setCell ⟨g, 3, none⟩ (.slice (some ⟨gE, 0, none⟩) (ends.length + 1) capE) = Y at *
     refine pu_ (i := 19) (N := some 118) (v := ?_) (a' := ?_) HT_.out rfl rfl (Or.inl ⟨by rfl, ?_⟩) ?_ ?_
     rotate_left
     ·intro w'
      go_simp
      with_reducible rfl
     rotate_left
     ·simp only [sp_]
      rfl
     refine pu_ (i := 20) (N := some 119) (v := ?_) (a' := ?_) HT_.out rfl rfl (Or.inl ⟨by rfl, ?_⟩) ?_ ?_
     rotate_left
     ·intro w'
      go_simp
      with_reducible rfl
     rotate_left
     ·simp only [sp_]
      rfl
     refine lastS_ (i := 21) (w1 := Y.setCell ⟨g, 4, none⟩ (.slice (some ⟨gT, 0, none⟩) (trips.length + 1) capT)) #[true, true, true, true, true, true, true, true, true, true, true, true, true, true, true, true, true, true, true, true, true, true] rfl rfl (one_of HT_.out (by kernel_rfl)) (by decide) (by rfl) ?_ ?_
     ·clear hFin hBel
      go_simp
     clear z4 y4
     (try simp only [Act.put, List.setIfInBounds_toArray, List.set_cons_zero, List.set_cons_succ])
     refine done_ (done_of HT_.out (by kernel_rfl)) ?_
     try go_wp2_with (fail)
     go_end0
     exact ⟨rfl, hBel.out, _, _, by first | exact hFin.out | (rw [show Es.endN true = 1 from rfl]; exact hFin.out) | (rw [show Es.endN false = 0 from rfl]; exact hFin.out) | (rw [he]; rw [show Es.endN false = 0 from rfl]; exact hFin.out)⟩
    ·skip
     refine value_ (v := .slice (some ⟨X1.heap.size, 0, none⟩) 1 1) (w1 := X1.alloc (.cells #[.int .i64 (s : Int)] 3)) (by rfl) rfl (by go_simp) ?_
     have b1 : (X1.alloc (.cells #[.int .i64 (s : Int)] 3)).cell? ⟨X1.heap.size, 0, none⟩ = some (.int .i64 (s : Int)) := (blk_cell (blk_new _ _) 0).trans rfl
     have b2 : X1.heap.size < (X1.alloc (.cells #[.int .i64 (s : Int)] 3)).heap.size := by simp
     have b3 : ∀ k, ve.ownBlock = some k → k < wr.heap.size := LE
     have b1E' := cell_kept_alloc boxE (.cells #[.int .i64 (s : Int)] 3)
     have b2E' : BE < (X1.alloc (.cells #[.int .i64 (s : Int)] 3)).heap.size := by simp; omega
     have m1 := Aside0.mk (MM.out.alloc (.cells #[.int .i64 (s : Int)] 3))
     have h1 := Aside0.mk (HH.out.alloc HHs (.cells #[.int .i64 (s : Int)] 3))
     have s1 : base ≤ (X1.alloc (.cells #[.int .i64 (s : Int)] 3)).heap.size ∧ wr.heap.size ≤ (X1.alloc (.cells #[.int .i64 (s : Int)] 3)).heap.size := by simp; omega
     have g1 : wr.heap.size ≤ X1.heap.size := HWs
     clear MM HH HHs HWs hHeld boxE ltbE
     generalize X1.alloc (.cells #[.int .i64 (s : Int)] 3) = X5 at *
     generalize X1.heap.size = BT at *
     have MM := m1
     have HH := h1
     have HHs := s1.1
     have HWs := s1.2
     have boxT := b1
     have ltbT := b2
     have gebT := g1
     have boxE := b1E'
     have ltbE := b2E'
     clear b1 b2 b3 m1 h1 s1 g1 b1E' b2E'
     refine hK.out _ _ ⟨(blk_cell MM.out.blk 3).trans rfl, (blk_cell MM.out.blk 4).trans rfl⟩ (fun hHeld => ?_)
     clear hK K
     (try simp only [Act.put, List.setIfInBounds_toArray, List.set_cons_zero, List.set_cons_succ])
     refine one_ (i := 8) (N := some 108) #[true, true, true, true, true, true, true, true, true, true, true, true, true, true, true, false, false, false, false, false, false, false] rfl rfl (one_of HT_.out (by kernel_rfl)) (by decide) (fun K hK => ?_)
     refine step_appE rfl (.tmp 105) (.tmp 107) rfl Try.underlying34 info3 _ BE rfl rfl MM.out HHs (by omega) boxE ?_
     intro gE capE X6 m1 s1 st1 h1
     have b1 := st1 ⟨BT, 0, none⟩ _ ltbT (fun e => by have hq_ : BT < wr.heap.size := LE _ e.symm; omega) boxT
     have b2 : BT < X6.heap.size := by omega
     have m1 := Aside0.mk m1
     have h1 := Aside0.mk (HH.out.trans h1)
     have s2 : base ≤ X6.heap.size ∧ wr.heap.size ≤ X6.heap.size := by omega
     clear MM HH HHs HWs hHeld st1 s1 boxE ltbE boxT ltbT
     have MM := m1
     have HH := h1
     have HHs := s2.1
     have HWs := s2.2
     have boxT := b1
     have ltbT := b2
     clear b1 b2
     clear m1 h1 s2
     refine hK.out _ _ ⟨(blk_cell MM.out.blk 3).trans rfl, (blk_cell MM.out.blk 4).trans rfl⟩ (fun hHeld => ?_)
     clear hK K
     (try simp only [Act.put, List.setIfInBounds_toArray, List.set_cons_zero, List.set_cons_succ])
     refine one_ (i := 15) (N := some 115) #[true, true, true, true, true, true, true, true, true, true, true, true, true, true, true, true, false, false, false, false, false, false] rfl rfl (one_of HT_.out (by kernel_rfl)) (by decide) (fun K hK => ?_)
     refine step_appT rfl (.tmp 112) (.tmp 114) rfl Try.underlying34 info3 _ BT rfl rfl MM.out HHs (by omega) boxT ?_
     intro gT capT X7 m1 s1 st1 h1
     have m1 := Aside0.mk m1
     have h1 := Aside0.mk (HH.out.trans h1)
     have s2 : base ≤ X7.heap.size ∧ wr.heap.size ≤ X7.heap.size := by omega
     clear MM HH HHs HWs hHeld st1 s1 boxT ltbT
     have MM := m1
     have HH := h1
     have HHs := s2.1
     have HWs := s2.2
     clear m1 h1 s2
     refine hK.out _ _ ⟨(blk_cell MM.out.blk 3).trans rfl, (blk_cell MM.out.blk 4).trans rfl⟩ (fun hHeld => ?_)
     clear hK K
     (try simp only [Act.put, List.setIfInBounds_toArray, List.set_cons_zero, List.set_cons_succ])
     refine pu_ (i := 16) (N := some 116) (v := ?_) (a' := ?_) HT_.out rfl rfl (Or.inl ⟨by rfl, ?_⟩) ?_ ?_
     rotate_left
     ·intro w'
      go_simp
      with_reducible rfl
     rotate_left
     ·simp only [sp_]
      rfl
     refine pu_ (i := 17) (N := some 117) (v := ?_) (a' := ?_) HT_.out rfl rfl (Or.inl ⟨by rfl, ?_⟩) ?_ ?_
     rotate_left
     ·intro w'
      go_simp
      with_reducible rfl
     rotate_left
     ·simp only [sp_]
      rfl
     have z3 := (blk_cell MM.out.blk 3).trans rfl
     have y3 := kF_ MM.out.blk 3
     have z4 := (blk_cell (blk_set MM.out.blk 3 (.slice (some ⟨gE, 0, none⟩) (ends.length + 1) capE)) 4).trans rfl
     have y4 := kF_ (blk_set MM.out.blk 3 (.slice (some ⟨gE, 0, none⟩) (ends.length + 1) capE)) 4
     have hFin := Aside0.mk MM.out.done
     have hBel := Aside0.mk ((HH.out.setCell (p := ⟨g, 3, none⟩) MM.out.hg (.slice (some ⟨gE, 0, none⟩) (ends.length + 1) capE)).setCell (p := ⟨g, 4, none⟩) MM.out.hg (.slice (some ⟨gT, 0, none⟩) (trips.length + 1) capT))
     refine lastS_ (i := 18) (w1 := X7.setCell ⟨g, 3, none⟩ (.slice (some ⟨gE, 0, none⟩) (ends.length + 1) capE)) #[true, true, true, true, true, true, true, true, true, true, true, true, true, true, true, true, true, true, true, false, false, false] rfl rfl (one_of HT_.out (by kernel_rfl)) (by decide) (by rfl) ?_ ?_
     ·clear hFin hBel HH MM z4 y4
      go_simp
     clear z3 y3 MM HH
     (try simp only [Act.put, List.setIfInBounds_toArray, List.set_cons_zero, List.set_cons_succ])
     generalize X7.setCell ⟨g, 3, none⟩ (.slice (some ⟨gE, 0, none⟩) (ends.length + 1) capE) = Y at *
     refine pu_ (i := 19) (N := some 118) (v := ?_) (a' := ?_) HT_.out rfl rfl (Or.inl ⟨by rfl, ?_⟩) ?_ ?_
     rotate_left
     ·intro w'
      go_simp
      with_reducible rfl
     rotate_left
     ·simp only [sp_]
      rfl
     refine pu_ (i := 20) (N := some 119) (v := ?_) (a' := ?_) HT_.out rfl rfl (Or.inl ⟨by rfl, ?_⟩) ?_ ?_
     rotate_left
     ·intro w'
      go_simp
      with_reducible rfl
     rotate_left
     ·simp only [sp_]
      rfl
     refine lastS_ (i := 21) (w1 := Y.setCell ⟨g, 4, none⟩ (.slice (some ⟨gT, 0, none⟩) (trips.length + 1) capT)) #[true, true, true, true, true, true, true, true, true, true, true, true, true, true, true, true, true, true, true, true, true, true] rfl rfl (one_of HT_.out (by kernel_rfl)) (by decide) (by rfl) ?_ ?_
     ·clear hFin hBel
      go_simp
     clear z4 y4
     (try simp only [Act.put, List.setIfInBounds_toArray, List.set_cons_zero, List.set_cons_succ])
     refine done_ (done_of HT_.out (by kernel_rfl)) ?_
     try go_wp2_with (fail)
     go_end0
     exact ⟨rfl, hBel.out, _, _, by first | exact hFin.out | (rw [show Es.endN true = 1 from rfl]; exact hFin.out) | (rw [show Es.endN false = 0 from rfl]; exact hFin.out) | (rw [he]; rw [show Es.endN false = 0 from rfl]; exact hFin.out)⟩
   ·skip
    refine value_ (v := .slice (some ⟨W9.heap.size, 0, none⟩) 1 1) (w1 := W9.alloc (.cells #[.int .i64 (s : Int)] 3)) (by rfl) rfl (by go_simp) ?_
    have b1 : (W9.alloc (.cells #[.int .i64 (s : Int)] 3)).cell? ⟨W9.heap.size, 0, none⟩ = some (.int .i64 (s : Int)) := (blk_cell (blk_new _ _) 0).trans rfl
    have b2 : W9.heap.size < (W9.alloc (.cells #[.int .i64 (s : Int)] 3)).heap.size := by simp
    have b3 : ∀ k, ve.ownBlock = some k → k < wr.heap.size := LE
    have m1 := Aside0.mk (MM.out.alloc (.cells #[.int .i64 (s : Int)] 3))
    have h1 := Aside0.mk (HH.out.alloc HHs (.cells #[.int .i64 (s : Int)] 3))
    have s1 : base ≤ (W9.alloc (.cells #[.int .i64 (s : Int)] 3)).heap.size ∧ wr.heap.size ≤ (W9.alloc (.cells #[.int .i64 (s : Int)] 3)).heap.size := by simp; omega
    have g1 : wr.heap.size ≤ W9.heap.size := HWs
    clear MM HH HHs HWs hHeld
    generalize W9.alloc (.cells #[.int .i64 (s : Int)] 3) = X8 at *
    generalize W9.heap.size = BT at *
    have MM := m1
    have HH := h1
    have HHs := s1.1
    have HWs := s1.2
    have boxT := b1
    have ltbT := b2
    have gebT := g1
    clear b1 b2 b3 m1 h1 s1 g1
    refine hK.out _ _ ⟨(blk_cell MM.out.blk 3).trans rfl, (blk_cell MM.out.blk 4).trans rfl⟩ (fun hHeld => ?_)
    clear hK K
    (try simp only [Act.put, List.setIfInBounds_toArray, List.set_cons_zero, List.set_cons_succ])
    refine one_ (i := 7) (N := some 107) #[true, true, true, true, true, true, true, true, false, true, true, true, true, true, true, false, false, false, false, false, false, false] rfl rfl (one_of HT_.out (by kernel_rfl)) (by decide) (fun K hK => ?_)
    refine value_ (v := .slice (some ⟨X8.heap.size, 0, none⟩) 1 1) (w1 := X8.alloc (.cells #[.int .i64 ((0 : Nat) : Int)] 3)) (by rfl) rfl (by go_simp) ?_
    have b1 : (X8.alloc (.cells #[.int .i64 ((0 : Nat) : Int)] 3)).cell? ⟨X8.heap.size, 0, none⟩ = some (.int .i64 ((0 : Nat) : Int)) := (blk_cell (blk_new _ _) 0).trans rfl
    have b2 : X8.heap.size < (X8.alloc (.cells #[.int .i64 ((0 : Nat) : Int)] 3)).heap.size := by simp
    have b3 : ∀ k, ve.ownBlock = some k → k < wr.heap.size := LE
    have b1T' := cell_kept_alloc boxT (.cells #[.int .i64 ((0 : Nat) : Int)] 3)
    have b2T' : BT < (X8.alloc (.cells #[.int .i64 ((0 : Nat) : Int)] 3)).heap.size := by simp; omega
    have m1 := Aside0.mk (MM.out.alloc (.cells #[.int .i64 ((0 : Nat) : Int)] 3))
    have h1 := Aside0.mk (HH.out.alloc HHs (.cells #[.int .i64 ((0 : Nat) : Int)] 3))
    have s1 : base ≤ (X8.alloc (.cells #[.int .i64 ((0 : Nat) : Int)] 3)).heap.size ∧ wr.heap.size ≤ (X8.alloc (.cells #[.int .i64 ((0 : Nat) : Int)] 3)).heap.size := by simp; omega
    have g1 : wr.heap.size ≤ X8.heap.size := HWs
    clear MM HH HHs HWs hHeld boxT ltbT
    generalize X8.alloc (.cells #[.int .i64 ((0 : Nat) : Int)] 3) = X9 at *
    generalize X8.heap.size = BE at *
    have MM := m1
    have HH := h1
    have HHs := s1.1
    have HWs := s1.2
    have boxE := b1
    have ltbE := b2
    have gebE := g1
    have boxT := b1T'
    have ltbT := b2T'
    clear b1 b2 b3 m1 h1 s1 g1 b1T' b2T'
    refine hK.out _ _ ⟨(blk_cell MM.out.blk 3).trans rfl, (blk_cell MM.out.blk 4).trans rfl⟩ (fun hHeld => ?_)
    clear hK K
    (try simp only [Act.put, List.setIfInBounds_toArray, List.set_cons_zero, List.set_cons_succ])
    refine one_ (i := 8) (N := some 108) #[true, true, true, true, true, true, true, true, true, true, true, true, true, true, true, false, false, false, false, false, false, false] rfl rfl (one_of HT_.out (by kernel_rfl)) (by decide) (fun K hK => ?_)
    refine step_appE rfl (.tmp 105) (.tmp 107) rfl Try.underlying34 info3 _ BE rfl rfl MM.out HHs (by omega) boxE ?_
    intro gE capE X10 m1 s1 st1 h1
    have b1 := st1 ⟨BT, 0, none⟩ _ ltbT (fun e => by have hq_ : BT < wr.heap.size := LE _ e.symm; omega) boxT
    have b2 : BT < X10.heap.size := by omega
    have m1 := Aside0.mk m1
    have h1 := Aside0.mk (HH.out.trans h1)
    have s2 : base ≤ X10.heap.size ∧ wr.heap.size ≤ X10.heap.size := by omega
    clear MM HH HHs HWs hHeld st1 s1 boxE ltbE boxT ltbT
    have MM := m1
    have HH := h1
    have HHs := s2.1
    have HWs := s2.2
    have boxT := b1
    have ltbT := b2
    clear b1 b2
    clear m1 h1 s2
    refine hK.out _ _ ⟨(blk_cell MM.out.blk 3).trans rfl, (blk_cell MM.out.blk 4).trans rfl⟩ (fun hHeld => ?_)
    clear hK K
    (try simp only [Act.put, List.setIfInBounds_toArray, List.set_cons_zero, List.set_cons_succ])
    refine one_ (i := 15) (N := some 115) #[true, true, true, true, true, true, true, true, true, true, true, true, true, true, true, true, false, false, false, false, false, false] rfl rfl (one_of HT_.out (by kernel_rfl)) (by decide) (fun K hK => ?_)
    refine step_appT rfl (.tmp 112) (.tmp 114) rfl Try.underlying34 info3 _ BT rfl rfl MM.out HHs (by omega) boxT ?_
    intro gT capT X11 m1 s1 st1 h1
    have m1 := Aside0.mk m1
    have h1 := Aside0.mk (HH.out.trans h1)
    have s2 : base ≤ X11.heap.size ∧ wr.heap.size ≤ X11.heap.size := by omega
    clear MM HH HHs HWs hHeld st1 s1 boxT ltbT
    have MM := m1
    have HH := h1
    have HHs := s2.1
    have HWs := s2.2
    clear m1 h1 s2
    refine hK.out _ _ ⟨(blk_cell MM.out.blk 3).trans rfl, (blk_cell MM.out.blk 4).trans rfl⟩ (fun hHeld => ?_)
    clear hK K
    (try simp only [Act.put, List.setIfInBounds_toArray, List.set_cons_zero, List.set_cons_succ])
    refine pu_ (i := 16) (N := some 116) (v := ?_) (a' := ?_) HT_.out rfl rfl (Or.inl ⟨by rfl, ?_⟩) ?_ ?_
    rotate_left
    ·intro w'
     go_simp
     with_reducible rfl
    rotate_left
    ·simp only [sp_]
     rfl
    refine pu_ (i := 17) (N := some 117) (v := ?_) (a' := ?_) HT_.out rfl rfl (Or.inl ⟨by rfl, ?_⟩) ?_ ?_
    rotate_left
    ·intro w'
     go_simp
     with_reducible rfl
    rotate_left
    ·simp only [sp_]
     rfl
    have z3 := (blk_cell MM.out.blk 3).trans rfl
    have y3 := kF_ MM.out.blk 3
    have z4 := (blk_cell (blk_set MM.out.blk 3 (.slice (some ⟨gE, 0, none⟩) (ends.length + 1) capE)) 4).trans rfl
    have y4 := kF_ (blk_set MM.out.blk 3 (.slice (some ⟨gE, 0, none⟩) (ends.length + 1) capE)) 4
    have hFin := Aside0.mk MM.out.done
    have hBel := Aside0.mk ((HH.out.setCell (p := ⟨g, 3, none⟩) MM.out.hg (.slice (some ⟨gE, 0, none⟩) (ends.length + 1) capE)).setCell (p := ⟨g, 4, none⟩) MM.out.hg (.slice (some ⟨gT, 0, none⟩) (trips.length + 1) capT))
    refine lastS_ (i := 18) (w1 := X11.setCell ⟨g, 3, none⟩ (.slice (some ⟨gE, 0, none⟩) (ends.length + 1) capE)) #[true, true, true, true, true, true, true, true, true, true, true, true, true, true, true, true, true, true, true, false, false, false] rfl rfl (one_of HT_.out (by kernel_rfl)) (by decide) (by rfl) ?_ ?_
    ·clear hFin hBel HH MM z4 y4
     go_simp
    clear z3 y3 MM HH
    (try simp only [Act.put, List.setIfInBounds_toArray, List.set_cons_zero, List.set_cons_succ])
    generalize X11.setCell ⟨g, 3, none⟩ (.slice (some ⟨gE, 0, none⟩) (ends.length + 1) capE) = Y at *
    refine pu_ (i := 19) (N := some 118) (v := ?_) (a' := ?_) HT_.out rfl rfl (Or.inl ⟨by rfl, ?_⟩) ?_ ?_
    rotate_left
    ·intro w'
     go_simp
     with_reducible rfl
    rotate_left
    ·simp only [sp_]
     rfl
    refine pu_ (i := 20) (N := some 119) (v := ?_) (a' := ?_) HT_.out rfl rfl (Or.inl ⟨by rfl, ?_⟩) ?_ ?_
    rotate_left
    ·intro w'
     go_simp
     with_reducible rfl
    rotate_left
    ·simp only [sp_]
     rfl
    refine lastS_ (i := 21) (w1 := Y.setCell ⟨g, 4, none⟩ (.slice (some ⟨gT, 0, none⟩) (trips.length + 1) capT)) #[true, true, true, true, true, true, true, true, true, true, true, true, true, true, true, true, true, true, true, true, true, true] rfl rfl (one_of HT_.out (by kernel_rfl)) (by decide) (by rfl) ?_ ?_
    ·clear hFin hBel
     go_simp
    clear z4 y4
    (try simp only [Act.put, List.setIfInBounds_toArray, List.set_cons_zero, List.set_cons_succ])
    refine done_ (done_of HT_.out (by kernel_rfl)) ?_
    try go_wp2_with (fail)
    go_end0
    exact ⟨rfl, hBel.out, _, _, by first | exact hFin.out | (rw [show Es.endN true = 1 from rfl]; exact hFin.out) | (rw [show Es.endN false = 0 from rfl]; exact hFin.out) | (rw [he]; rw [show Es.endN false = 0 from rfl]; exact hFin.out)⟩
end Go.Proofs.Ytmechelmnpoddaa.H7
namespace Go.Proofs
open Go.Shelf
def Try.lays212_ren : Go.Shelf.Ren := ⟨fun | 212 => 90 | 263 => 92 | 264 => 93 | n => n, fun | 46 => 79 | 51 => 83 | 146 => 84 | 53 => 72 | 148 => 86 | n => n, fun | n => n⟩
theorem Try.lays212 : Go.Proofs.Lays.n212 Try.prog Try.lays212_ren := {
 mixed := by kernel_rfl
 f212 := Try.func90.trans (congrArg some (by kernel_rfl))
 f263 := Try.func92.trans (congrArg some (by kernel_rfl))
 f264 := Try.func93.trans (congrArg some (by kernel_rfl))
 t46 := Try.underlying79
 a46 := Try.isAgg79
 z46 := Try.sizeOf79
 v46 := Try.zeroValue79
 t51 := Try.underlying83
 a51 := Try.isAgg83
 z51 := Try.sizeOf83
 v51 := Try.zeroValue83
 t53 := Try.underlying72
 a53 := Try.isAgg72
 z53 := Try.sizeOf72
 v53 := Try.zeroValue72
 t146 := Try.underlying84
 a146 := Try.isAgg84
 z146 := Try.sizeOf84
 v146 := Try.zeroValue84
 t148 := Try.underlying86
 a148 := Try.isAgg86
 z148 := Try.sizeOf86
 v148 := Try.zeroValue86 }
open Go.RowKit Go.Lib in
theorem Try.bits_Mul (x y : Nat) (hx : x < 18446744073709551616) (hy : y < 18446744073709551616) (w : World) :
  Calls Try.prog 90 #[.int .u64 x, .int .u64 y] w fun e w' => e = .returned (.tuple #[.int .u64 ((x * y / 18446744073709551616 : Nat) : Int), .int .u64 ((x * y % 18446744073709551616 : Nat) : Int)]) ∧ w' = w := Any.bits_Mul Try.lays212 x y hx hy w
def Try.laysSlH8_f67_ren : Go.Shelf.Ren := ⟨fun | 8 => 67 | 6 => 87 | n => n, fun | 22 => 34 | 23 => 3 | 25 => 68 | 4 => 4 | 3 => 3 | 0 => 0 | n => n, fun | n => n⟩
theorem Try.laysSlH8_f67 : Go.Proofs.SlLaysH.n8 Try.prog Try.laysSlH8_f67_ren := {
 mixed := by kernel_rfl
 f6 := ⟨Try.f87.name, by decide, Try.func87.trans (congrArg some (by kernel_rfl))⟩
 f8 := ⟨Try.f67.name, by decide, Try.func67.trans (congrArg some (by kernel_rfl))⟩
 t0 := Try.underlying0
 a0 := Try.isAgg0
 z0 := Try.sizeOf0
 v0 := Try.zeroValue0
 t3 := Try.underlying3
 a3 := Try.isAgg3
 z3 := Try.sizeOf3
 v3 := Try.zeroValue3
 t4 := Try.underlying4
 a4 := Try.isAgg4
 z4 := Try.sizeOf4
 v4 := Try.zeroValue4
 t22 := Try.underlying34
 a22 := Try.isAgg34
 z22 := Try.sizeOf34
 v22 := Try.zeroValue34
 a23 := Try.isAgg3
 z23 := Try.sizeOf3
 t25 := Try.underlying68
 a25 := Try.isAgg68
 z25 := Try.sizeOf68
 v25 := Try.zeroValue68 }
open Go.RowKit Go.Lib in
theorem Try.slices_ContainsFunc {α : Type} [Inhabited α] (enc : α → Value) (p : α → Bool) (g : Nat) (lb : Array Value) (eg : ∀ args w, (callFunc g args).run Try.prog w = .ok (.enter g args) w) (b off n c : Nat) (zs : List α) (w : World) (hp : PredAt Try.prog g lb enc p w) (hz : n ≤ zs.length) (hbig : n ≤ 9223372036854775807) (hc : ∀ j, j < zs.length → w.cell? ⟨b, off + j, none⟩ = some (enc zs[j]!)) :
  Calls Try.prog 67 #[.slice (some ⟨b, off, none⟩) n c, .func (.func g) #[] lb] w fun e w' => e = .returned (.bool ((zs.take n).any p)) ∧ ∃ q, w' = w.drewN q := AnyE.slices_ContainsFunc Try.laysSlH8_f67 enc p g lb eg b off n c zs w hp hz hbig hc
end Go.Proofs
