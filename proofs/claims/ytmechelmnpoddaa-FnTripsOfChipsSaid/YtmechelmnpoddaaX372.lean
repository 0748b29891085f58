/-
  Texts of the seat, merged (part 2).
-/
import Derived.Test.YtmechelmnpoddaaProg
import Derived.Below
import Derived.Deep.Draws
import Derived.Deep.AppendLies
import Derived.Maps.AppendAt
import Derived.OwnWalk
import Derived.Laws.BytesArg
import Derived.Laws.MakeOwn
import Derived.Laws.OwnMore
import Derived.Deep.OwnRows
import Derived.Tactics
import Derived.Lib.ConvBytes
import Derived.Laws.Slices
import Derived.WalkKit
import Derived.KernelRfl
import Derived.RowKit3
import Derived.Deep.LoopGhost
import Derived.Deep.QuietTactic
import Derived.BigQuiet
import Derived.WideLaws
import Derived.Deep.DeepCutAuto
import Derived.Deep.CutBlock
import Derived.Deep.RegionHeld3
import Derived.Laws.Rows
import Derived.Lib.AppendStr
import Derived.ArgAppend
import Derived.Laws.IdiomCopy
import Derived.OrdersHeld
import Derived.Laws.BitsLemmas
import Derived.RowKit
import Derived.Test.YtmechelmnpoddaaX37WWords
import Derived.Test.YtmechelmnpoddaaX37WLast
import Derived.Test.YtmechelmnpoddaaX37WTab
import Derived.Test.YtmechelmnpoddaaX37WFour
import Derived.Test.YtmechelmnpoddaaX37WQPut
import Derived.Test.YtmechelmnpoddaaX37WApart
import Derived.Test.YtmechelmnpoddaaX37WArr
import Derived.Test.YtmechelmnpoddaaX37WZeros
import Derived.Test.YtmechelmnpoddaaX37WFoot
import Derived.Test.YtmechelmnpoddaaX37WKept
import Derived.Test.YtmechelmnpoddaaX37WShare
import Derived.Test.YtmechelmnpoddaaX37WN
import Derived.Test.YtmechelmnpoddaaX37WFootNe
import Derived.Test.YtmechelmnpoddaaX37WAt
import Derived.Test.YtmechelmnpoddaaX37WEqStruct
import Derived.Test.YtmechelmnpoddaaX37WRepsOne
import Derived.Test.YtmechelmnpoddaaX37WInv
import Derived.Test.YtmechelmnpoddaaX37WInvWords
import Derived.Test.YtmechelmnpoddaaX37WGuard
import Derived.Test.YtmechelmnpoddaaX37WNEv
import Derived.Test.YtmechelmnpoddaaX37WMore
import Derived.Test.YtmechelmnpoddaaX371
set_option linter.unusedVariables false
set_option linter.unusedSimpArgs false
namespace Go.Proofs.Ytmechelmnpoddaa.E7
open Go.RowKit YtmechelmnpoddaaW.PrintWords YtmechelmnpoddaaW.PrintLast YtmechelmnpoddaaW.PrintMore
open A7 H7
attribute [local go_sem] max2_int min2_int max_two min_two max_three min_three max_four min_four
def impl_EscapesOf.f (k : Nat) (a0 : Int) (a1 : Int) (a2 : Int) (a3 : Int) : Option (Int × Bool) := (impl_EscapeList.f a0 a1 a2 a3).bind fun bt130 => ((impl_sum.f k bt130.1).bind fun t134 => (some (t134, bt130.2)))
theorem impl_EscapesOf.mono : ∀ a0 a1 a2 a3 k, LeO (impl_EscapesOf.f k a0 a1 a2 a3) (impl_EscapesOf.f (k + 1) a0 a1 a2 a3) := by
 intro a0 a1 a2 a3 k
 unfold impl_EscapesOf.f
 repeat' first
   | (with_reducible exact impl_sum.mono _ _)
   | (with_reducible exact LeO.refl _)
   | (with_reducible exact LeO.none _)
   | (with_reducible refine LeO.ite ?_ ?_)
   | (with_reducible refine LeO.bind ?_ (fun _ => ?_))
   | exact impl_sum.mono _ _
   | exact LeO.none _
   | refine LeO.ite ?_ ?_
   | refine LeO.bind ?_ (fun _ => ?_)
set_option maxHeartbeats 8000000 in
set_option maxRecDepth 100000 in
theorem impl_EscapesOf.calls (k : Nat) (a0 : Int) (a1 : Int) (a2 : Int) (a3 : Int) (r1 : Int) (r2 : Bool) (w : World) (h : impl_EscapesOf.f k a0 a1 a2 a3 = some (r1, r2)) :
  Calls Try.prog 25 #[.int .i64 a0, .int .i64 a1, .int .i64 a2, .int .i64 a3] w fun e w' => e = .returned (.tuple #[.int .i64 r1, .bool r2]) ∧ Below w.heap.size w w' := by
 have HB := Aside0.mk (Below.refl w.heap.size w)
 have H : ((impl_EscapeList.f a0 a1 a2 a3).bind fun bt130 => ((impl_sum.f k bt130.1).bind fun t134 => (some (t134, bt130.2)))) = some (r1, r2) := h
 clear h
 replace H := Option.bind_eq_some_iff.mp H
 obtain ⟨⟨t130, t131⟩, A50, H⟩ := H
 replace H : ((impl_sum.f k t130).bind fun t134 => (some (t134, t131))) = some (r1, r2) := H
 have A5 := Aside0.mk A50
 clear A50
 replace H := Option.bind_eq_some_iff.mp H
 obtain ⟨t134, A60, H⟩ := H
 replace H : (some (t134, t131)) = some (r1, r2) := H
 have A6 := Aside0.mk A60
 clear A60
 simp only [Option.some.injEq, Prod.mk.injEq] at H
 obtain ⟨rfl, rfl⟩ := H
 go_enter Try.func25, Try.ntmps25
 go_wp2_with (first | ((with_reducible refine gate_callee (f := 31) rfl ?_); refine goesL_ (some 17) rfl rfl Try.func31 (by kernel_rfl) rfl #[.int .i64 a0, .int .i64 a1, .int .i64 a2, .int .i64 a3] rfl (by (try simp only [List.map_toArray, List.map_cons, List.map_nil]); first | done | rfl | (simp only [List.length_drop, List.length_take]; rfl)) ?_; (with_reducible refine (impl_EscapeList.calls a0 a1 a2 a3 t130 t131 _ A5.out).mono ?_); rintro e w7 ⟨v132, rfl, ho0, hb⟩; refine ⟨_, rfl, ?_⟩; have n0_ := Aside0.mk (Kd.R_lower ho0 (bZ_ (by repeat (first | (with_reducible first | exact HB.out | apply bA_ | apply bN_ | apply bD_) | exact HB.out)))); have n1_ := Aside0.mk (bP_ (by repeat (first | (with_reducible first | exact HB.out | apply bA_ | apply bN_ | apply bD_) | exact HB.out)) hb); clear HB; have HO133 := n0_; have HB := n1_; clear n0_ n1_; (try clear hb); (try clear hb2); (try clear hk); (try clear hi); (try clear ho0); obtain ⟨Ao8, co8, eo8⟩ := Kd.R_slice HO133.out; subst eo8) | ((with_reducible refine gate_callee (f := 64) rfl ?_); refine goesL_ (some 21) rfl rfl Try.func64 (by kernel_rfl) rfl #[.slice Ao8 t130.length co8] rfl (by (try simp only [List.map_toArray, List.map_cons, List.map_nil]); first | done | rfl | (simp only [List.length_drop, List.length_take]; rfl)) ?_; (with_reducible refine (impl_sum.calls k _ _ t130 t134 _ ?side1 ?side2 A6.out).mono ?_); (case side1 => repeat (first | exact (Kd.R_reads' HO133.out).2.2 | (with_reducible refine Kd.C_alloc ?_ _) | (with_reducible refine Kd.C_drewN ?_ _) | (with_reducible refine Kd.C_drew ?_))); (case side2 => exact (Kd.R_reads' HO133.out).2.1); rintro e w' ⟨rfl, ⟨nd, rfl⟩⟩; refine ⟨_, rfl, ?_⟩))
 go_ret2
 exact ⟨by first | rfl | (simp [errW_none, errW_some] <;> rfl) | (simp [*, errW_none, errW_some] <;> rfl), by repeat (first | (with_reducible first | exact HB.out | apply bA_ | apply bN_ | apply bD_) | exact HB.out)⟩
mutual
def impl_TurnedEscapes.j0 : Nat → Int → Int → Int → Bool → Option (List Int × Bool)
 | 0, _, _, _, _ => none
 | k + 1, x0, x1, x2, x20 => if x20 = true then (some (([] : List Int), false)) else (impl_TurnedEscapes.l0 k x0 x1 x2 (([] : List Int)) (wrap64 (x0 + 1)) 0)
def impl_TurnedEscapes.l0 : Nat → Int → Int → Int → List Int → Int → Int → Option (List Int × Bool)
 | 0, _, _, _, _, _, _ => none
 | k + 1, x0, x1, x2, x8, x23, x24 => if x24 < x23 then ((impl_EscapesOf.f k x0 x1 x24 x2).bind fun bt169 => (if x8.length < 17592186044416 then (impl_TurnedEscapes.l0 k x0 x1 x2 (x8 ++ [bt169.1]) x23 (wrap64 (x24 + 1))) else (none))) else (some (x8, true))
end
def impl_TurnedEscapes.f (k : Nat) (a0 : Int) (a1 : Int) (a2 : Int) : Option (List Int × Bool) := (impl_isBranching.f k a0 a1).bind fun t164 => (if t164 = true then ((impl_in.f a2 0 200).bind fun t165 => (impl_TurnedEscapes.j0 k a0 a1 a2 (!t165))) else (impl_TurnedEscapes.j0 k a0 a1 a2 true))
set_option maxHeartbeats 8000000 in
set_option maxRecDepth 100000 in
theorem impl_TurnedEscapes.calls (k : Nat) (a0 : Int) (a1 : Int) (a2 : Int) (r1 : List Int) (r2 : Bool) (w : World) (h : impl_TurnedEscapes.f k a0 a1 a2 = some (r1, r2)) :
  Calls Try.prog 42 #[.int .i64 a0, .int .i64 a1, .int .i64 a2] w fun e w' => ∃ v0_ : Value, e = .returned (.tuple #[v0_, .bool r2]) ∧ Kd.R (Kd.int .i64) 3 w' w.heap.size (fun _ => True) v0_ r1 ∧ Below w.heap.size w w' := by
 have HB := Aside0.mk (Below.refl w.heap.size w)
 have H : ((impl_isBranching.f k a0 a1).bind fun t164 => (if t164 = true then ((impl_in.f a2 0 200).bind fun t165 => (impl_TurnedEscapes.j0 k a0 a1 a2 (!t165))) else (impl_TurnedEscapes.j0 k a0 a1 a2 true))) = some (r1, r2) := h
 clear h
 have HC4 := Aside0.mk H
 clear H
 go_enter Try.func42, Try.ntmps42
 go_upto_region 1 with (fail)
 go_cut [20] (fun v20 wc => ∃ (kq : Nat) (x20_3 : Bool), v20 = .bool x20_3 ∧ Aside0 (impl_TurnedEscapes.j0 kq a0 a1 a2 x20_3 = some (r1, r2)) ∧ Aside0 (kq ≤ k) ∧ Aside0 (Below w.heap.size w wc))
 case first =>
  have H := HC4.out
  clear HC4
  replace H := Option.bind_eq_some_iff.mp H
  obtain ⟨t164, A50, H⟩ := H
  replace H : (if t164 = true then ((impl_in.f a2 0 200).bind fun t165 => (impl_TurnedEscapes.j0 k a0 a1 a2 (!t165))) else (impl_TurnedEscapes.j0 k a0 a1 a2 true)) = some (r1, r2) := H
  have A5 := Aside0.mk A50
  clear A50
  by_cases c6 : t164 = true
  ·subst c6
   have H1 : ((impl_in.f a2 0 200).bind fun t165 => (impl_TurnedEscapes.j0 k a0 a1 a2 (!t165))) = some (r1, r2) := by rw [if_pos rfl] at H; exact H
   clear H
   have H := H1
   clear H1
   replace H := Option.bind_eq_some_iff.mp H
   obtain ⟨t165, A70, H⟩ := H
   replace H : (impl_TurnedEscapes.j0 k a0 a1 a2 (!t165)) = some (r1, r2) := H
   have A7 := Aside0.mk A70
   clear A70
   have H' := Aside0.mk H
   clear H
   go_wp2_with (first | ((with_reducible refine gate_callee (f := 56) rfl ?_); refine goesL_ (some 14) rfl rfl Try.func56 (by kernel_rfl) rfl #[.int .i64 a0, .int .i64 a1] rfl (by (try simp only [List.map_toArray, List.map_cons, List.map_nil]); first | done | rfl | (simp only [List.length_drop, List.length_take]; rfl)) ?_; (with_reducible refine (impl_isBranching.calls k a0 a1 true _ A5.out).mono ?_); rintro e w' ⟨rfl, ⟨nd, rfl⟩⟩; refine ⟨_, rfl, ?_⟩) | (go_at_call 73; (with_reducible refine (impl_in.calls a2 0 200 t165 _ A7.out).mono ?_); rintro e w' ⟨rfl, ⟨nd, rfl⟩⟩))
   go_meet
   case rel => exact ⟨_, (!t165), (by first | rfl | (simp; done) | (simp [*]; done)), H', ⟨by first | omega | exact Nat.le_refl _⟩, ⟨by repeat (first | (with_reducible first | exact HB.out | apply bA_ | apply bN_ | apply bD_) | exact HB.out)⟩⟩
  ·replace c6 := Bool.eq_false_iff.mpr c6
   subst c6
   have H1 : (impl_TurnedEscapes.j0 k a0 a1 a2 true) = some (r1, r2) := by rw [if_neg (show ¬ (false = true) by decide)] at H; exact H
   clear H
   have H := H1
   clear H1
   have H' := Aside0.mk H
   clear H
   go_wp2_with (first | ((with_reducible refine gate_callee (f := 56) rfl ?_); refine goesL_ (some 14) rfl rfl Try.func56 (by kernel_rfl) rfl #[.int .i64 a0, .int .i64 a1] rfl (by (try simp only [List.map_toArray, List.map_cons, List.map_nil]); first | done | rfl | (simp only [List.length_drop, List.length_take]; rfl)) ?_; (with_reducible refine (impl_isBranching.calls k a0 a1 false _ A5.out).mono ?_); rintro e w' ⟨rfl, ⟨nd, rfl⟩⟩; refine ⟨_, rfl, ?_⟩))
   go_meet
   case rel => exact ⟨_, (true), (by first | rfl | (simp; done) | (simp [*]; done)), H', ⟨by first | omega | exact Nat.le_refl _⟩, ⟨by repeat (first | (with_reducible first | exact HB.out | apply bA_ | apply bN_ | apply bD_) | exact HB.out)⟩⟩
 case rest =>
  clear HC4
  try clear p2
  try clear c4
  try clear c5
  try clear c6
  obtain ⟨kq, x20_3, rfl, HA, HJ3, HB⟩ := hcut
  cases kq with
  | zero => exact absurd HA.out (by simp [impl_TurnedEscapes.j0])
  | succ kj3 =>
   have H := HA.out
   clear HA
   simp only [impl_TurnedEscapes.j0] at H
   by_cases c8 : x20_3 = true
   ·subst c8
    have H1 : (some (([] : List Int), false)) = some (r1, r2) := by rw [if_pos rfl] at H; exact H
    clear H
    have H := H1
    clear H1
    simp only [Option.some.injEq, Prod.mk.injEq] at H
    obtain ⟨rfl, rfl⟩ := H
    go_wp2
    go_ret2
    exact ⟨_, by first | rfl | (simp [errW_none, errW_some] <;> rfl) | (simp [*, errW_none, errW_some] <;> rfl), by first | exact Kd.R_nil _ _ _ _ _ | exact Kd.N_nil _ _ _ _ _ | exact Kd.V_nil _ _ _ _ _ | exact Kd.Q_nil _ _ _ _ _ | exact Kd.S_nil _ _ _ _ _, by repeat (first | (with_reducible first | exact HB.out | apply bA_ | apply bN_ | apply bD_) | exact HB.out)⟩
   ·replace c8 := Bool.eq_false_iff.mpr c8
    subst c8
    have H1 : (impl_TurnedEscapes.l0 kj3 a0 a1 a2 (([] : List Int)) (wrap64 (a0 + 1)) 0) = some (r1, r2) := by rw [if_neg (show ¬ (false = true) by decide)] at H; exact H
    clear H
    have H := H1
    clear H1
    obtain ⟨y166, hy166⟩ : ∃ y_ : List Int, y_ = (([] : List Int)) := ⟨_, rfl⟩
    replace H : (impl_TurnedEscapes.l0 kj3 a0 a1 a2 y166 (wrap64 (a0 + 1)) 0) = some (r1, r2) := by first | (rw [hy166]; with_reducible exact H) | (have H2_ := (Option.bind_some _ _).symm.trans H; rw [hy166]; with_reducible exact H2_) | (have H2_ := (Option.bind_some _ _).symm.trans H; with_reducible exact H2_) | with_reducible exact H | (rw [hy166]; exact H) | exact H
    have Ny166 := Aside0.mk hy166
    clear hy166
    have H' := Aside0.mk H
    clear H
    go_wp2_with (first | ((with_reducible refine gate_dst (N := 21) rfl ?_); refine Kd.R_lit (Kd.int .i64) _ 3 ?hg (N := 21) ?hd (xs := ([] : List Int)) (inner := []) (ok := fun _ => True) (okp := fun _ => True) ?hr ?hp (fun _ hk => hk) trivial (Below.refl _ _) (Nat.le_refl _) (by simp) ?_; (case hd => rfl); (case hg => rfl); (case hr => first | (go_simp; done) | (go_simp; rfl)); (case hp => exact (Reps.none _ _)); intro v167 w9 ho10 hb hg_ hnew_; clear hg_ hnew_; (first | rw [← Ny166.out] at ho10 | (simp only [Int.reduceToNat] at ho10; rw [← Ny166.out] at ho10)); have n0_ := Aside0.mk (Kd.R_lower ho10 (bZ_ (by repeat (first | (with_reducible first | exact HB.out | apply bA_ | apply bN_ | apply bD_) | exact HB.out)))); have n1_ := Aside0.mk (bP_ (by repeat (first | (with_reducible first | exact HB.out | apply bA_ | apply bN_ | apply bD_) | exact HB.out)) hb); clear HB; have HO168 := n0_; have HB := n1_; clear n0_ n1_; clear hb ho10))
    go_loopg [8, 24] kj3 (fun kq v8 v24 w' => ∃ (x8_2 : List Int) (x24_2 : Int), v24 = .int .i64 x24_2 ∧ Aside0 (impl_TurnedEscapes.l0 kq a0 a1 a2 x8_2 (wrap64 (a0 + 1)) x24_2 = some (r1, r2)) ∧ Aside0 (kq ≤ kj3) ∧ Aside0 (Kd.R (Kd.int .i64) 3 w' w.heap.size (fun _ => True) v8 x8_2) ∧ Aside0 (Below w.heap.size w w'))
    case atStart => exact ⟨(y166), (0), (by first | rfl | (simp; done) | (simp [*]; done)), H', ⟨Nat.le_refl _⟩, ⟨by (with_reducible repeat (first | apply Kd.R_alloc | apply Kd.R_drewN | apply Kd.R_drew)); exact HO168.out⟩, ⟨by repeat (first | (with_reducible first | exact HB.out | apply bA_ | apply bN_ | apply bD_) | exact HB.out)⟩⟩
    case round =>
     clear H'
     try clear p2
     try clear c4
     try clear c5
     try clear c6
     try clear p6
     try clear c8
     try clear p2
     obtain ⟨x8_2, x24_2, rfl, HA, HK2, HO_8, HB⟩ := hrel
     cases gk with
     | zero => exact absurd HA.out (by simp [impl_TurnedEscapes.l0])
     | succ k2 =>
      have H := HA.out
      clear HA
      simp only [impl_TurnedEscapes.l0] at H
      by_cases c11 : x24_2 < (wrap64 (a0 + 1))
      ·rw [if_pos c11] at H
       have c11b0 : decide (x24_2 < (wrap64 (a0 + 1))) = true := decide_eq_true c11
       clear c11
       replace H := Option.bind_eq_some_iff.mp H
       obtain ⟨⟨t169, t170⟩, A120, H⟩ := H
       replace H : (if x8_2.length < 17592186044416 then (impl_TurnedEscapes.l0 k2 a0 a1 a2 (x8_2 ++ [t169]) (wrap64 (a0 + 1)) (wrap64 (x24_2 + 1))) else (none)) = some (r1, r2) := H
       have A12 := Aside0.mk A120
       clear A120
       by_cases c13 : x8_2.length < 17592186044416
       ·rw [if_pos c13] at H
        have LMc13 := Aside0.mk c13
        clear c13
        obtain ⟨y171, hy171⟩ : ∃ y_ : List Int, y_ = (x8_2 ++ [t169]) := ⟨_, rfl⟩
        replace H : (impl_TurnedEscapes.l0 k2 a0 a1 a2 y171 (wrap64 (a0 + 1)) (wrap64 (x24_2 + 1))) = some (r1, r2) := by first | (rw [hy171]; with_reducible exact H) | (have H2_ := (Option.bind_some _ _).symm.trans H; rw [hy171]; with_reducible exact H2_) | (have H2_ := (Option.bind_some _ _).symm.trans H; with_reducible exact H2_) | with_reducible exact H | (rw [hy171]; exact H) | exact H
        have Ny171 := Aside0.mk hy171
        clear hy171
        have H' := Aside0.mk H
        clear H
        go_wp2_with (first | ((with_reducible refine gate_callee (f := 25) rfl ?_); refine goesL_ (some 32) rfl rfl Try.func25 (by kernel_rfl) rfl #[.int .i64 a0, .int .i64 a1, .int .i64 x24_2, .int .i64 a2] rfl (by (try simp only [List.map_toArray, List.map_cons, List.map_nil]); first | done | rfl | (simp only [List.length_drop, List.length_take]; rfl)) ?_; (with_reducible refine (impl_EscapesOf.calls k2 a0 a1 x24_2 a2 t169 t170 _ A12.out).mono ?_); rintro e w14 ⟨rfl, hb⟩; refine ⟨_, rfl, ?_⟩; have n0_ := Aside0.mk (Kd.R_below (by (with_reducible repeat (first | apply Kd.R_alloc | apply Kd.R_drewN | apply Kd.R_drew)); exact HO_8.out) hb); have n1_ := Aside0.mk (bP_ (by repeat (first | (with_reducible first | exact HB.out | apply bA_ | apply bN_ | apply bD_) | exact HB.out)) hb); clear HO_8; clear HB; have HO_8 := n0_; have HB := n1_; clear n0_ n1_; (try clear hb); (try clear hb2); (try clear hk); (try clear hi)) | ((with_reducible refine gate_builtin (b := .append) (xs := #[.tmp 35, .tmp 37]) rfl ?_); at_builtin; refine Kd.R_append (Kd.int .i64) (w0 := w) w.heap.size rfl (.tmp 35) (.tmp 37) 34 3 (.int .i64 0) 8 rfl Try.underlying34 info3 rfl (by decide) (by omega) u8 x8_2 t169 [.int .i64 t169] (fun _ => True) (fun _ => False) rfl rfl ?aP (fun _ hk => hk.elim) ?aF ?aO ?aB ?aS ?aL ?_; (case aP => exact rfl); (case aB => exact (by repeat (first | (with_reducible first | exact HB.out | apply bA_ | apply bN_ | apply bD_) | exact HB.out))); (case aF => exact (fun _ _ => trivial)); (case aO => exact (by (with_reducible repeat (first | apply Kd.R_alloc | apply Kd.R_drewN | apply Kd.R_drew)); exact HO_8.out)); (case aS => exact (bZ_ (by repeat (first | (with_reducible first | exact HB.out | apply bA_ | apply bN_ | apply bD_) | exact HB.out)))); (case aL => have := LMc13.out; omega); intro v172 w15 ho hb hg hat; rw [← Ny171.out] at ho; have n0_ := Aside0.mk (hb); have n1_ := Aside0.mk (ho); clear HB; clear HO_8; have HB := n0_; have HO173 := n1_; clear n0_ n1_; clear ho hb hg hat))
        go_roundg k2
        case measure => have := HJ3.out; have := HK2.out; omega
        case rel => exact ⟨(y171), (wrap64 (x24_2 + 1)), (by first | rfl | (simp; done) | (simp [*]; done)), H', ⟨by have := HJ3.out; have := HK2.out; omega⟩, ⟨by (with_reducible repeat (first | apply Kd.R_alloc | apply Kd.R_drewN | apply Kd.R_drew)); exact HO173.out⟩, ⟨by repeat (first | (with_reducible first | exact HB.out | apply bA_ | apply bN_ | apply bD_) | exact HB.out)⟩⟩
       ·rw [if_neg c13] at H
        exact absurd H (by simp)
      ·rw [if_neg c11] at H
       have c11b0 : decide (x24_2 < (wrap64 (a0 + 1))) = false := decide_eq_false c11
       clear c11
       simp only [Option.some.injEq, Prod.mk.injEq] at H
       obtain ⟨rfl, rfl⟩ := H
       go_wp2
       go_ret2
       exact ⟨_, by first | rfl | (simp [errW_none, errW_some] <;> rfl) | (simp [*, errW_none, errW_some] <;> rfl), by (with_reducible repeat (first | apply Kd.R_alloc | apply Kd.R_drewN | apply Kd.R_drew)); exact HO_8.out, by repeat (first | (with_reducible first | exact HB.out | apply bA_ | apply bN_ | apply bD_) | exact HB.out)⟩
end Go.Proofs.Ytmechelmnpoddaa.E7
namespace Go.Proofs.Ytmechelmnpoddaa.H7
open Go.RowKit YtmechelmnpoddaaW.PrintWords YtmechelmnpoddaaW.PrintLast YtmechelmnpoddaaW.PrintMore
open A7
open Go.Shelf Go.Lib
open Es (nth)
theorem forest_all (a0 a1 a2 a3 : Int) (h : asked a0 a1 a2 a3 = true) : ∃ b1 d1, 0 < Es.inner b1 d1 ∧ Es.inner b1 d1 ≤ 130 ∧ ∀ w, Calls Try.prog 66 #[.int .i64 a0, .int .i64 a1, .int .i64 a2, .int .i64 a3] w (FoOut w b1 d1 (Es.inner b1 d1) (outS a0 a1 a2 a3)) := by
 have hb : branch a0 a1 := by
  have : branch a0 a1 ∧ 0 ≤ a2 ∧ a2 ≤ a0 ∧ 0 ≤ a3 ∧ a3 ≤ 200 := by simpa [asked] using h
  exact this.1
 obtain ⟨b1, d1, k1, n1, N, p, rfl, rfl, rfl, rfl, ht, hk, hn, hT, hc⟩ := asked_tree h
 obtain ⟨N', _, _, h3⟩ := nodes_of (b1 : Int) (d1 : Int)
 rw [decide_eq_true hb] at h3
 exact ⟨b1, d1, hT.i0, by have := hT.few; have := hT.sum; omega, fun w => forest_yes b1 d1 _ k1 n1 _ w h3 hT.first (by have := hT.d6; omega) hk hT.b3 hT.b2 (by have := hT.few; have := hT.sum; omega) hT.i0 hn hc⟩
end Go.Proofs.Ytmechelmnpoddaa.H7
namespace Go.Proofs.Ytmechelmnpoddaa.H7
open Go.RowKit YtmechelmnpoddaaW.PrintWords YtmechelmnpoddaaW.PrintLast YtmechelmnpoddaaW.PrintMore
open A7
open Es (nth)
def mostI : Int → List Int → Int
 | m, [] => m
 | m, x :: t => mostI (if m > x then m else x) t
theorem mostI_max : ∀ (l : List Int) (m : Int), mostI m l = l.foldl max m
 | [], m => rfl
 | x :: t, m => by
  show mostI (if m > x then m else x) t = t.foldl max (max m x)
  rw [mostI_max t]
  congr 1
  split <;> omega
theorem foldl_max (a : Int) : ∀ (l : List Int) (b : Int), l.foldl max (max a b) = max a (l.foldl max b)
 | [], b => rfl
 | x :: t, b => by
  show t.foldl max (max (max a b) x) = max a (t.foldl max (max b x))
  rw [show max (max a b) x = max a (max b x) by omega]
  exact foldl_max a t _
theorem maxOf_zero (l : List Int) : Lib.maxOf (l ++ [0]) = mostI 0 l := by
 rw [mostI_max]
 cases l with
 | nil => rfl
 | cons x t =>
  show ((x :: t) ++ [0]).foldl max x = t.foldl max (max 0 x)
  rw [foldl_max, List.foldl_append]
  show max (t.foldl max (max x x)) 0 = _
  rw [show max x x = x by omega]
  omega
def longest (a0 a1 a2 a3 : Int) : Int := mostI 0 (ints (outS a0 a1 a2 a3).trips)
def spec_LongestTrip.f (a0 a1 a2 a3 : Int) : Option (Int × Bool) := some (if asked a0 a1 a2 a3 = true then longest a0 a1 a2 a3 else 0, asked a0 a1 a2 a3)
set_option maxHeartbeats 4000000 in
set_option maxRecDepth 100000 in
theorem spec_LongestTrip.walk (a0 a1 a2 a3 : Int) (w : World) : Calls Try.prog 28 #[.int .i64 a0, .int .i64 a1, .int .i64 a2, .int .i64 a3] w fun e w' => e = .returned (.tuple #[.int .i64 (if asked a0 a1 a2 a3 = true then longest a0 a1 a2 a3 else 0), .bool (asked a0 a1 a2 a3)]) ∧ Below w.heap.size w w' := by
 have HA := Aside0.mk (asked_eq a0 a1 a2 a3)
 cases hq : asked a0 a1 a2 a3 with
 | false =>
  rw [hq] at HA
  rw [if_neg (by decide)]
  clear hq
  go_enter Try.func28, Try.ntmps28
  go_wp2_with (go_at_call 61; (with_reducible refine (spec_esAsked.calls 30 a0 a1 a2 a3 false _ HA.out).mono ?_); rintro e w' ⟨rfl, ⟨nd, rfl⟩⟩)
  go_ret2
  exact ⟨rfl, bN_ (Below.refl _ _) _⟩
 | true =>
  have HB := fun W => go_asked a0 a1 a2 a3 W hq
  have HB := Aside0.mk HB
  have hlen : (outS a0 a1 a2 a3).trips.length ≤ 200 := (out_len hq).2.1
  have HM : longest a0 a1 a2 a3 = mostI 0 (ints (outS a0 a1 a2 a3).trips) := rfl
  rw [hq] at HA
  rw [if_pos rfl, HM]
  clear hq HM
  generalize (outS a0 a1 a2 a3) = S at *
  generalize hN : S.trips.length = N at *
  go_enter Try.func28, Try.ntmps28
  go_wp2_with (first | (go_at_call 61; (with_reducible refine (spec_esAsked.calls 30 a0 a1 a2 a3 true _ HA.out).mono ?_); rintro e w' ⟨rfl, ⟨nd, rfl⟩⟩) | (go_at_call 63; obtain ⟨b1, d1, hc⟩ := HB.out (w.drewN nd); refine hc.mono ?_; rintro e w1 ⟨g, vr, ve, vt, vv, rfl, hB, hF⟩; have hFt := hF.t; rw [hN] at hFt; have HT := Aside0.mk hFt; obtain ⟨A, cA, rfl⟩ := own_slice hFt; have HF := Aside0.mk hF; have HL := Aside0.mk ((bN_ (Below.refl w.heap.size w) nd).trans hB); clear hB hF hFt; have c := blk_cell HF.out.blk 5; simp at c))
  clear HA HB
  go_loopg [10, 28] N (fun kq v10 v28 wr => ∃ (i : Nat) (m : Int), v10 = .int .i64 m ∧ v28 = .int .i64 (i : Int) ∧ Aside0 (i + kq = N ∧ mostI m ((ints S.trips).drop i) = mostI 0 (ints S.trips)) ∧
   Aside0 (wr.ownsRow (w.drewN nd).heap.size 3 1 (.slice A N cA) N (nums .i64 (ints S.trips))) ∧ Aside0 (Below w.heap.size w wr))
  case atStart => exact ⟨0, 0, rfl, rfl, ⟨by omega, rfl⟩, HT, HL⟩
  case round =>
   clear HT HL HF
   obtain ⟨i, m, rfl, rfl, HI, HT, HL⟩ := hrel
   by_cases hlt : i < N
   ·obtain ⟨kq, rfl⟩ : ∃ m, gk = m + 1 := ⟨gk - 1, by have := HI.out.1; omega⟩
    obtain ⟨gt, ct, he, hgt, hct⟩ := HT.out.form (by omega)
    injection he with e1 e2 e3
    subst e1 e3
    have hc := (row_at HT.out i hlt).1
    have HM : spec_l1Most.f m (nth S.trips i : Int) = some (if m > (nth S.trips i : Int) then m else (nth S.trips i : Int)) := by unfold spec_l1Most.f; split <;> rfl
    have HM := Aside0.mk HM
    have hd : mostI (if m > (nth S.trips i : Int) then m else (nth S.trips i : Int)) ((ints S.trips).drop (i + 1)) = mostI 0 (ints S.trips) := by
     have h1 := HI.out.2
     rw [drop_step _ i (by rw [ints_len, hN]; exact hlt)] at h1
     have h2 : (ints S.trips)[i]'(by rw [ints_len, hN]; exact hlt) = (nth S.trips i : Int) := by simp [ints, nth, hN, hlt]
     rw [h2] at h1
     exact h1
    have HD := Aside0.mk hd
    clear hd
    generalize (if m > (nth S.trips i : Int) then m else (nth S.trips i : Int)) = m1 at *
    have hlt' : (i : Int) < (N : Int) := by omega
    have hw1 : IntKind.i64.wrap ((i : Int) + 1) = (i : Int) + 1 := IntWalk.i64_in _ (by omega)
    go_wp2_with (go_at_call 69; (with_reducible refine (spec_l1Most.calls m _ m1 _ HM.out).mono ?_); rintro e w' ⟨rfl, ⟨nd2, rfl⟩⟩)
    go_roundg kq
    case measure => omega
    case rel => exact ⟨i + 1, m1, rfl, by go_num, ⟨by have := HI.out.1; omega, HD.out⟩, ⟨HT.out⟩, ⟨bN_ HL.out _⟩⟩
   ·have hi : i = N := by have := HI.out.1; omega
    have hm : m = mostI 0 (ints S.trips) := by
     have := HI.out.2
     rw [List.drop_of_length_le (by rw [ints_len]; omega)] at this
     exact this
    subst hi
    have hlt' : ¬ ((i : Int) < (i : Int)) := by omega
    go_wp2_with (fail)
    go_ret2
    exact ⟨rfl, HL.out⟩
theorem spec_LongestTrip.calls (a0 a1 a2 a3 r1 : Int) (r2 : Bool) (w : World) (h : spec_LongestTrip.f a0 a1 a2 a3 = some (r1, r2)) :
  Calls Try.prog 28 #[.int .i64 a0, .int .i64 a1, .int .i64 a2, .int .i64 a3] w fun e w' => e = .returned (.tuple #[.int .i64 r1, .bool r2]) ∧ Below w.heap.size w w' := by
 have e := Option.some.inj h
 injection e with e1 e2
 subst e1 e2
 exact spec_LongestTrip.walk a0 a1 a2 a3 w
def impl_LongestTrip.f (a0 a1 a2 a3 : Int) : Option (Int × Bool) := some (if asked a0 a1 a2 a3 = true then longest a0 a1 a2 a3 else 0, asked a0 a1 a2 a3)
set_option maxHeartbeats 1000000 in
set_option maxRecDepth 100000 in
theorem impl_LongestTrip.walk (a0 a1 a2 a3 : Int) (w : World) : Calls Try.prog 29 #[.int .i64 a0, .int .i64 a1, .int .i64 a2, .int .i64 a3] w fun e w' => e = .returned (.tuple #[.int .i64 (if asked a0 a1 a2 a3 = true then longest a0 a1 a2 a3 else 0), .bool (asked a0 a1 a2 a3)]) ∧ Below w.heap.size w w' := by
 obtain ⟨X, hX⟩ : ∃ X, X = (if asked a0 a1 a2 a3 = true then ints (outS a0 a1 a2 a3).trips else []) := ⟨_, rfl⟩
 obtain ⟨ok, hok⟩ : ∃ ok, ok = asked a0 a1 a2 a3 := ⟨_, rfl⟩
 have hlen : X.length ≤ 200 := by rw [hX]; exact list_len a0 a1 a2 a3 (fun s => s.trips) (fun s => by exact .inr (.inl rfl))
 have hr : (if asked a0 a1 a2 a3 = true then longest a0 a1 a2 a3 else 0) = Lib.maxOf (X ++ [0]) := by
  rw [maxOf_zero, hX]
  split <;> rfl
 have HI : impl_TripsOf.f a0 a1 a2 a3 = some (X, ok) := by unfold impl_TripsOf.f; rw [hX, hok]
 have HI := Aside0.mk HI
 obtain ⟨mx, hmx⟩ : ∃ mx, mx = Lib.maxOf (X ++ [0]) := ⟨_, rfl⟩
 rw [hr, ← hok, ← hmx]
 have hmx := Aside0.mk hmx
 clear hr hX hok
 go_enter Try.func29, Try.ntmps29
 go_upto_region 2 with (go_at_call 38; (with_reducible refine (impl_TripsOf.calls a0 a1 a2 a3 X ok _ HI.out).mono ?_); rintro e w1 ⟨v0, rfl, hR, hB⟩; have hO := Kd.own_of_R hR; have HO := Aside0.mk hO; obtain ⟨A, cA, rfl⟩ := own_slice hO; have HB := Aside0.mk hB; clear hO hR hB)
 have ws : w.heap.size ≤ w1.heap.size := HB.out.size
 go_wp2_with (at_builtin; refine print_append_num (w0 := w) w.heap.size rfl (.tmp 20) (.tmp 21) 34 3 .i64 8 rfl Try.underlying34 info3 (by decide) (.slice A X.length cA) X 0 rfl rfl HO.out HB.out ws (by omega) ?_)
 intro v1 w2 hown hbel hg hat
 have hlx : (X ++ [0]).length = X.length + 1 := by simp
 replace hown : w2.ownsRow w.heap.size 3 1 v1 (X.length + 1) (nums .i64 (X ++ [0])) := by simpa using hown
 obtain ⟨g1, c1, rfl, hg1, hc1⟩ := hown.form (by omega)
 have HC := Aside0.mk (fun (j : Nat) (hj : j < (X ++ [0]).length) => (by
  have h := (own_at hown (j : Int) (by omega) (by omega)).1
  rw [Int.toNat_natCast] at h
  rw [Nat.zero_add]
  exact h : w2.cell? ⟨g1, 0 + j, none⟩ = some (Value.int .i64 ((X ++ [0]).getD j 0))))
 have HL := Aside0.mk hbel
 clear hown hbel hg hat HO HB HI
 have HMX := Try.slices_Max_int g1 0 (X.length + 1) c1 (X ++ [0]) w2 (by omega) (by omega) (by omega) HC.out
 rw [List.take_of_length_le (by omega), ← hmx.out] at HMX
 have HMX := Aside0.mk HMX
 clear HC
 clear hlx
 generalize X.length + 1 = n1 at *
 (try simp only [Act.put, List.setIfInBounds_toArray, List.set_cons_zero, List.set_cons_succ])
 go_wp2_with (go_at_call 70; refine (HMX.out).mono ?_; rintro e w' ⟨rfl, hw'⟩; subst w')
 go_ret2
 exact ⟨by rw [hmx.out]; rfl, HL.out⟩
theorem impl_LongestTrip.calls (a0 a1 a2 a3 r1 : Int) (r2 : Bool) (w : World) (h : impl_LongestTrip.f a0 a1 a2 a3 = some (r1, r2)) :
  Calls Try.prog 29 #[.int .i64 a0, .int .i64 a1, .int .i64 a2, .int .i64 a3] w fun e w' => e = .returned (.tuple #[.int .i64 r1, .bool r2]) ∧ Below w.heap.size w w' := by
 have e := Option.some.inj h
 injection e with e1 e2
 subst e1 e2
 exact impl_LongestTrip.walk a0 a1 a2 a3 w
end Go.Proofs.Ytmechelmnpoddaa.H7
namespace Go.Proofs.Ytmechelmnpoddaa.H7
open Go.RowKit YtmechelmnpoddaaW.PrintWords YtmechelmnpoddaaW.PrintLast YtmechelmnpoddaaW.PrintMore
open A7
open Go.Shelf Go.Lib
open Es (nth)
structure Lev (b d l f p : Nat) : Prop where
 power : spec_esPower.f 30 (b : Int) (l : Int) = some (p : Int)
 power2 : impl_power.f 30 (b : Int) (l : Int) = some (p : Int)
 nodes : impl_nodesOf.f 30 (b : Int) (l : Int) = some ((f + p : Nat) : Int)
 first : 0 < l → (p - 1) / (b - 1) = f
 zero : l = 0 → f = 0
 p1 : 1 ≤ p
 fits : f + p ≤ Es.inner b d
 few : f + p ≤ 130
 b2 : 2 ≤ b
def levOk (b d l : Nat) : Bool :=
 decide (spec_esPower.f 30 (b : Int) (l : Int) = some ((b ^ l : Nat) : Int)) && decide (impl_power.f 30 (b : Int) (l : Int) = some ((b ^ l : Nat) : Int)) && decide (impl_nodesOf.f 30 (b : Int) (l : Int) = some ((Es.inner b l + b ^ l : Nat) : Int)) &&
 decide (1 ≤ b ^ l) && decide (Es.inner b l + b ^ l ≤ Es.inner b d) && decide (Es.inner b l + b ^ l ≤ 130) && decide (2 ≤ b) && decide (l = 0 → Es.inner b l = 0)
theorem lev_all : (Es.trees.all fun t => (List.range t.2).all fun l => levOk t.1 t.2 l) = true := by decide +kernel
theorem lev_is (b d l : Nat) (h : (b, d) ∈ Es.trees) (hl : l < d) : Lev b d l (Es.inner b l) (b ^ l) := by
 have h1 := List.all_eq_true.1 lev_all _ h
 have h2 := List.all_eq_true.1 h1 l (List.mem_range.2 hl)
 simp only [levOk, Bool.and_eq_true, decide_eq_true_eq] at h2
 obtain ⟨⟨⟨⟨⟨⟨⟨h3, h4⟩, h5⟩, h6⟩, h7⟩, h8⟩, h9⟩, h10⟩ := h2
 exact ⟨h3, h4, h5, fun _ => rfl, h10, h6, h7, h8, h9⟩
def rowOf (a0 a1 a2 a3 a4 : Int) : List Nat := ((outS a0 a1 a2 a3).rot.drop (Es.inner a0.toNat a4.toNat)).take (a0.toNat ^ a4.toNat)
def lasked (a0 a1 a2 a3 a4 : Int) : Bool := asked a0 a1 a2 a3 && decide (0 ≤ a4 ∧ a4 ≤ a1 - 1)
def spec_RotorsOnLevel.f (a0 a1 a2 a3 a4 : Int) : Option (List Int × Bool) := some (if lasked a0 a1 a2 a3 a4 = true then ints (rowOf a0 a1 a2 a3 a4) else [], lasked a0 a1 a2 a3 a4)
set_option maxHeartbeats 4000000 in
set_option maxRecDepth 100000 in
theorem spec_RotorsOnLevel.no (a0 a1 a2 a3 a4 : Int) (w : World) (hq : lasked a0 a1 a2 a3 a4 = false) (h1 : 0 ≤ a1 ∧ a1 ≤ 100 ∨ asked a0 a1 a2 a3 = false) : Calls Try.prog 39 #[.int .i64 a0, .int .i64 a1, .int .i64 a2, .int .i64 a3, .int .i64 a4] w (SlOut w [] false) := by
 have HA := Aside0.mk (asked_eq a0 a1 a2 a3)
 have HI := Aside0.mk (in_eq a4 0 (a1 - 1)).1
 unfold lasked at hq
 cases hb : asked a0 a1 a2 a3 with
 | false =>
  rw [hb] at HA
  clear hq hb h1
  go_enter Try.func39, Try.ntmps39
  go_wp2_with (go_at_call 61; (with_reducible refine (spec_esAsked.calls 30 a0 a1 a2 a3 false _ HA.out).mono ?_); rintro e w' ⟨rfl, ⟨nd, rfl⟩⟩)
  go_ret2
  exact slout_no _ _ (bN_ (Below.refl _ _) _)
 | true =>
  rw [hb] at hq HA h1
  have h2 : decide (0 ≤ a4 ∧ a4 ≤ a1 - 1) = false := by simpa using hq
  rw [h2] at HI
  have h3 : 0 ≤ a1 ∧ a1 ≤ 100 := by simpa using h1
  have hw : IntKind.i64.wrap (a1 - 1) = a1 - 1 := IntWalk.i64_in _ (by omega)
  clear hq hb h1 h2 h3
  go_enter Try.func39, Try.ntmps39
  go_wp2_with (first | (go_at_call 61; (with_reducible refine (spec_esAsked.calls 30 a0 a1 a2 a3 true _ HA.out).mono ?_); rintro e w' ⟨rfl, ⟨nd, rfl⟩⟩) | (go_at_call 71; (with_reducible refine (spec_l1In.calls a4 0 (a1 - 1) false _ HI.out).mono ?_); rintro e w' ⟨rfl, ⟨nd2, rfl⟩⟩))
  go_ret2
  exact slout_no _ _ (bN_ (Below.refl _ _) _)
theorem run_rot (b inner : Nat) : ∀ (k a l st : Nat) (rot vis : List Nat) e s R V, Es.run b inner k a l st rot vis = some (e, s, R, V) → R.length = rot.length
 | 0, _, _, _, _, _, _, _, _, _, h => by simp [Es.run] at h
 | k + 1, a, l, st, rot, vis, e, s, R, V, h => by
  unfold Es.run at h
  split at h
  ·split at h
   ·split at h
    ·split at h
     ·exact (run_rot b inner k _ _ _ _ _ _ _ _ _ h).trans (by simp)
     ·cases h
    ·split at h
     ·split at h
      ·simp only [Option.some.injEq, Prod.mk.injEq] at h
       rw [← h.2.2.1]
       simp
      ·cases h
     ·split at h
      ·exact (run_rot b inner k _ _ _ _ _ _ _ _ _ h).trans (by simp)
      ·cases h
   ·cases h
  ·simp only [Option.some.injEq, Prod.mk.injEq] at h
   rw [← h.2.2.1]
theorem chips_rot (b inner : Nat) : ∀ (n : Nat) (s S : Es.St), Es.chips b inner n s = some S → S.rot.length = s.rot.length
 | 0, s, S, h => by
  simp only [Es.chips, Option.some.injEq] at h
  rw [h]
 | n + 1, s, S, h => by
  unfold Es.chips at h
  split at h
  ·cases h
  ·rename_i e st rot vis hc
   have h1 := chips_rot b inner n _ _ h
   unfold Es.chip at hc
   split at hc
   ·exact h1.trans (run_rot _ _ _ _ _ _ _ _ _ _ _ _ hc)
   ·cases hc
theorem lasked_is {a0 a1 a2 a3 a4 : Int} (h : lasked a0 a1 a2 a3 a4 = true) : asked a0 a1 a2 a3 = true ∧ ∃ b d l f p : Nat, a0 = b ∧ a1 = d ∧ a4 = l ∧ l < d ∧ d ≤ 6 ∧ b ≤ 3 ∧ Lev b d l f p ∧ rowOf a0 a1 a2 a3 a4 = ((outS a0 a1 a2 a3).rot.drop f).take p ∧ (outS a0 a1 a2 a3).rot.length = Es.inner b d := by
 unfold lasked at h
 simp only [Bool.and_eq_true, decide_eq_true_eq] at h
 obtain ⟨h1, h2, h3⟩ := h
 obtain ⟨b, d, k, n, N, p, rfl, rfl, rfl, rfl, ht, hk, hn, hT, hc⟩ := asked_tree h1
 have hl : a4.toNat < d := by omega
 refine ⟨h1, b, d, a4.toNat, _, _, rfl, rfl, by omega, hl, hT.d6, hT.b3, lev_is b d a4.toNat ht hl, by unfold rowOf; rw [Int.toNat_natCast], ?_⟩
 exact (chips_rot b (Es.inner b d) n _ _ hc).trans (by simp [Es.start])
theorem slout_end {w a c W' : World} {v : Value} {X : List Int} (h1 : Below w.heap.size w a) (h2 : Below a.heap.size a c) (h4 : Below c.heap.size c W') (hR : Kd.R (Kd.int .i64) 3 W' c.heap.size (fun _ => True) v X) : SlOut w X true (.returned (.tuple #[v, .bool true])) W' :=
 ⟨v, rfl, Kd.R_lower hR (by have := h1.size; have := h2.size; omega), below_then (below_then h1 h1.size h2) (by have := h1.size; have := h2.size; omega) h4⟩
theorem l1Own_eq (X : List Int) (h : X.length ≤ 200) : spec_l1Own.f X = some X := by
 unfold spec_l1Own.f
 simp only [Option.bind_some]
 rw [if_pos (by simp; omega)]
 rfl
theorem lev_cut {w1 : World} {base n f p : Nat} {vr : Value} {rot : List Nat} (h : w1.ownsRow base 3 1 vr n (nums .i64 (ints rot))) (hfit : f + p ≤ rot.length) {X : List Int} (hX : X = ints ((rot.drop f).take p)) :
  ∃ A c A', vr = .slice A n c ∧ (∀ W : World, (Instr.slice 34 (.slice A n c) (some (.int .i64 (f : Int))) (some (.int .i64 ((f : Int) + (p : Int)))) none).run Try.prog W = .ok (.slice A' X.length (c - f)) W) ∧
   Kd.C (Kd.int .i64) w1 A' X.length X ∧ X.length ≤ c - f := by
 have hn := row_len h
 obtain ⟨A, c, hv, hlc, hC⟩ := Kd.R_reads (own_R h)
 obtain ⟨i0, hi, hzz⟩ := Option.map_eq_some_iff.1 info3
 simp only [Prod.mk.injEq] at hzz
 have hl : (ints rot).length = n := by rw [ints_len]; exact hn
 have hXe : X = ((ints rot).take (f + p)).drop f := by
  rw [hX, List.drop_take]
  simp [ints, List.map_take, List.map_drop]
 have hXl : X.length = p := by rw [hX, ints_len]; simp; omega
 refine ⟨A, c, if c = f then A else A.map (·.add (f * 1)), by rw [hv, hl], fun W => ?_, ?_, by rw [hXl]; omega⟩
 ·rw [cut_mid (P := Try.prog) 34 3 .i64 .i64 Try.underlying34 hi 1 hzz.2.1 A n c f ((f : Int) + (p : Int)) (by omega) (by omega) (by omega) (by omega) W]
  rw [Int.toNat_natCast, show ((f : Int) + (p : Int)).toNat - f = X.length by omega]
 ·have := Kd.C_mid (lo := f) (hi := f + p) hC (by omega) (by omega) hlc
  rw [← hXe] at this
  exact this
set_option maxHeartbeats 4000000 in
set_option maxRecDepth 100000 in
theorem spec_RotorsOnLevel.yes (a0 a1 a2 a3 a4 : Int) (w : World) (hq : lasked a0 a1 a2 a3 a4 = true) : Calls Try.prog 39 #[.int .i64 a0, .int .i64 a1, .int .i64 a2, .int .i64 a3, .int .i64 a4] w (SlOut w (ints (rowOf a0 a1 a2 a3 a4)) true) := by
 obtain ⟨hb, b, d, l, f, p, rfl, rfl, rfl, hld, hd6, hb3, hL, hrow, hlen⟩ := lasked_is hq
 have HA := asked_eq b d a2 a3
 rw [hb] at HA
 replace HA := Aside0.mk HA
 have HI := (in_eq (l : Int) 0 ((d : Int) - 1)).1
 rw [decide_eq_true (show 0 ≤ (l : Int) ∧ (l : Int) ≤ (d : Int) - 1 by omega)] at HI
 replace HI := Aside0.mk HI
 have HG := fun W => go_asked b d a2 a3 W hb
 replace HG := Aside0.mk HG
 have hw : IntKind.i64.wrap ((d : Int) - 1) = (d : Int) - 1 := IntWalk.i64_in _ (by omega)
 rw [hrow]
 clear hq hb hrow
 generalize outS (b : Int) (d : Int) a2 a3 = S at *
 replace hlen := Aside0.mk hlen
 have HL := Aside0.mk hL
 have b2 := hL.b2
 have p1 := hL.p1
 obtain ⟨X, HX⟩ : ∃ X, X = ints ((S.rot.drop f).take p) := ⟨_, rfl⟩
 rw [← HX]
 have HXl : X.length ≤ 200 := by have := hL.few; rw [HX, ints_len, List.length_take]; omega
 replace HXl := Aside0.mk HXl
 replace HX := Aside0.mk HX
 have few := hL.few
 clear hL
 go_enter Try.func39, Try.ntmps39
 go_upto_if 27 with (first | (go_at_call 61; (with_reducible refine (spec_esAsked.calls 30 b d a2 a3 true _ HA.out).mono ?_); rintro e w' ⟨rfl, ⟨nd, rfl⟩⟩) | (go_at_call 71; (with_reducible refine (spec_l1In.calls l 0 ((d : Int) - 1) true _ HI.out).mono ?_); rintro e w' ⟨rfl, ⟨nd2, rfl⟩⟩))
 go_cut [12] (fun v12 wc => v12 = .int .i64 (f : Int) ∧ Aside0 (Below w.heap.size w wc))
 case first =>
  rcases Nat.eq_zero_or_pos l with h0 | h0
  ·subst h0
   have hf := Aside0.mk (HL.out.zero rfl)
   go_wp2_with (fail)
   go_meet
   case rel => exact ⟨by rw [hf.out]; rfl, ⟨by repeat (first | exact Below.refl _ _ | apply bN_)⟩⟩
  ·have hf := HL.out.first h0
   have HP := Aside0.mk HL.out.power
   have e1 : ((p : Int) - 1) / ((b : Int) - 1) = (f : Int) := by
    rw [← hf, Int.natCast_ediv, Int.natCast_sub (by omega), Int.natCast_sub (by omega)]; rfl
   have e1 := Aside0.mk e1
   have hl : (0 : Int) < (l : Int) := by omega
   clear hf
   go_wp2_with (go_at_call 59; (with_reducible refine (spec_esPower.calls 30 b l p _ HP.out).mono ?_); rintro e w' ⟨rfl, ⟨nd3, rfl⟩⟩)
   go_meet
   case rel => exact ⟨by rw [← e1.out], ⟨by repeat (first | exact Below.refl _ _ | apply bN_)⟩⟩
 case rest =>
  obtain ⟨rfl, HB⟩ := hcut
  have HP := Aside0.mk HL.out.power
  have HS := l1Own_eq X HXl.out
  replace HS := Aside0.mk HS
  have hw1 : IntKind.i64.wrap ((f : Int) + (p : Int)) = (f : Int) + (p : Int) := IntWalk.i64_in _ (by omega)
  go_upto_region 6 with (fail)
  go_region_with (first | (go_at_call 59; (with_reducible refine (spec_esPower.calls 30 b l p _ HP.out).mono ?_); rintro e w' ⟨rfl, ⟨nd3, rfl⟩⟩) | (go_at_call 63; obtain ⟨b1, d1, hc⟩ := HG.out _; refine hc.mono ?_; rintro e w1 ⟨g, vr, ve, vt, vv, rfl, hB, hF⟩; obtain ⟨A, cc, A1, rfl, hcu, hC, hle⟩ := lev_cut hF.r (by rw [hlen.out]; exact HL.out.fits) HX.out; have HC := Aside0.mk hC; have HLE := Aside0.mk hle; clear hC hle; have HF := Aside0.mk hF; have HLB := Aside0.mk hB; clear hB hF; have c := blk_cell HF.out.blk 3; simp at c) | (go_at_call 72; (with_reducible refine (spec_l1Own.calls _ _ X X _ (by first | exact HC.out | exact Kd.C_drewN HC.out _ | exact Kd.C_drew HC.out) HLE.out HS.out).mono ?_); rintro e w' ⟨v0, rfl, hR, hB2⟩; have HR := Aside0.mk hR; have HB2 := Aside0.mk hB2; clear hR hB2))
  all_goals go_wp2_with (fail)
  all_goals go_ret2
  all_goals exact slout_end (by repeat (first | exact HB.out | apply bN_ | apply below_drew)) HLB.out (by first | exact HB2.out | exact (bN_ (Below.refl _ _) _).trans HB2.out) (by first | exact HR.out | exact HR.out)
theorem spec_RotorsOnLevel.calls (a0 a1 a2 a3 a4 : Int) (r1 : List Int) (r2 : Bool) (w : World) (h : spec_RotorsOnLevel.f a0 a1 a2 a3 a4 = some (r1, r2)) :
  Calls Try.prog 39 #[.int .i64 a0, .int .i64 a1, .int .i64 a2, .int .i64 a3, .int .i64 a4] w fun e w' => ∃ v0_ : Value, e = .returned (.tuple #[v0_, .bool r2]) ∧ Kd.R (Kd.int .i64) 3 w' w.heap.size (fun _ => True) v0_ r1 ∧ Below w.heap.size w w' := by
 have e := Option.some.inj h
 injection e with e1 e2
 cases hq : lasked a0 a1 a2 a3 a4 with
 | true =>
  rw [hq] at e1 e2
  rw [if_pos rfl] at e1
  subst e1 e2
  exact spec_RotorsOnLevel.yes a0 a1 a2 a3 a4 w hq
 | false =>
  rw [hq] at e1 e2
  rw [if_neg (by decide)] at e1
  subst e1 e2
  refine spec_RotorsOnLevel.no a0 a1 a2 a3 a4 w hq ?_
  cases hb : asked a0 a1 a2 a3 with
  | false => exact .inr rfl
  | true =>
   have : branch a0 a1 ∧ 0 ≤ a2 ∧ a2 ≤ a0 ∧ 0 ≤ a3 ∧ a3 ≤ 200 := by simpa [asked] using hb
   have h1 := this.1
   unfold branch at h1
   exact .inl (by omega)
theorem addr_plain {w : World} {ad : Addr} {v : Value} (h : w.cell? ad = some v) : ad = ⟨ad.block, ad.off, none⟩ := by
 obtain ⟨b, o, s⟩ := ad
 cases s with
 | none => rfl
 | some s =>
  simp only [World.cell?] at h
  split at h
  ·simp at h
  ·cases h
theorem clone_calls (A : Option Addr) (c : Nat) (l : List Int) (w : World) (hl : l.length ≤ 1000000) (hr : Kd.C (Kd.int .i64) w A l.length l) :
  Calls Try.prog 74 #[.slice A l.length c] w fun e w' => ∃ v, e = .returned v ∧ Kd.R (Kd.int .i64) 3 w' w.heap.size (fun _ => True) v l ∧ Below w.heap.size w w' := by
 rcases Nat.eq_zero_or_pos l.length with h0 | h0
 ·obtain rfl : l = [] := List.eq_nil_of_length_eq_zero h0
  cases A with
  | none =>
   refine (Try.slices_Clone_int_nil 0 c w).mono ?_
   rintro e w' ⟨rfl, rfl⟩
   exact ⟨_, rfl, Kd.R_nil _ _ _ _ _, Below.refl _ _⟩
  | some a =>
   refine (Try.slices_Clone_int_zero a c w).mono ?_
   rintro e w' ⟨v, rfl, ho, _, hB⟩
   exact ⟨v, rfl, Kd.R_of_own ho (fun _ _ => trivial), hB⟩
 ·have hcell : ∀ j, j < l.length → ∃ ad, A = some ad ∧ w.cell? (ad.add j) = some (.int .i64 (l.getD j 0)) := fun j hj => by
   obtain ⟨ad, e, hc⟩ := Kd.at_int hr (j : Int) (by omega) (by omega)
   rw [Int.toNat_natCast] at hc
   exact ⟨ad, e, by simpa [rd] using hc⟩
  obtain ⟨ad, rfl, hc0⟩ := hcell 0 h0
  have hpl : ad = ⟨ad.block, ad.off, none⟩ := addr_plain (by simpa [Addr.add] using hc0)
  have hc : ∀ j, j < l.length → w.cell? ⟨ad.block, ad.off + j, none⟩ = some (.int .i64 (l.getD j 0)) := fun j hj => by
   obtain ⟨ad', e, hc⟩ := hcell j hj
   injection e with e
   subst e
   rw [← hc]
   congr 1
   unfold Addr.add
   split
   ·rename_i h; subst h; exact hpl.symm
   ·rfl
  rw [hpl]
  refine (Try.slices_Clone_int ad.block ad.off l.length c l w (Nat.le_refl _) (by omega) hc).mono ?_
  rintro e w' ⟨v, rfl, ho, _, hB⟩
  rw [List.take_of_length_le (Nat.le_refl _)] at ho
  exact ⟨v, rfl, Kd.R_of_own ho (fun _ _ => trivial), hB⟩
def impl_RotorsOnLevel.f (a0 a1 a2 a3 a4 : Int) : Option (List Int × Bool) := some (if lasked a0 a1 a2 a3 a4 = true then ints (rowOf a0 a1 a2 a3 a4) else [], lasked a0 a1 a2 a3 a4)
set_option maxHeartbeats 4000000 in
set_option maxRecDepth 100000 in
theorem impl_RotorsOnLevel.no (a0 a1 a2 a3 a4 : Int) (w : World) (hq : lasked a0 a1 a2 a3 a4 = false) (h1 : 0 ≤ a1 ∧ a1 ≤ 100 ∨ asked a0 a1 a2 a3 = false) : Calls Try.prog 40 #[.int .i64 a0, .int .i64 a1, .int .i64 a2, .int .i64 a3, .int .i64 a4] w (SlOut w [] false) := by
 have HI := (in_eq a4 0 (a1 - 1)).2
 unfold lasked at hq
 cases hb : asked a0 a1 a2 a3 with
 | false =>
  have HA := fun W => forest_not a0 a1 a2 a3 W hb
  replace HA := Aside0.mk HA
  clear hq hb h1 HI
  go_enter Try.func40, Try.ntmps40
  go_wp2_with (go_at_call 66; refine (HA.out _).mono ?_; rintro e w' ⟨rfl, hB⟩; have HB := Aside0.mk hB; clear hB)
  go_ret2
  exact slout_no _ _ HB.out
 | true =>
  rw [hb] at hq h1
  have h2 : decide (0 ≤ a4 ∧ a4 ≤ a1 - 1) = false := by simpa using hq
  rw [h2] at HI
  replace HI := Aside0.mk HI
  have h3 : 0 ≤ a1 ∧ a1 ≤ 100 := by simpa using h1
  have hw : IntKind.i64.wrap (a1 - 1) = a1 - 1 := IntWalk.i64_in _ (by omega)
  obtain ⟨b1, d1, hi0, hi9, HB⟩ := forest_all a0 a1 a2 a3 hb
  replace HB := Aside0.mk HB
  clear hq hb h1 h2 h3
  go_enter Try.func40, Try.ntmps40
  go_wp2_with (first | (go_at_call 66; refine (HB.out _).mono ?_; rintro e w1 ⟨g, vr, ve, vt, vv, rfl, hB, hF⟩; have HF := Aside0.mk hF; have HL := Aside0.mk hB; clear hB hF) | (go_at_call 73; (with_reducible refine (pay_in a4 0 (a1 - 1) _ _ HI.out).mono ?_); rintro e w' ⟨rfl, ⟨nd2, rfl⟩⟩))
  go_ret2
  exact slout_no _ _ (bN_ HL.out _)
set_option maxHeartbeats 4000000 in
set_option maxRecDepth 100000 in
theorem impl_RotorsOnLevel.yes (a0 a1 a2 a3 a4 : Int) (w : World) (hq : lasked a0 a1 a2 a3 a4 = true) : Calls Try.prog 40 #[.int .i64 a0, .int .i64 a1, .int .i64 a2, .int .i64 a3, .int .i64 a4] w (SlOut w (ints (rowOf a0 a1 a2 a3 a4)) true) := by
 obtain ⟨hb, b, d, l, f, p, rfl, rfl, rfl, hld, hd6, hb3, hL, hrow, hlen⟩ := lasked_is hq
 have HI := (in_eq (l : Int) 0 ((d : Int) - 1)).2
 rw [decide_eq_true (show 0 ≤ (l : Int) ∧ (l : Int) ≤ (d : Int) - 1 by omega)] at HI
 replace HI := Aside0.mk HI
 obtain ⟨b1, d1, hi0, hi9, HG⟩ := forest_all b d a2 a3 hb
 replace HG := Aside0.mk HG
 have hw : IntKind.i64.wrap ((d : Int) - 1) = (d : Int) - 1 := IntWalk.i64_in _ (by omega)
 rw [hrow]
 clear hq hb hrow
 generalize outS (b : Int) (d : Int) a2 a3 = S at *
 obtain ⟨X, HX⟩ : ∃ X, X = ints ((S.rot.drop f).take p) := ⟨_, rfl⟩
 rw [← HX]
 have HXl : X.length ≤ 200 := by have := hL.few; rw [HX, ints_len, List.length_take]; omega
 replace HXl := Aside0.mk HXl
 replace HX := Aside0.mk HX
 replace hlen := Aside0.mk hlen
 have HL := Aside0.mk hL
 have b2 := hL.b2
 have p1 := hL.p1
 have few := hL.few
 have HP := Aside0.mk HL.out.power2
 have HN := Aside0.mk HL.out.nodes
 clear hL
 have hw1 : IntKind.i64.wrap (((f + p : Nat) : Int) - (p : Int)) = (f : Int) := by rw [show ((f + p : Nat) : Int) - (p : Int) = (f : Int) by omega]; exact IntWalk.i64_in _ (by omega)
 rw [show ((f + p : Nat) : Int) = (f : Int) + (p : Int) by omega] at hw1
 have hw2 : IntKind.i64.wrap (f : Int) = (f : Int) := IntWalk.i64_in _ (by omega)
 have HN2 : impl_nodesOf.f 30 (b : Int) (l : Int) = some ((f : Int) + (p : Int)) := by rw [HN.out]; simp
 replace HN2 := Aside0.mk HN2
 go_enter Try.func40, Try.ntmps40
 go_upto_region 4 with (first | (go_at_call 66; refine (HG.out _).mono ?_; rintro e w1 ⟨g, vr, ve, vt, vv, rfl, hB, hF⟩; obtain ⟨A, cc, A1, rfl, hcu, hC, hle⟩ := lev_cut hF.r (by rw [hlen.out]; exact HL.out.fits) HX.out; have HC := Aside0.mk hC; have HLE := Aside0.mk hle; clear hC hle; have HF := Aside0.mk hF; have HLB := Aside0.mk hB; clear hB hF) | (go_at_call 73; (with_reducible refine (pay_in l 0 ((d : Int) - 1) _ _ HI.out).mono ?_); rintro e w' ⟨rfl, ⟨nd2, rfl⟩⟩))
 have c := blk_cell HF.out.blk 2
 simp at c
 go_region_with (first | (go_at_call 57; (with_reducible refine (impl_nodesOf.calls 30 b l _ _ HN2.out).mono ?_); rintro e w' ⟨rfl, ⟨nq, rfl⟩⟩) | (go_at_call 75; (with_reducible refine (impl_power.calls 30 b l p _ HP.out).mono ?_); rintro e w' ⟨rfl, ⟨nq, rfl⟩⟩) | (go_at_call 74; refine (clone_calls A1 _ X _ (by have := HXl.out; omega) (by first | exact HC.out | exact Kd.C_drewN HC.out _ | exact Kd.C_drew HC.out)).mono ?_; rintro e w' ⟨v0, rfl, hR, hB2⟩; have HR := Aside0.mk hR; have HB2 := Aside0.mk hB2; clear hR hB2))
 all_goals go_wp2_with (fail)
 all_goals go_ret2
 all_goals exact slout_end (Below.refl _ _) (by repeat (first | exact HLB.out | apply bN_ | apply below_drew)) HB2.out HR.out
theorem impl_RotorsOnLevel.calls (a0 a1 a2 a3 a4 : Int) (r1 : List Int) (r2 : Bool) (w : World) (h : impl_RotorsOnLevel.f a0 a1 a2 a3 a4 = some (r1, r2)) :
  Calls Try.prog 40 #[.int .i64 a0, .int .i64 a1, .int .i64 a2, .int .i64 a3, .int .i64 a4] w fun e w' => ∃ v0_ : Value, e = .returned (.tuple #[v0_, .bool r2]) ∧ Kd.R (Kd.int .i64) 3 w' w.heap.size (fun _ => True) v0_ r1 ∧ Below w.heap.size w w' := by
 have e := Option.some.inj h
 injection e with e1 e2
 cases hq : lasked a0 a1 a2 a3 a4 with
 | true =>
  rw [hq] at e1 e2
  rw [if_pos rfl] at e1
  subst e1 e2
  exact impl_RotorsOnLevel.yes a0 a1 a2 a3 a4 w hq
 | false =>
  rw [hq] at e1 e2
  rw [if_neg (by decide)] at e1
  subst e1 e2
  refine impl_RotorsOnLevel.no a0 a1 a2 a3 a4 w hq ?_
  cases hb : asked a0 a1 a2 a3 with
  | false => exact .inr rfl
  | true =>
   have : branch a0 a1 ∧ 0 ≤ a2 ∧ a2 ≤ a0 ∧ 0 ≤ a3 ∧ a3 ≤ 200 := by simpa [asked] using hb
   have h1 := this.1
   unfold branch at h1
   exact .inl (by omega)
end Go.Proofs.Ytmechelmnpoddaa.H7
namespace Go.Proofs.Ytmechelmnpoddaa.H7
open Go.RowKit YtmechelmnpoddaaW.PrintWords YtmechelmnpoddaaW.PrintLast YtmechelmnpoddaaW.PrintMore
open A7 E7
theorem succ_of {d k : Nat} (h : d < k) : ∃ m, k = m + 1 := ⟨k - 1, by omega⟩
end Go.Proofs.Ytmechelmnpoddaa.H7
namespace Go.Proofs.Ytmechelmnpoddaa.H7
open Go.RowKit YtmechelmnpoddaaW.PrintWords YtmechelmnpoddaaW.PrintLast YtmechelmnpoddaaW.PrintMore
open A7 E7
theorem impl_escapes (a0 a1 a2 a3 : Int) (k : Nat) (hk : 201 ≤ k) : impl_EscapesOf.f k a0 a1 a2 a3 = some (if asked a0 a1 a2 a3 = true then sumE a0 a1 a2 a3 else 0, asked a0 a1 a2 a3) := by
 obtain ⟨X, hX⟩ : ∃ X, X = (if asked a0 a1 a2 a3 = true then ints (outS a0 a1 a2 a3).ends else []) := ⟨_, rfl⟩
 have hlen : X.length ≤ 200 := by rw [hX]; exact list_len a0 a1 a2 a3 (fun s => s.ends) (fun s => by exact .inl rfl)
 have habs : absI X ≤ 4611686018427387904 := by
  rw [hX]
  split
  ·rename_i h; have := ends_abs h; omega
  ·decide
 have hr : sumI X = (if asked a0 a1 a2 a3 = true then sumE a0 a1 a2 a3 else 0) := by
  rw [hX]
  split <;> rfl
 have hs := sum_eq X (by omega) habs
 refine at_rounds (g := fun k => impl_EscapesOf.f k a0 a1 a2 a3) (fun k => impl_EscapesOf.mono _ _ _ _ k) (k := X.length + 1) (by omega) ?_
 show impl_EscapesOf.f _ a0 a1 a2 a3 = _
 unfold impl_EscapesOf.f impl_EscapeList.f
 rw [← hX, ← hr]
 simp only [Option.bind_some]
 rw [hs]
 simp
theorem turned_take (a0 a1 a2 : Int) (i : Nat) (hi : i < a0.toNat + 1) : (turnedL a0 a1 a2).take (i + 1) = (turnedL a0 a1 a2).take i ++ [sumE a0 a1 (i : Int) a2] := by
 rw [List.take_succ_eq_append_getElem (by simp [turnedL]; omega)]
 simp [turnedL]
theorem turned_loop (b : Nat) (d n : Int) (hb : b ≤ 3) (hq : asked (b : Int) d 0 n = true) : ∀ (m i k : Nat), i + m = b + 1 → 300 + m ≤ k →
  impl_TurnedEscapes.l0 k (b : Int) d n ((turnedL (b : Int) d n).take i) ((b : Int) + 1) (i : Int) = some (turnedL (b : Int) d n, true) := by
 intro m
 induction m with
 | zero =>
  intro i k hi hk
  obtain ⟨k, rfl⟩ := succ_of (show 0 < k by omega)
  simp only [impl_TurnedEscapes.l0]
  rw [if_neg (by omega), List.take_of_length_le (by simp [turnedL]; omega)]
 | succ m ih =>
  intro i k hi hk
  obtain ⟨k, rfl⟩ := succ_of (show 0 < k by omega)
  simp only [impl_TurnedEscapes.l0]
  have ha := asked_turn hq (show (0 : Int) ≤ (i : Int) by omega) (by omega)
  have hw : wrap64 ((i : Int) + 1) = ((i + 1 : Nat) : Int) := by rw [wrap_id (by omega) (by omega)]; omega
  rw [if_pos (by omega), impl_escapes _ _ _ _ _ (by omega), ha, Option.bind_some, if_pos (by rw [List.length_take]; omega), hw, if_pos rfl, ← turned_take (b : Int) d n i (by omega)]
  exact ih (i + 1) k (by omega) (by omega)
theorem branching_eq (a0 a1 : Int) (k : Nat) (hk : 30 ≤ k) : impl_isBranching.f k a0 a1 = some (decide (branch a0 a1)) := by
 obtain ⟨N, _, _, h⟩ := nodes_of a0 a1
 exact at_rounds (g := fun k => impl_isBranching.f k a0 a1) (fun k => impl_isBranching.mono _ _ k) hk h
theorem turned_impl (a0 a1 a2 : Int) : ∀ k, 1000 ≤ k → impl_TurnedEscapes.f k a0 a1 a2 = some (if asked a0 a1 0 a2 = true then turnedL a0 a1 a2 else [], asked a0 a1 0 a2) := by
 intro k hk
 obtain ⟨k, rfl⟩ := succ_of (show 0 < k by omega)
 unfold impl_TurnedEscapes.f
 rw [branching_eq a0 a1 _ (by omega), Option.bind_some]
 by_cases hb : branch a0 a1
 ·rw [if_pos (decide_eq_true hb), (in_eq a2 0 200).2, Option.bind_some]
  simp only [impl_TurnedEscapes.j0]
  have hb0 : 0 ≤ a0 ∧ a0 ≤ 3 := by unfold branch at hb; omega
  by_cases hn : 0 ≤ a2 ∧ a2 ≤ 200
  ·have hq : asked a0 a1 0 a2 = true := by simp only [asked, decide_eq_true_eq]; exact ⟨hb, by omega, by omega, hn⟩
   obtain ⟨b, rfl⟩ := Int.eq_ofNat_of_zero_le hb0.1
   rw [decide_eq_true hn, if_neg (by decide), hq, if_pos rfl, wrap_id (by omega) (by omega)]
   exact turned_loop b a1 a2 (by omega) hq (b + 1) 0 k (by omega) (by omega)
  ·have hq : asked a0 a1 0 a2 = false := by simp only [asked, decide_eq_false_iff_not]; exact fun h => hn h.2.2.2
   rw [decide_eq_false hn, if_pos (by decide), hq, if_neg (by decide)]
 ·have hq : asked a0 a1 0 a2 = false := by simp only [asked, decide_eq_false_iff_not]; exact fun h => hb h.1
  rw [if_neg (by simpa using hb), hq, if_neg (by decide)]
  simp only [impl_TurnedEscapes.j0]
  rw [if_pos trivial]
theorem turned_len (a0 a1 a2 : Int) (h : asked a0 a1 0 a2 = true) : (turnedL a0 a1 a2).length ≤ 200 := by
 have h' : branch a0 a1 ∧ (0 : Int) ≤ 0 ∧ 0 ≤ a0 ∧ 0 ≤ a2 ∧ a2 ≤ 200 := by simpa [asked] using h
 have hb := h'.1
 unfold branch at hb
 simp [turnedL]
 omega
end Go.Proofs.Ytmechelmnpoddaa.H7
namespace Go.Proofs.Ytmechelmnpoddaa.F7
open Go.RowKit YtmechelmnpoddaaW.PrintWords YtmechelmnpoddaaW.PrintLast YtmechelmnpoddaaW.PrintMore
open A7 E7 H7
attribute [local go_sem] max2_int min2_int max_two min_two max_three min_three max_four min_four
def errW : Option Int → Value
 | none => .nilIface
 | some c => .iface 0 (.int .i64 c)
theorem errW_none : errW none = .nilIface := rfl
theorem errW_some (c : Int) : errW (some c) = .iface 0 (.int .i64 c) := rfl
end Go.Proofs.Ytmechelmnpoddaa.F7
namespace Go.Proofs.Ytmechelmnpoddaa.F7
open Go.RowKit YtmechelmnpoddaaW.PrintWords YtmechelmnpoddaaW.PrintLast YtmechelmnpoddaaW.PrintMore
open A7 E7 H7
attribute [local go_sem] max2_int min2_int max_two min_two max_three min_three max_four min_four
def laws_big.f (l0 : List Int) (l1 : List Int) : Option (Bool) := if (l0.length : Int) > 1048576 then (some true) else (some (decide ((l1.length : Int) > (wrap64 (1048576 - (l0.length : Int))))))
set_option maxHeartbeats 8000000 in
set_option maxRecDepth 100000 in
theorem laws_big.calls (A0 : Option Addr) (c0 : Nat) (l0 : List Int) (A1 : Option Addr) (c1 : Nat) (l1 : List Int) (r : Bool) (w : World) (hr0 : Kd.C (Kd.int .u8) w A0 l0.length l0) (hc0 : l0.length ≤ c0) (hr1 : Kd.C (Kd.int .u8) w A1 l1.length l1) (hc1 : l1.length ≤ c1) (h : laws_big.f l0 l1 = some r) :
  Calls Try.prog 45 #[.slice A0 l0.length c0, .slice A1 l1.length c1] w fun e w' => e = .returned (.bool r) ∧ Drawn0 w w' := by
 have HR0 := Aside0.mk hr0
 have HC0 := Aside0.mk hc0
 clear hr0 hc0
 have HR1 := Aside0.mk hr1
 have HC1 := Aside0.mk hc1
 clear hr1 hc1
 have H : (if (l0.length : Int) > 1048576 then (some true) else (some (decide ((l1.length : Int) > (wrap64 (1048576 - (l0.length : Int))))))) = some r := h
 clear h
 by_cases c3 : (l0.length : Int) > 1048576
 ·rw [if_pos c3] at H
  have c3b0 : decide (1048576 < (l0.length : Int)) = true := decide_eq_true c3
  have c3b1 : decide (1048576 < l0.length) = true := decide_eq_true (by omega)
  clear c3
  obtain rfl := Option.some.inj H
  go_enter Try.func45, Try.ntmps45
  go_wp2
  go_ret
  exact ⟨by first | rfl | (simp; done) | (simp [*]; done), by repeat (first | exact Drawn0.refl _ | apply Drawn0.step)⟩
 ·rw [if_neg c3] at H
  have c3b0 : decide (1048576 < (l0.length : Int)) = false := decide_eq_false c3
  have c3b1 : decide (1048576 < l0.length) = false := decide_eq_false (by omega)
  clear c3
  obtain rfl := Option.some.inj H
  go_enter Try.func45, Try.ntmps45
  go_wp2
  go_ret
  exact ⟨by first | rfl | (simp; done) | (simp [*]; done), by repeat (first | exact Drawn0.refl _ | apply Drawn0.step)⟩
def IsS74 (w0 W : World) (g : Nat) (f0 : List Int) (f1 : Int) (f2 : Int) : Prop := ∃ A0 c0, W.heap[g]? = some (.cells #[.slice A0 f0.length c0, .int .i64 f1, .int .u64 f2] 74 (0, 0)) ∧ w0.heap.size ≤ g ∧ Kd.C (Kd.int .u8) w0 A0 f0.length f0
theorem IsS74.grown {w0 W : World} {g : Nat} {f0 : List Int} {f1 : Int} {f2 : Int} {W1 : World} {row : Option Nat} (h : IsS74 w0 W g f0 f1 f2) (hw : W.grownBy W1 row) (hne : some g ≠ row) : IsS74 w0 W1 g f0 f1 f2 := by
 obtain ⟨A0, c0, hb, hg, hr0⟩ := h
 exact ⟨A0, c0, blk_grown hb hw hne, hg, hr0⟩
theorem IsS74.below {w0 W : World} {g : Nat} {f0 : List Int} {f1 : Int} {f2 : Int} {W1 : World} (h : IsS74 w0 W g f0 f1 f2) (hw : Below W.heap.size W W1) : IsS74 w0 W1 g f0 f1 f2 := h.grown (grown_of_below hw none) (by simp)
theorem IsS74.drewN {w0 W : World} {g : Nat} {f0 : List Int} {f1 : Int} {f2 : Int} (h : IsS74 w0 W g f0 f1 f2) (m : Nat) : IsS74 w0 (W.drewN m) g f0 f1 f2 := h
theorem IsS74.apart {w0 W : World} {g : Nat} {f0 : List Int} {f1 : Int} {f2 : Int} {α : Type} {d : Kd α} {e : Nat} {base : Nat} {ok : Nat → Prop} {v : Value} {xs : List α} (h : IsS74 w0 W g f0 f1 f2) (ho : d.R e W base ok v xs) (ht : ∀ q, q ∈ e :: d.E → q ≠ 74) : d.R e W base (fun k => ok k ∧ k ≠ g) v xs := by
 obtain ⟨A0, c0, hb, hg, hr0⟩ := h
 exact Kd.R_types ho hb ht
theorem IsS74.own_ne {w0 W : World} {g : Nat} {f0 : List Int} {f1 : Int} {f2 : Int} {α : Type} {d : Kd α} {e : Nat} {base : Nat} {ok : Nat → Prop} {v : Value} {xs : List α} (h : IsS74 w0 W g f0 f1 f2) (ho : d.R e W base ok v xs) (ht : e ≠ 74) : some g ≠ v.ownBlock := by
 obtain ⟨A0, c0, hb, hg, hr0⟩ := h
 exact Kd.R_ne ho hb ht
theorem IsS74.ge {w0 W : World} {g : Nat} {f0 : List Int} {f1 : Int} {f2 : Int} (h : IsS74 w0 W g f0 f1 f2) : w0.heap.size ≤ g := by
 obtain ⟨A0, c0, hb, hg, hr0⟩ := h
 exact hg
theorem cellS74_0 {W : World} {g : Nat} {A0 : Option Addr} {c0 : Nat} {f0 : List Int} {f1 : Int} {f2 : Int} (h : W.heap[g]? = some (.cells #[.slice A0 f0.length c0, .int .i64 f1, .int .u64 f2] 74 (0, 0))) : W.cell? ⟨g, 0, none⟩ = some (.slice A0 f0.length c0) := (blk_cell h 0).trans rfl
theorem cellS74_1 {W : World} {g : Nat} {A0 : Option Addr} {c0 : Nat} {f0 : List Int} {f1 : Int} {f2 : Int} (h : W.heap[g]? = some (.cells #[.slice A0 f0.length c0, .int .i64 f1, .int .u64 f2] 74 (0, 0))) : W.cell? ⟨g, 1, none⟩ = some (.int .i64 f1) := (blk_cell h 1).trans rfl
theorem IsS74.set_1 {w0 W : World} {g : Nat} {f0 : List Int} {f1 : Int} {f2 : Int} (h : IsS74 w0 W g f0 f1 f2) (x : Int) : IsS74 w0 (W.setCell ⟨g, 1, none⟩ (.int .i64 x)) g f0 x f2 := by
 obtain ⟨A0, c0, hb, hg, hr0⟩ := h
 exact ⟨A0, c0, by simpa using blk_set hb 1 (.int .i64 x), hg, hr0⟩
theorem cellS74_2 {W : World} {g : Nat} {A0 : Option Addr} {c0 : Nat} {f0 : List Int} {f1 : Int} {f2 : Int} (h : W.heap[g]? = some (.cells #[.slice A0 f0.length c0, .int .i64 f1, .int .u64 f2] 74 (0, 0))) : W.cell? ⟨g, 2, none⟩ = some (.int .u64 f2) := (blk_cell h 2).trans rfl
theorem IsS74.set_2 {w0 W : World} {g : Nat} {f0 : List Int} {f1 : Int} {f2 : Int} (h : IsS74 w0 W g f0 f1 f2) (x : Int) : IsS74 w0 (W.setCell ⟨g, 2, none⟩ (.int .u64 x)) g f0 f1 x := by
 obtain ⟨A0, c0, hb, hg, hr0⟩ := h
 exact ⟨A0, c0, by simpa using blk_set hb 2 (.int .u64 x), hg, hr0⟩
theorem IsS74.new (w0 W : World) (A0 : Option Addr) (c0 : Nat) (f0 : List Int) (f1 : Int) (f2 : Int) (hB : Below w0.heap.size w0 W) (hr0 : Kd.C (Kd.int .u8) w0 A0 f0.length f0) : IsS74 w0 (W.alloc (.cells #[.slice A0 f0.length c0, .int .i64 f1, .int .u64 f2] 74)) W.heap.size f0 f1 f2 := ⟨A0, c0, by simpa using heap_alloc_new W _, hB.size, hr0⟩
def spec_l1Cur_next.f (s0_0 : List Int) (s0_1 : Int) (s0_2 : Int) : Option (Int × Int × Int) := if s0_1 < (s0_0.length : Int) then (if 0 ≤ s0_1 then (if (wrap64 (s0_1 + 1)) ≤ (s0_0.length : Int) then (some (wrap64 (rd s0_0 s0_1), wrap64 (s0_1 + 1), IntKind.u64.wrap ((IntKind.u64.wrap ((IntKind.u64.wrap (s0_2 * 6364136223846793005)) + (IntKind.u64.wrap (wrap64 (rd s0_0 s0_1))))) + 1442695040888963407))) else (some (wrap64 (Go.bits .and .u64 ((IntKind.u64.wrap ((IntKind.u64.wrap ((IntKind.u64.wrap (s0_2 * 6364136223846793005)) + (IntKind.u64.wrap (wrap64 (rd s0_0 s0_1))))) + 1442695040888963407)) / 1099511627776) 255), wrap64 (s0_1 + 1), IntKind.u64.wrap ((IntKind.u64.wrap ((IntKind.u64.wrap (s0_2 * 6364136223846793005)) + (IntKind.u64.wrap (wrap64 (rd s0_0 s0_1))))) + 1442695040888963407)))) else (none)) else (if (wrap64 (s0_1 + 1)) ≤ (s0_0.length : Int) then (some (0, wrap64 (s0_1 + 1), IntKind.u64.wrap ((IntKind.u64.wrap ((IntKind.u64.wrap (s0_2 * 6364136223846793005)))) + 1442695040888963407))) else (some (wrap64 (Go.bits .and .u64 ((IntKind.u64.wrap ((IntKind.u64.wrap ((IntKind.u64.wrap (s0_2 * 6364136223846793005)))) + 1442695040888963407)) / 1099511627776) 255), wrap64 (s0_1 + 1), IntKind.u64.wrap ((IntKind.u64.wrap ((IntKind.u64.wrap (s0_2 * 6364136223846793005)))) + 1442695040888963407))))
set_option maxHeartbeats 8000000 in
set_option maxRecDepth 100000 in
theorem spec_l1Cur_next.calls (g : Nat) (s0_0 : List Int) (s0_1 : Int) (s0_2 : Int) (r1 : Int) (r2 : Int) (r3 : Int) (w0 w : World) (hI : IsS74 w0 w g s0_0 s0_1 s0_2) (hB : Below w0.heap.size w0 w) (h : spec_l1Cur_next.f s0_0 s0_1 s0_2 = some (r1, r2, r3)) :
  Calls Try.prog 91 #[.pointer (some ⟨g, 0, none⟩)] w fun e w' => e = .returned (.int .i64 r1) ∧ IsS74 w0 w' g s0_0 r2 r3 ∧ Below w0.heap.size w0 w' ∧ KeepBut w w' g none := by
 have HI0 := Aside0.mk hI
 have HK := Aside0.mk (KeepBut.refl w g none)
 have HL := Aside0.mk hB.size
 clear hI
 have HW0 := Aside0.mk hB.size
 have HB := Aside0.mk hB
 clear hB
 have H : (if s0_1 < (s0_0.length : Int) then (if 0 ≤ s0_1 then (if (wrap64 (s0_1 + 1)) ≤ (s0_0.length : Int) then (some (wrap64 (rd s0_0 s0_1), wrap64 (s0_1 + 1), IntKind.u64.wrap ((IntKind.u64.wrap ((IntKind.u64.wrap (s0_2 * 6364136223846793005)) + (IntKind.u64.wrap (wrap64 (rd s0_0 s0_1))))) + 1442695040888963407))) else (some (wrap64 (Go.bits .and .u64 ((IntKind.u64.wrap ((IntKind.u64.wrap ((IntKind.u64.wrap (s0_2 * 6364136223846793005)) + (IntKind.u64.wrap (wrap64 (rd s0_0 s0_1))))) + 1442695040888963407)) / 1099511627776) 255), wrap64 (s0_1 + 1), IntKind.u64.wrap ((IntKind.u64.wrap ((IntKind.u64.wrap (s0_2 * 6364136223846793005)) + (IntKind.u64.wrap (wrap64 (rd s0_0 s0_1))))) + 1442695040888963407)))) else (none)) else (if (wrap64 (s0_1 + 1)) ≤ (s0_0.length : Int) then (some (0, wrap64 (s0_1 + 1), IntKind.u64.wrap ((IntKind.u64.wrap ((IntKind.u64.wrap (s0_2 * 6364136223846793005)))) + 1442695040888963407))) else (some (wrap64 (Go.bits .and .u64 ((IntKind.u64.wrap ((IntKind.u64.wrap ((IntKind.u64.wrap (s0_2 * 6364136223846793005)))) + 1442695040888963407)) / 1099511627776) 255), wrap64 (s0_1 + 1), IntKind.u64.wrap ((IntKind.u64.wrap ((IntKind.u64.wrap (s0_2 * 6364136223846793005)))) + 1442695040888963407))))) = some (r1, r2, r3) := h
 clear h
 by_cases c2 : s0_1 < (s0_0.length : Int)
 ·rw [if_pos c2] at H
  have c2b0 : decide (s0_1 < (s0_0.length : Int)) = true := decide_eq_true c2
  clear c2
  by_cases c3 : 0 ≤ s0_1
  ·rw [if_pos c3] at H
   have c3b0 : decide (0 ≤ s0_1) = true := decide_eq_true c3
   clear c3
   by_cases c4 : (wrap64 (s0_1 + 1)) ≤ (s0_0.length : Int)
   ·rw [if_pos c4] at H
    have c4b0 : decide ((wrap64 (s0_1 + 1)) ≤ (s0_0.length : Int)) = true := decide_eq_true c4
    clear c4
    simp only [Option.some.injEq, Prod.mk.injEq] at H
    obtain ⟨rfl, rfl, rfl⟩ := H
    obtain ⟨ASz5_0, cSz5_0, HGz5, hgz5, HSz5_0⟩ := HI0.out
    have hcz5_0 := cellS74_0 HGz5
    have hcz5_1 := cellS74_1 HGz5
    have hcz5_2 := cellS74_2 HGz5
    have hfz5_1 := kF_ HGz5 1
    have hfz5_2 := kF_ HGz5 2
    clear HGz5 hgz5
    have p146 : 0 ≤ (s0_1 : Int) := of_decide_eq_true (by first | (with_reducible assumption) | assumption)
    have q146 : s0_1 < (s0_0.length : Int) := of_decide_eq_true (by first | (with_reducible assumption) | assumption)
    obtain ⟨ad146, e146, hx146_0⟩ := Kd.at_int HSz5_0 s0_1 p146 q146
    cases e146
    replace hx146_0 := pw_cell_below HB.out hx146_0
    replace p146 := eq_true p146
    replace q146 := eq_true q146
    go_enter Try.func91, Try.ntmps91
    go_wp2
    repeat (go_quiet (fail); try go_wp2)
    go_ret
    exact ⟨by first | rfl | (simp [errW_none, errW_some] <;> rfl) | (simp [*, errW_none, errW_some] <;> rfl), by repeat (first | (with_reducible first | exact HI0.out | apply IsS74.alloc | apply IsS74.drewN | apply IsS74.drew | apply IsS74.set_1 | apply IsS74.set_2) | exact HI0.out), by repeat (first | (with_reducible first | exact HB.out | apply bA_ | apply bN_ | apply bD_ | refine bS_ ?_ (IsS74.ge HI0.out)) | exact HB.out), by repeat (first | (with_reducible first | exact HK.out | apply KeepBut.set_ | apply keep_drewN | apply keep_drew | apply keep_alloc) | exact HK.out)⟩
   ·rw [if_neg c4] at H
    have c4b0 : decide ((wrap64 (s0_1 + 1)) ≤ (s0_0.length : Int)) = false := decide_eq_false c4
    clear c4
    simp only [Option.some.injEq, Prod.mk.injEq] at H
    obtain ⟨rfl, rfl, rfl⟩ := H
    obtain ⟨ASz6_0, cSz6_0, HGz6, hgz6, HSz6_0⟩ := HI0.out
    have hcz6_0 := cellS74_0 HGz6
    have hcz6_1 := cellS74_1 HGz6
    have hcz6_2 := cellS74_2 HGz6
    have hfz6_1 := kF_ HGz6 1
    have hfz6_2 := kF_ HGz6 2
    clear HGz6 hgz6
    have p146 : 0 ≤ (s0_1 : Int) := of_decide_eq_true (by first | (with_reducible assumption) | assumption)
    have q146 : s0_1 < (s0_0.length : Int) := of_decide_eq_true (by first | (with_reducible assumption) | assumption)
    obtain ⟨ad146, e146, hx146_0⟩ := Kd.at_int HSz6_0 s0_1 p146 q146
    cases e146
    replace hx146_0 := pw_cell_below HB.out hx146_0
    replace p146 := eq_true p146
    replace q146 := eq_true q146
    go_enter Try.func91, Try.ntmps91
    go_wp2
    repeat (go_quiet (fail); try go_wp2)
    go_ret
    exact ⟨by first | rfl | (simp [errW_none, errW_some] <;> rfl) | (simp [*, errW_none, errW_some] <;> rfl), by repeat (first | (with_reducible first | exact HI0.out | apply IsS74.alloc | apply IsS74.drewN | apply IsS74.drew | apply IsS74.set_1 | apply IsS74.set_2) | exact HI0.out), by repeat (first | (with_reducible first | exact HB.out | apply bA_ | apply bN_ | apply bD_ | refine bS_ ?_ (IsS74.ge HI0.out)) | exact HB.out), by repeat (first | (with_reducible first | exact HK.out | apply KeepBut.set_ | apply keep_drewN | apply keep_drew | apply keep_alloc) | exact HK.out)⟩
  ·rw [if_neg c3] at H
   exact absurd H (by simp)
 ·rw [if_neg c2] at H
  have c2b0 : decide (s0_1 < (s0_0.length : Int)) = false := decide_eq_false c2
  clear c2
  by_cases c7 : (wrap64 (s0_1 + 1)) ≤ (s0_0.length : Int)
  ·rw [if_pos c7] at H
   have c7b0 : decide ((wrap64 (s0_1 + 1)) ≤ (s0_0.length : Int)) = true := decide_eq_true c7
   clear c7
   simp only [Option.some.injEq, Prod.mk.injEq] at H
   obtain ⟨rfl, rfl, rfl⟩ := H
   obtain ⟨ASz8_0, cSz8_0, HGz8, hgz8, HSz8_0⟩ := HI0.out
   have hcz8_0 := cellS74_0 HGz8
   have hcz8_1 := cellS74_1 HGz8
   have hcz8_2 := cellS74_2 HGz8
   have hfz8_1 := kF_ HGz8 1
   have hfz8_2 := kF_ HGz8 2
   clear HGz8 hgz8
   go_enter Try.func91, Try.ntmps91
   go_wp2
   repeat (go_quiet (fail); try go_wp2)
   go_ret
   exact ⟨by first | rfl | (simp [errW_none, errW_some] <;> rfl) | (simp [*, errW_none, errW_some] <;> rfl), by repeat (first | (with_reducible first | exact HI0.out | apply IsS74.alloc | apply IsS74.drewN | apply IsS74.drew | apply IsS74.set_1 | apply IsS74.set_2) | exact HI0.out), by repeat (first | (with_reducible first | exact HB.out | apply bA_ | apply bN_ | apply bD_ | refine bS_ ?_ (IsS74.ge HI0.out)) | exact HB.out), by repeat (first | (with_reducible first | exact HK.out | apply KeepBut.set_ | apply keep_drewN | apply keep_drew | apply keep_alloc) | exact HK.out)⟩
  ·rw [if_neg c7] at H
   have c7b0 : decide ((wrap64 (s0_1 + 1)) ≤ (s0_0.length : Int)) = false := decide_eq_false c7
   clear c7
   simp only [Option.some.injEq, Prod.mk.injEq] at H
   obtain ⟨rfl, rfl, rfl⟩ := H
   obtain ⟨ASz9_0, cSz9_0, HGz9, hgz9, HSz9_0⟩ := HI0.out
   have hcz9_0 := cellS74_0 HGz9
   have hcz9_1 := cellS74_1 HGz9
   have hcz9_2 := cellS74_2 HGz9
   have hfz9_1 := kF_ HGz9 1
   have hfz9_2 := kF_ HGz9 2
   clear HGz9 hgz9
   go_enter Try.func91, Try.ntmps91
   go_wp2
   repeat (go_quiet (fail); try go_wp2)
   go_ret
   exact ⟨by first | rfl | (simp [errW_none, errW_some] <;> rfl) | (simp [*, errW_none, errW_some] <;> rfl), by repeat (first | (with_reducible first | exact HI0.out | apply IsS74.alloc | apply IsS74.drewN | apply IsS74.drew | apply IsS74.set_1 | apply IsS74.set_2) | exact HI0.out), by repeat (first | (with_reducible first | exact HB.out | apply bA_ | apply bN_ | apply bD_ | refine bS_ ?_ (IsS74.ge HI0.out)) | exact HB.out), by repeat (first | (with_reducible first | exact HK.out | apply KeepBut.set_ | apply keep_drewN | apply keep_drew | apply keep_alloc) | exact HK.out)⟩
def spec_l1Cur_pick.f (s0_0 : List Int) (s0_1 : Int) (s0_2 : Int) (a1 : Int) : Option (Int × Int × Int) := if a1 ≤ 1 then (some (0, s0_1, s0_2)) else ((spec_l1Cur_next.f s0_0 s0_1 s0_2).bind fun bt147 => (if a1 > 200 then ((spec_l1Cur_next.f s0_0 bt147.2.1 bt147.2.2).bind fun bt150 => (if a1 = 0 then (none) else (some (Int.tmod (wrap64 ((wrap64 (bt147.1 * 256)) + bt150.1)) a1, bt150.2.1, bt150.2.2)))) else (if a1 = 0 then (none) else (some (Int.tmod bt147.1 a1, bt147.2.1, bt147.2.2)))))
set_option maxHeartbeats 8000000 in
set_option maxRecDepth 100000 in
theorem spec_l1Cur_pick.calls (g : Nat) (s0_0 : List Int) (s0_1 : Int) (s0_2 : Int) (a1 : Int) (r1 : Int) (r2 : Int) (r3 : Int) (w0 w : World) (hI : IsS74 w0 w g s0_0 s0_1 s0_2) (hB : Below w0.heap.size w0 w) (h : spec_l1Cur_pick.f s0_0 s0_1 s0_2 a1 = some (r1, r2, r3)) :
  Calls Try.prog 89 #[.pointer (some ⟨g, 0, none⟩), .int .i64 a1] w fun e w' => e = .returned (.int .i64 r1) ∧ IsS74 w0 w' g s0_0 r2 r3 ∧ Below w0.heap.size w0 w' ∧ KeepBut w w' g none := by
 have HI0 := Aside0.mk hI
 have HK := Aside0.mk (KeepBut.refl w g none)
 have HL := Aside0.mk hB.size
 clear hI
 have HW0 := Aside0.mk hB.size
 have HB := Aside0.mk hB
 clear hB
 have H : (if a1 ≤ 1 then (some (0, s0_1, s0_2)) else ((spec_l1Cur_next.f s0_0 s0_1 s0_2).bind fun bt147 => (if a1 > 200 then ((spec_l1Cur_next.f s0_0 bt147.2.1 bt147.2.2).bind fun bt150 => (if a1 = 0 then (none) else (some (Int.tmod (wrap64 ((wrap64 (bt147.1 * 256)) + bt150.1)) a1, bt150.2.1, bt150.2.2)))) else (if a1 = 0 then (none) else (some (Int.tmod bt147.1 a1, bt147.2.1, bt147.2.2)))))) = some (r1, r2, r3) := h
 clear h
 by_cases c3 : a1 ≤ 1
 ·rw [if_pos c3] at H
  have c3b0 : decide (a1 ≤ 1) = true := decide_eq_true c3
  clear c3
  simp only [Option.some.injEq, Prod.mk.injEq] at H
  obtain ⟨rfl, rfl, rfl⟩ := H
  go_enter Try.func89, Try.ntmps89
  go_wp2
  go_ret
  exact ⟨by first | rfl | (simp [errW_none, errW_some] <;> rfl) | (simp [*, errW_none, errW_some] <;> rfl), by repeat (first | (with_reducible first | exact HI0.out | apply IsS74.alloc | apply IsS74.drewN | apply IsS74.drew | apply IsS74.set_1 | apply IsS74.set_2) | exact HI0.out), by repeat (first | (with_reducible first | exact HB.out | apply bA_ | apply bN_ | apply bD_ | refine bS_ ?_ (IsS74.ge HI0.out)) | exact HB.out), by repeat (first | (with_reducible first | exact HK.out | apply KeepBut.set_ | apply keep_drewN | apply keep_drew | apply keep_alloc) | exact HK.out)⟩
 ·rw [if_neg c3] at H
  have c3b0 : decide (a1 ≤ 1) = false := decide_eq_false c3
  clear c3
  replace H := Option.bind_eq_some_iff.mp H
  obtain ⟨⟨t147, t148, t149⟩, A40, H⟩ := H
  replace H : (if a1 > 200 then ((spec_l1Cur_next.f s0_0 t148 t149).bind fun bt150 => (if a1 = 0 then (none) else (some (Int.tmod (wrap64 ((wrap64 (t147 * 256)) + bt150.1)) a1, bt150.2.1, bt150.2.2)))) else (if a1 = 0 then (none) else (some (Int.tmod t147 a1, t148, t149)))) = some (r1, r2, r3) := H
  have A4 := Aside0.mk A40
  clear A40
  by_cases c5 : a1 > 200
  ·rw [if_pos c5] at H
   have c5b0 : decide (200 < a1) = true := decide_eq_true c5
   clear c5
   replace H := Option.bind_eq_some_iff.mp H
   obtain ⟨⟨t150, t151, t152⟩, A60, H⟩ := H
   replace H : (if a1 = 0 then (none) else (some (Int.tmod (wrap64 ((wrap64 (t147 * 256)) + t150)) a1, t151, t152))) = some (r1, r2, r3) := H
   have A6 := Aside0.mk A60
   clear A60
   by_cases c7 : a1 = 0
   ·rw [if_pos c7] at H
    exact absurd H (by simp)
   ·rw [if_neg c7] at H
    have c7b0 : (a1 == 0) = false := beq_eq_false_iff_ne.mpr c7
    have c7b1 : (a1 != 0) = true := bne_iff_ne.mpr c7
    simp only [Option.some.injEq, Prod.mk.injEq] at H
    obtain ⟨rfl, rfl, rfl⟩ := H
    go_enter Try.func89, Try.ntmps89
    go_wp2_with (first | ((with_reducible refine gate_callee (f := 91) rfl ?_); refine goesL_ (some 9) rfl rfl Try.func91 (by kernel_rfl) rfl #[.pointer (some ⟨g, 0, none⟩)] rfl (by (try simp only [List.map_toArray, List.map_cons, List.map_nil]); first | done | rfl | (simp only [List.length_drop, List.length_take]; rfl)) ?_; (with_reducible refine (spec_l1Cur_next.calls g s0_0 s0_1 s0_2 t147 t148 t149 w0 _ ?side1 ?side2 A4.out).mono ?_); (case side1 => repeat (first | (with_reducible first | exact HI0.out | apply IsS74.alloc | apply IsS74.drewN | apply IsS74.drew | apply IsS74.set_1 | apply IsS74.set_2) | exact HI0.out)); (case side2 => repeat (first | (with_reducible first | exact HB.out | apply bA_ | apply bN_ | apply bD_ | refine bS_ ?_ (IsS74.ge HI0.out)) | exact HB.out)); rintro e w8 ⟨rfl, hi, hb, hk⟩; refine ⟨_, rfl, ?_⟩; have n0_ := Aside0.mk (KeepBut.trans (by repeat (first | (with_reducible first | exact HK.out | apply KeepBut.set_ | apply keep_drewN | apply keep_drew | apply keep_alloc) | exact HK.out)) hk (.inl rfl)); have n1_ := Aside0.mk (hb); have n2_ := Aside0.mk (hi); clear HK; clear HB; clear HI0; have HK := n0_; have HB := n1_; have HI0 := n2_; clear n0_ n1_ n2_; (try clear hb); (try clear hb2); (try clear hk); (try clear hi)) | ((with_reducible refine gate_callee (f := 91) rfl ?_); refine goesL_ (some 15) rfl rfl Try.func91 (by kernel_rfl) rfl #[.pointer (some ⟨g, 0, none⟩)] rfl (by (try simp only [List.map_toArray, List.map_cons, List.map_nil]); first | done | rfl | (simp only [List.length_drop, List.length_take]; rfl)) ?_; (with_reducible refine (spec_l1Cur_next.calls g s0_0 t148 t149 t150 t151 t152 w0 _ ?side1 ?side2 A6.out).mono ?_); (case side1 => repeat (first | (with_reducible first | exact HI0.out | apply IsS74.alloc | apply IsS74.drewN | apply IsS74.drew | apply IsS74.set_1 | apply IsS74.set_2) | exact HI0.out)); (case side2 => repeat (first | (with_reducible first | exact HB.out | apply bA_ | apply bN_ | apply bD_ | refine bS_ ?_ (IsS74.ge HI0.out)) | exact HB.out)); rintro e w9 ⟨rfl, hi, hb, hk⟩; refine ⟨_, rfl, ?_⟩; have n0_ := Aside0.mk (KeepBut.trans (by repeat (first | (with_reducible first | exact HK.out | apply KeepBut.set_ | apply keep_drewN | apply keep_drew | apply keep_alloc) | exact HK.out)) hk (.inl rfl)); have n1_ := Aside0.mk (hb); have n2_ := Aside0.mk (hi); clear HK; clear HB; clear HI0; have HK := n0_; have HB := n1_; have HI0 := n2_; clear n0_ n1_ n2_; (try clear hb); (try clear hb2); (try clear hk); (try clear hi)))
    go_ret
    exact ⟨by first | rfl | (simp [errW_none, errW_some] <;> rfl) | (simp [*, errW_none, errW_some] <;> rfl), by repeat (first | (with_reducible first | exact HI0.out | apply IsS74.alloc | apply IsS74.drewN | apply IsS74.drew | apply IsS74.set_1 | apply IsS74.set_2) | exact HI0.out), by repeat (first | (with_reducible first | exact HB.out | apply bA_ | apply bN_ | apply bD_ | refine bS_ ?_ (IsS74.ge HI0.out)) | exact HB.out), by repeat (first | (with_reducible first | exact HK.out | apply KeepBut.set_ | apply keep_drewN | apply keep_drew | apply keep_alloc) | exact HK.out)⟩
  ·rw [if_neg c5] at H
   have c5b0 : decide (200 < a1) = false := decide_eq_false c5
   clear c5
   by_cases c10 : a1 = 0
   ·rw [if_pos c10] at H
    exact absurd H (by simp)
   ·rw [if_neg c10] at H
    have c10b0 : (a1 == 0) = false := beq_eq_false_iff_ne.mpr c10
    have c10b1 : (a1 != 0) = true := bne_iff_ne.mpr c10
    simp only [Option.some.injEq, Prod.mk.injEq] at H
    obtain ⟨rfl, rfl, rfl⟩ := H
    go_enter Try.func89, Try.ntmps89
    go_wp2_with (first | ((with_reducible refine gate_callee (f := 91) rfl ?_); refine goesL_ (some 9) rfl rfl Try.func91 (by kernel_rfl) rfl #[.pointer (some ⟨g, 0, none⟩)] rfl (by (try simp only [List.map_toArray, List.map_cons, List.map_nil]); first | done | rfl | (simp only [List.length_drop, List.length_take]; rfl)) ?_; (with_reducible refine (spec_l1Cur_next.calls g s0_0 s0_1 s0_2 t147 t148 t149 w0 _ ?side1 ?side2 A4.out).mono ?_); (case side1 => repeat (first | (with_reducible first | exact HI0.out | apply IsS74.alloc | apply IsS74.drewN | apply IsS74.drew | apply IsS74.set_1 | apply IsS74.set_2) | exact HI0.out)); (case side2 => repeat (first | (with_reducible first | exact HB.out | apply bA_ | apply bN_ | apply bD_ | refine bS_ ?_ (IsS74.ge HI0.out)) | exact HB.out)); rintro e w11 ⟨rfl, hi, hb, hk⟩; refine ⟨_, rfl, ?_⟩; have n0_ := Aside0.mk (KeepBut.trans (by repeat (first | (with_reducible first | exact HK.out | apply KeepBut.set_ | apply keep_drewN | apply keep_drew | apply keep_alloc) | exact HK.out)) hk (.inl rfl)); have n1_ := Aside0.mk (hb); have n2_ := Aside0.mk (hi); clear HK; clear HB; clear HI0; have HK := n0_; have HB := n1_; have HI0 := n2_; clear n0_ n1_ n2_; (try clear hb); (try clear hb2); (try clear hk); (try clear hi)))
    go_ret
    exact ⟨by first | rfl | (simp [errW_none, errW_some] <;> rfl) | (simp [*, errW_none, errW_some] <;> rfl), by repeat (first | (with_reducible first | exact HI0.out | apply IsS74.alloc | apply IsS74.drewN | apply IsS74.drew | apply IsS74.set_1 | apply IsS74.set_2) | exact HI0.out), by repeat (first | (with_reducible first | exact HB.out | apply bA_ | apply bN_ | apply bD_ | refine bS_ ?_ (IsS74.ge HI0.out)) | exact HB.out), by repeat (first | (with_reducible first | exact HK.out | apply KeepBut.set_ | apply keep_drewN | apply keep_drew | apply keep_alloc) | exact HK.out)⟩
def spec_l1Cur_among.f (s0_0 : List Int) (s0_1 : Int) (s0_2 : Int) (l1 : List Int) : Option (Int × Int × Int) := (spec_l1Cur_pick.f s0_0 s0_1 s0_2 (l1.length : Int)).bind fun bt153 => (if 0 ≤ bt153.1 then (if bt153.1 < (l1.length : Int) then (some (rd l1 bt153.1, bt153.2.1, bt153.2.2)) else (none)) else (none))
set_option maxHeartbeats 8000000 in
set_option maxRecDepth 100000 in
theorem spec_l1Cur_among.calls (g : Nat) (s0_0 : List Int) (s0_1 : Int) (s0_2 : Int) (A1 : Option Addr) (c1 : Nat) (l1 : List Int) (r1 : Int) (r2 : Int) (r3 : Int) (w0 w : World) (hI : IsS74 w0 w g s0_0 s0_1 s0_2) (hB : Below w0.heap.size w0 w) (hr1 : Kd.C (Kd.int .i64) w A1 l1.length l1) (hc1 : l1.length ≤ c1) (hf1 : ∀ ad, A1 = some ad → 0 < l1.length → ad.block ≠ g) (h : spec_l1Cur_among.f s0_0 s0_1 s0_2 l1 = some (r1, r2, r3)) :
  Calls Try.prog 79 #[.pointer (some ⟨g, 0, none⟩), .slice A1 l1.length c1] w fun e w' => e = .returned (.int .i64 r1) ∧ IsS74 w0 w' g s0_0 r2 r3 ∧ Below w0.heap.size w0 w' ∧ KeepBut w w' g none := by
 have HR1 := Aside0.mk hr1
 have HC1 := Aside0.mk hc1
 clear hr1 hc1
 have HI0 := Aside0.mk hI
 have HK := Aside0.mk (KeepBut.refl w g none)
 have HL := Aside0.mk hB.size
 clear hI
 have HW0 := Aside0.mk hB.size
 have HB := Aside0.mk hB
 clear hB
 have H : ((spec_l1Cur_pick.f s0_0 s0_1 s0_2 (l1.length : Int)).bind fun bt153 => (if 0 ≤ bt153.1 then (if bt153.1 < (l1.length : Int) then (some (rd l1 bt153.1, bt153.2.1, bt153.2.2)) else (none)) else (none))) = some (r1, r2, r3) := h
 clear h
 replace H := Option.bind_eq_some_iff.mp H
 obtain ⟨⟨t153, t154, t155⟩, A30, H⟩ := H
 replace H : (if 0 ≤ t153 then (if t153 < (l1.length : Int) then (some (rd l1 t153, t154, t155)) else (none)) else (none)) = some (r1, r2, r3) := H
 have A3 := Aside0.mk A30
 clear A30
 by_cases c4 : 0 ≤ t153
 ·rw [if_pos c4] at H
  have c4b0 : decide (0 ≤ t153) = true := decide_eq_true c4
  clear c4
  by_cases c5 : t153 < (l1.length : Int)
  ·rw [if_pos c5] at H
   have c5b0 : decide (t153 < (l1.length : Int)) = true := decide_eq_true c5
   clear c5
   simp only [Option.some.injEq, Prod.mk.injEq] at H
   obtain ⟨rfl, rfl, rfl⟩ := H
   go_enter Try.func79, Try.ntmps79
   go_wp2_with (first | ((with_reducible refine gate_callee (f := 89) rfl ?_); refine goesL_ (some 9) rfl rfl Try.func89 (by kernel_rfl) rfl #[.pointer (some ⟨g, 0, none⟩), .int .i64 (l1.length : Int)] rfl (by (try simp only [List.map_toArray, List.map_cons, List.map_nil]); first | done | rfl | (simp only [List.length_drop, List.length_take]; rfl)) ?_; (with_reducible refine (spec_l1Cur_pick.calls g s0_0 s0_1 s0_2 (l1.length : Int) t153 t154 t155 w0 _ ?side1 ?side2 A3.out).mono ?_); (case side1 => repeat (first | (with_reducible first | exact HI0.out | apply IsS74.alloc | apply IsS74.drewN | apply IsS74.drew | apply IsS74.set_1 | apply IsS74.set_2) | exact HI0.out)); (case side2 => repeat (first | (with_reducible first | exact HB.out | apply bA_ | apply bN_ | apply bD_ | refine bS_ ?_ (IsS74.ge HI0.out)) | exact HB.out)); rintro e w6 ⟨rfl, hi, hb, hk⟩; refine ⟨_, rfl, ?_⟩; have n0_ := Aside0.mk (KeepBut.trans (by repeat (first | (with_reducible first | exact HK.out | apply KeepBut.set_ | apply keep_drewN | apply keep_drew | apply keep_alloc) | exact HK.out)) hk (.inl rfl)); have n1_ := Aside0.mk (hb); have n2_ := Aside0.mk (hi); clear HK; clear HB; clear HI0; have HK := n0_; have HB := n1_; have HI0 := n2_; clear n0_ n1_ n2_; (try clear hb); (try clear hb2); (try clear hk); (try clear hi); have p156 : 0 ≤ (t153 : Int) := of_decide_eq_true (by first | (with_reducible assumption) | assumption); have q156 : t153 < (l1.length : Int) := of_decide_eq_true (by first | (with_reducible assumption) | assumption); obtain ⟨ad156, e156, hx156_0⟩ := Kd.at_int HR1.out t153 p156 q156; cases e156; replace hx156_0 := keep_cell HK.out hx156_0 (by first | (rw [add_block]; exact hf1 _ rfl (by omega)) | exact hf1 _ rfl (by omega) | exact hf1 ad156 rfl (by omega)); replace p156 := eq_true p156; replace q156 := eq_true q156))
   go_ret
   exact ⟨by first | rfl | (simp [errW_none, errW_some] <;> rfl) | (simp [*, errW_none, errW_some] <;> rfl), by repeat (first | (with_reducible first | exact HI0.out | apply IsS74.alloc | apply IsS74.drewN | apply IsS74.drew | apply IsS74.set_1 | apply IsS74.set_2) | exact HI0.out), by repeat (first | (with_reducible first | exact HB.out | apply bA_ | apply bN_ | apply bD_ | refine bS_ ?_ (IsS74.ge HI0.out)) | exact HB.out), by repeat (first | (with_reducible first | exact HK.out | apply KeepBut.set_ | apply keep_drewN | apply keep_drew | apply keep_alloc) | exact HK.out)⟩
  ·rw [if_neg c5] at H
   exact absurd H (by simp)
 ·rw [if_neg c4] at H
  exact absurd H (by simp)
def spec_l1Cur_one.f (s0_0 : List Int) (s0_1 : Int) (s0_2 : Int) (a1 : Int) : Option (Bool × Int × Int) := (spec_l1Cur_pick.f s0_0 s0_1 s0_2 a1).bind fun bt157 => (some ((bt157.1 == 0), bt157.2.1, bt157.2.2))
set_option maxHeartbeats 8000000 in
set_option maxRecDepth 100000 in
theorem spec_l1Cur_one.calls (g : Nat) (s0_0 : List Int) (s0_1 : Int) (s0_2 : Int) (a1 : Int) (r1 : Bool) (r2 : Int) (r3 : Int) (w0 w : World) (hI : IsS74 w0 w g s0_0 s0_1 s0_2) (hB : Below w0.heap.size w0 w) (h : spec_l1Cur_one.f s0_0 s0_1 s0_2 a1 = some (r1, r2, r3)) :
  Calls Try.prog 81 #[.pointer (some ⟨g, 0, none⟩), .int .i64 a1] w fun e w' => e = .returned (.bool r1) ∧ IsS74 w0 w' g s0_0 r2 r3 ∧ Below w0.heap.size w0 w' ∧ KeepBut w w' g none := by
 have HI0 := Aside0.mk hI
 have HK := Aside0.mk (KeepBut.refl w g none)
 have HL := Aside0.mk hB.size
 clear hI
 have HW0 := Aside0.mk hB.size
 have HB := Aside0.mk hB
 clear hB
 have H : ((spec_l1Cur_pick.f s0_0 s0_1 s0_2 a1).bind fun bt157 => (some ((bt157.1 == 0), bt157.2.1, bt157.2.2))) = some (r1, r2, r3) := h
 clear h
 replace H := Option.bind_eq_some_iff.mp H
 obtain ⟨⟨t157, t158, t159⟩, A30, H⟩ := H
 replace H : (some ((t157 == 0), t158, t159)) = some (r1, r2, r3) := H
 have A3 := Aside0.mk A30
 clear A30
 simp only [Option.some.injEq, Prod.mk.injEq] at H
 obtain ⟨rfl, rfl, rfl⟩ := H
 go_enter Try.func81, Try.ntmps81
 go_wp2_with (first | ((with_reducible refine gate_callee (f := 89) rfl ?_); refine goesL_ (some 7) rfl rfl Try.func89 (by kernel_rfl) rfl #[.pointer (some ⟨g, 0, none⟩), .int .i64 a1] rfl (by (try simp only [List.map_toArray, List.map_cons, List.map_nil]); first | done | rfl | (simp only [List.length_drop, List.length_take]; rfl)) ?_; (with_reducible refine (spec_l1Cur_pick.calls g s0_0 s0_1 s0_2 a1 t157 t158 t159 w0 _ ?side1 ?side2 A3.out).mono ?_); (case side1 => repeat (first | (with_reducible first | exact HI0.out | apply IsS74.alloc | apply IsS74.drewN | apply IsS74.drew | apply IsS74.set_1 | apply IsS74.set_2) | exact HI0.out)); (case side2 => repeat (first | (with_reducible first | exact HB.out | apply bA_ | apply bN_ | apply bD_ | refine bS_ ?_ (IsS74.ge HI0.out)) | exact HB.out)); rintro e w4 ⟨rfl, hi, hb, hk⟩; refine ⟨_, rfl, ?_⟩; have n0_ := Aside0.mk (KeepBut.trans (by repeat (first | (with_reducible first | exact HK.out | apply KeepBut.set_ | apply keep_drewN | apply keep_drew | apply keep_alloc) | exact HK.out)) hk (.inl rfl)); have n1_ := Aside0.mk (hb); have n2_ := Aside0.mk (hi); clear HK; clear HB; clear HI0; have HK := n0_; have HB := n1_; have HI0 := n2_; clear n0_ n1_ n2_; (try clear hb); (try clear hb2); (try clear hk); (try clear hi)))
 go_ret
 exact ⟨by first | rfl | (simp [errW_none, errW_some] <;> rfl) | (simp [*, errW_none, errW_some] <;> rfl), by repeat (first | (with_reducible first | exact HI0.out | apply IsS74.alloc | apply IsS74.drewN | apply IsS74.drew | apply IsS74.set_1 | apply IsS74.set_2) | exact HI0.out), by repeat (first | (with_reducible first | exact HB.out | apply bA_ | apply bN_ | apply bD_ | refine bS_ ?_ (IsS74.ge HI0.out)) | exact HB.out), by repeat (first | (with_reducible first | exact HK.out | apply KeepBut.set_ | apply keep_drewN | apply keep_drew | apply keep_alloc) | exact HK.out)⟩
def spec_l1Cur_branch.f (s0_0 : List Int) (s0_1 : Int) (s0_2 : Int) : Option (Int × Int × Int × Int) := (spec_l1Cur_one.f s0_0 s0_1 s0_2 14).bind fun bt160 => (if bt160.1 = true then ((spec_l1Cur_among.f s0_0 bt160.2.1 bt160.2.2 (([1, 4, 2, 3, (-1), 4611686018427387904] : List Int))).bind fun bt166 => ((spec_l1Cur_among.f s0_0 bt166.2.1 bt166.2.2 (([0, 7, 5, 6, (-1), 4611686018427387904] : List Int))).bind fun bt172 => (some (bt166.1, bt172.1, bt172.2.1, bt172.2.2)))) else ((spec_l1Cur_one.f s0_0 bt160.2.1 bt160.2.2 2).bind fun bt175 => (if bt175.1 = true then ((spec_l1Cur_pick.f s0_0 bt175.2.1 bt175.2.2 6).bind fun bt178 => (some (2, wrap64 (1 + bt178.1), bt178.2.1, bt178.2.2))) else ((spec_l1Cur_pick.f s0_0 bt175.2.1 bt175.2.2 4).bind fun bt181 => (some (3, wrap64 (1 + bt181.1), bt181.2.1, bt181.2.2))))))
set_option maxHeartbeats 8000000 in
set_option maxRecDepth 100000 in
theorem spec_l1Cur_branch.calls (g : Nat) (s0_0 : List Int) (s0_1 : Int) (s0_2 : Int) (r1 : Int) (r2 : Int) (r3 : Int) (r4 : Int) (w0 w : World) (hI : IsS74 w0 w g s0_0 s0_1 s0_2) (hB : Below w0.heap.size w0 w) (h : spec_l1Cur_branch.f s0_0 s0_1 s0_2 = some (r1, r2, r3, r4)) :
  Calls Try.prog 80 #[.pointer (some ⟨g, 0, none⟩)] w fun e w' => e = .returned (.tuple #[.int .i64 r1, .int .i64 r2]) ∧ IsS74 w0 w' g s0_0 r3 r4 ∧ Below w0.heap.size w0 w' ∧ KeepBut w w' g none := by
 have HI0 := Aside0.mk hI
 have HK := Aside0.mk (KeepBut.refl w g none)
 have HL := Aside0.mk hB.size
 clear hI
 have HW0 := Aside0.mk hB.size
 have HB := Aside0.mk hB
 clear hB
 have H : ((spec_l1Cur_one.f s0_0 s0_1 s0_2 14).bind fun bt160 => (if bt160.1 = true then ((spec_l1Cur_among.f s0_0 bt160.2.1 bt160.2.2 (([1, 4, 2, 3, (-1), 4611686018427387904] : List Int))).bind fun bt166 => ((spec_l1Cur_among.f s0_0 bt166.2.1 bt166.2.2 (([0, 7, 5, 6, (-1), 4611686018427387904] : List Int))).bind fun bt172 => (some (bt166.1, bt172.1, bt172.2.1, bt172.2.2)))) else ((spec_l1Cur_one.f s0_0 bt160.2.1 bt160.2.2 2).bind fun bt175 => (if bt175.1 = true then ((spec_l1Cur_pick.f s0_0 bt175.2.1 bt175.2.2 6).bind fun bt178 => (some (2, wrap64 (1 + bt178.1), bt178.2.1, bt178.2.2))) else ((spec_l1Cur_pick.f s0_0 bt175.2.1 bt175.2.2 4).bind fun bt181 => (some (3, wrap64 (1 + bt181.1), bt181.2.1, bt181.2.2))))))) = some (r1, r2, r3, r4) := h
 clear h
 replace H := Option.bind_eq_some_iff.mp H
 obtain ⟨⟨t160, t161, t162⟩, A20, H⟩ := H
 replace H : (if t160 = true then ((spec_l1Cur_among.f s0_0 t161 t162 (([1, 4, 2, 3, (-1), 4611686018427387904] : List Int))).bind fun bt166 => ((spec_l1Cur_among.f s0_0 bt166.2.1 bt166.2.2 (([0, 7, 5, 6, (-1), 4611686018427387904] : List Int))).bind fun bt172 => (some (bt166.1, bt172.1, bt172.2.1, bt172.2.2)))) else ((spec_l1Cur_one.f s0_0 t161 t162 2).bind fun bt175 => (if bt175.1 = true then ((spec_l1Cur_pick.f s0_0 bt175.2.1 bt175.2.2 6).bind fun bt178 => (some (2, wrap64 (1 + bt178.1), bt178.2.1, bt178.2.2))) else ((spec_l1Cur_pick.f s0_0 bt175.2.1 bt175.2.2 4).bind fun bt181 => (some (3, wrap64 (1 + bt181.1), bt181.2.1, bt181.2.2)))))) = some (r1, r2, r3, r4) := H
 have A2 := Aside0.mk A20
 clear A20
 by_cases c3 : t160 = true
 ·subst c3
  have H1 : ((spec_l1Cur_among.f s0_0 t161 t162 (([1, 4, 2, 3, (-1), 4611686018427387904] : List Int))).bind fun bt166 => ((spec_l1Cur_among.f s0_0 bt166.2.1 bt166.2.2 (([0, 7, 5, 6, (-1), 4611686018427387904] : List Int))).bind fun bt172 => (some (bt166.1, bt172.1, bt172.2.1, bt172.2.2)))) = some (r1, r2, r3, r4) := by rw [if_pos rfl] at H; exact H
  clear H
  have H := H1
  clear H1
  obtain ⟨y163, hy163⟩ : ∃ y_ : List Int, y_ = (([1, 4, 2, 3, (-1), 4611686018427387904] : List Int)) := ⟨_, rfl⟩
  replace H : ((spec_l1Cur_among.f s0_0 t161 t162 y163).bind fun bt166 => ((spec_l1Cur_among.f s0_0 bt166.2.1 bt166.2.2 (([0, 7, 5, 6, (-1), 4611686018427387904] : List Int))).bind fun bt172 => (some (bt166.1, bt172.1, bt172.2.1, bt172.2.2)))) = some (r1, r2, r3, r4) := by first | (rw [hy163]; with_reducible exact H) | (have H2_ := (Option.bind_some _ _).symm.trans H; rw [hy163]; with_reducible exact H2_) | (have H2_ := (Option.bind_some _ _).symm.trans H; with_reducible exact H2_) | with_reducible exact H | (rw [hy163]; exact H) | exact H
  have Ny163 := Aside0.mk hy163
  clear hy163
  replace H := Option.bind_eq_some_iff.mp H
  obtain ⟨⟨t166, t167, t168⟩, A40, H⟩ := H
  replace H : ((spec_l1Cur_among.f s0_0 t167 t168 (([0, 7, 5, 6, (-1), 4611686018427387904] : List Int))).bind fun bt172 => (some (t166, bt172.1, bt172.2.1, bt172.2.2))) = some (r1, r2, r3, r4) := H
  have A4 := Aside0.mk A40
  clear A40
  obtain ⟨y169, hy169⟩ : ∃ y_ : List Int, y_ = (([0, 7, 5, 6, (-1), 4611686018427387904] : List Int)) := ⟨_, rfl⟩
  replace H : ((spec_l1Cur_among.f s0_0 t167 t168 y169).bind fun bt172 => (some (t166, bt172.1, bt172.2.1, bt172.2.2))) = some (r1, r2, r3, r4) := by first | (rw [hy169]; with_reducible exact H) | (have H2_ := (Option.bind_some _ _).symm.trans H; rw [hy169]; with_reducible exact H2_) | (have H2_ := (Option.bind_some _ _).symm.trans H; with_reducible exact H2_) | with_reducible exact H | (rw [hy169]; exact H) | exact H
  have Ny169 := Aside0.mk hy169
  clear hy169
  replace H := Option.bind_eq_some_iff.mp H
  obtain ⟨⟨t172, t173, t174⟩, A50, H⟩ := H
  replace H : (some (t166, t172, t173, t174)) = some (r1, r2, r3, r4) := H
  have A5 := Aside0.mk A50
  clear A50
  simp only [Option.some.injEq, Prod.mk.injEq] at H
  obtain ⟨rfl, rfl, rfl, rfl⟩ := H
  go_enter Try.func80, Try.ntmps80
  go_wp2_with (first | ((with_reducible refine gate_callee (f := 81) rfl ?_); refine goesL_ (some 5) rfl rfl Try.func81 (by kernel_rfl) rfl #[.pointer (some ⟨g, 0, none⟩), .int .i64 14] rfl (by (try simp only [List.map_toArray, List.map_cons, List.map_nil]); first | done | rfl | (simp only [List.length_drop, List.length_take]; rfl)) ?_; (with_reducible refine (spec_l1Cur_one.calls g s0_0 s0_1 s0_2 14 true t161 t162 w0 _ ?side1 ?side2 A2.out).mono ?_); (case side1 => repeat (first | (with_reducible first | exact HI0.out | apply IsS74.alloc | apply IsS74.drewN | apply IsS74.drew | apply IsS74.set_1 | apply IsS74.set_2) | exact HI0.out)); (case side2 => repeat (first | (with_reducible first | exact HB.out | apply bA_ | apply bN_ | apply bD_ | refine bS_ ?_ (IsS74.ge HI0.out)) | exact HB.out)); rintro e w6 ⟨rfl, hi, hb, hk⟩; refine ⟨_, rfl, ?_⟩; have n0_ := Aside0.mk (KeepBut.trans (by repeat (first | (with_reducible first | exact HK.out | apply KeepBut.set_ | apply keep_drewN | apply keep_drew | apply keep_alloc) | exact HK.out)) hk (.inl rfl)); have n1_ := Aside0.mk (hb); have n2_ := Aside0.mk (hi); clear HK; clear HB; clear HI0; have HK := n0_; have HB := n1_; have HI0 := n2_; clear n0_ n1_ n2_; (try clear hb); (try clear hb2); (try clear hk); (try clear hi)) | ((with_reducible refine gate_dst (N := 7) rfl ?_); refine Kd.R_lit (Kd.int .i64) _ 3 ?hg (N := 7) ?hd (xs := ([1, 4, 2, 3, (-1), 4611686018427387904] : List Int)) (inner := [.int .i64 1, .int .i64 4, .int .i64 2, .int .i64 3, .int .i64 (-1), .int .i64 4611686018427387904]) (ok := fun _ => True) (okp := fun _ => True) ?hr ?hp (fun _ hk => hk) trivial (Below.refl _ _) (Nat.le_refl _) (by simp) ?_; (case hd => rfl); (case hg => rfl); (case hr => first | (go_simp; done) | (go_simp; rfl)); (case hp => exact (Reps.one (show Kd.M (Kd.int .i64) _ _ _ 1 [.int .i64 1] from rfl) (Reps.one (show Kd.M (Kd.int .i64) _ _ _ 4 [.int .i64 4] from rfl) (Reps.one (show Kd.M (Kd.int .i64) _ _ _ 2 [.int .i64 2] from rfl) (Reps.one (show Kd.M (Kd.int .i64) _ _ _ 3 [.int .i64 3] from rfl) (Reps.one (show Kd.M (Kd.int .i64) _ _ _ (-1) [.int .i64 (-1)] from rfl) (Reps.one (show Kd.M (Kd.int .i64) _ _ _ 4611686018427387904 [.int .i64 4611686018427387904] from rfl) (Reps.none _ _)))))))); intro v164 w7 ho8 hb hg_ hnew_; clear hg_ hnew_; (first | rw [← Ny163.out] at ho8 | (simp only [Int.reduceToNat] at ho8; rw [← Ny163.out] at ho8)); have n0_ := Aside0.mk (Kd.R_lower ho8 (keep_size (w := w) (g := g) (row := none) (by repeat (first | (with_reducible first | exact HK.out | apply KeepBut.set_ | apply keep_drewN | apply keep_drew | apply keep_alloc) | exact HK.out)))); have n1_ := Aside0.mk (IsS74.below (by repeat (first | (with_reducible first | exact HI0.out | apply IsS74.alloc | apply IsS74.drewN | apply IsS74.drew | apply IsS74.set_1 | apply IsS74.set_2) | exact HI0.out)) hb); have n2_ := Aside0.mk (KeepBut.trans (by repeat (first | (with_reducible first | exact HK.out | apply KeepBut.set_ | apply keep_drewN | apply keep_drew | apply keep_alloc) | exact HK.out)) (KeepBut.of_below hb g none) (.inl rfl)); have n3_ := Aside0.mk (bP_ (by repeat (first | (with_reducible first | exact HB.out | apply bA_ | apply bN_ | apply bD_ | refine bS_ ?_ (IsS74.ge HI0.out)) | exact HB.out)) hb); clear HI0; clear HK; clear HB; have HO165 := n0_; have HI0 := n1_; have HK := n2_; have HB := n3_; clear n0_ n1_ n2_ n3_; clear hb ho8; obtain ⟨Ao9, co9, eo9⟩ := Kd.R_slice HO165.out; subst eo9) | ((with_reducible refine gate_callee (f := 79) rfl ?_); refine goesL_ (some 8) rfl rfl Try.func79 (by kernel_rfl) rfl #[.pointer (some ⟨g, 0, none⟩), .slice Ao9 y163.length co9] rfl (by (try simp only [List.map_toArray, List.map_cons, List.map_nil]); first | done | rfl | (simp only [List.length_drop, List.length_take]; rfl)) ?_; (with_reducible refine (spec_l1Cur_among.calls g s0_0 t161 t162 _ _ y163 t166 t167 t168 w0 _ ?side1 ?side2 ?side3 ?side4 ?side5 A4.out).mono ?_); (case side1 => repeat (first | (with_reducible first | exact HI0.out | apply IsS74.alloc | apply IsS74.drewN | apply IsS74.drew | apply IsS74.set_1 | apply IsS74.set_2) | exact HI0.out)); (case side2 => repeat (first | (with_reducible first | exact HB.out | apply bA_ | apply bN_ | apply bD_ | refine bS_ ?_ (IsS74.ge HI0.out)) | exact HB.out)); (case side3 => repeat (first | exact (Kd.R_reads' HO165.out).2.2 | (with_reducible refine Kd.C_alloc ?_ _) | (with_reducible refine Kd.C_drewN ?_ _) | (with_reducible refine Kd.C_drew ?_))); (case side4 => exact (Kd.R_reads' HO165.out).2.1); (case side5 => exact far_slice (IsS74.own_ne HI0.out HO165.out (by decide))); rintro e w10 ⟨rfl, hi, hb, hk⟩; refine ⟨_, rfl, ?_⟩; have n0_ := Aside0.mk (Kd.R_mono (Kd.R_keep (IsS74.apart (show IsS74 w0 _ g s0_0 t161 t162 from by repeat (first | (with_reducible first | exact HI0.out | apply IsS74.alloc | apply IsS74.drewN | apply IsS74.drew | apply IsS74.set_1 | apply IsS74.set_2) | exact HI0.out)) (by (with_reducible repeat (first | apply Kd.R_alloc | apply Kd.R_drewN | apply Kd.R_drew)); exact HO165.out) (by decide)) hk (fun _ h => h.2)) (fun _ h => h.1)); have n1_ := Aside0.mk (KeepBut.trans (by repeat (first | (with_reducible first | exact HK.out | apply KeepBut.set_ | apply keep_drewN | apply keep_drew | apply keep_alloc) | exact HK.out)) hk (.inl rfl)); have n2_ := Aside0.mk (hb); have n3_ := Aside0.mk (hi); clear HO165; clear HK; clear HB; clear HI0; have HO165 := n0_; have HK := n1_; have HB := n2_; have HI0 := n3_; clear n0_ n1_ n2_ n3_; (try clear hb); (try clear hb2); (try clear hk); (try clear hi)) | ((with_reducible refine gate_dst (N := 10) rfl ?_); refine Kd.R_lit (Kd.int .i64) _ 3 ?hg (N := 10) ?hd (xs := ([0, 7, 5, 6, (-1), 4611686018427387904] : List Int)) (inner := [.int .i64 0, .int .i64 7, .int .i64 5, .int .i64 6, .int .i64 (-1), .int .i64 4611686018427387904]) (ok := fun _ => True) (okp := fun _ => True) ?hr ?hp (fun _ hk => hk) trivial (Below.refl _ _) (Nat.le_refl _) (by simp) ?_; (case hd => rfl); (case hg => rfl); (case hr => first | (go_simp; done) | (go_simp; rfl)); (case hp => exact (Reps.one (show Kd.M (Kd.int .i64) _ _ _ 0 [.int .i64 0] from rfl) (Reps.one (show Kd.M (Kd.int .i64) _ _ _ 7 [.int .i64 7] from rfl) (Reps.one (show Kd.M (Kd.int .i64) _ _ _ 5 [.int .i64 5] from rfl) (Reps.one (show Kd.M (Kd.int .i64) _ _ _ 6 [.int .i64 6] from rfl) (Reps.one (show Kd.M (Kd.int .i64) _ _ _ (-1) [.int .i64 (-1)] from rfl) (Reps.one (show Kd.M (Kd.int .i64) _ _ _ 4611686018427387904 [.int .i64 4611686018427387904] from rfl) (Reps.none _ _)))))))); intro v170 w11 ho12 hb hg_ hnew_; clear hg_ hnew_; (first | rw [← Ny169.out] at ho12 | (simp only [Int.reduceToNat] at ho12; rw [← Ny169.out] at ho12)); have n0_ := Aside0.mk (Kd.R_elder' (by (with_reducible repeat (first | apply Kd.R_alloc | apply Kd.R_drewN | apply Kd.R_drew)); exact HO165.out) (Kd.R_base ho12) hb); have n1_ := Aside0.mk (Kd.R_lower (Kd.R_new' ho12 (Kd.R_lt (by (with_reducible repeat (first | apply Kd.R_alloc | apply Kd.R_drewN | apply Kd.R_drew)); exact HO165.out))) (keep_size (w := w) (g := g) (row := none) (by repeat (first | (with_reducible first | exact HK.out | apply KeepBut.set_ | apply keep_drewN | apply keep_drew | apply keep_alloc) | exact HK.out)))); have n2_ := Aside0.mk (IsS74.below (by repeat (first | (with_reducible first | exact HI0.out | apply IsS74.alloc | apply IsS74.drewN | apply IsS74.drew | apply IsS74.set_1 | apply IsS74.set_2) | exact HI0.out)) hb); have n3_ := Aside0.mk (KeepBut.trans (by repeat (first | (with_reducible first | exact HK.out | apply KeepBut.set_ | apply keep_drewN | apply keep_drew | apply keep_alloc) | exact HK.out)) (KeepBut.of_below hb g none) (.inl rfl)); have n4_ := Aside0.mk (bP_ (by repeat (first | (with_reducible first | exact HB.out | apply bA_ | apply bN_ | apply bD_ | refine bS_ ?_ (IsS74.ge HI0.out)) | exact HB.out)) hb); clear HO165; clear HI0; clear HK; clear HB; have HO165 := n0_; have HO171 := n1_; have HI0 := n2_; have HK := n3_; have HB := n4_; clear n0_ n1_ n2_ n3_ n4_; clear hb ho12; obtain ⟨Ao13, co13, eo13⟩ := Kd.R_slice HO171.out; subst eo13) | ((with_reducible refine gate_callee (f := 79) rfl ?_); refine goesL_ (some 11) rfl rfl Try.func79 (by kernel_rfl) rfl #[.pointer (some ⟨g, 0, none⟩), .slice Ao13 y169.length co13] rfl (by (try simp only [List.map_toArray, List.map_cons, List.map_nil]); first | done | rfl | (simp only [List.length_drop, List.length_take]; rfl)) ?_; (with_reducible refine (spec_l1Cur_among.calls g s0_0 t167 t168 _ _ y169 t172 t173 t174 w0 _ ?side1 ?side2 ?side3 ?side4 ?side5 A5.out).mono ?_); (case side1 => repeat (first | (with_reducible first | exact HI0.out | apply IsS74.alloc | apply IsS74.drewN | apply IsS74.drew | apply IsS74.set_1 | apply IsS74.set_2) | exact HI0.out)); (case side2 => repeat (first | (with_reducible first | exact HB.out | apply bA_ | apply bN_ | apply bD_ | refine bS_ ?_ (IsS74.ge HI0.out)) | exact HB.out)); (case side3 => repeat (first | exact (Kd.R_reads' HO171.out).2.2 | (with_reducible refine Kd.C_alloc ?_ _) | (with_reducible refine Kd.C_drewN ?_ _) | (with_reducible refine Kd.C_drew ?_))); (case side4 => exact (Kd.R_reads' HO171.out).2.1); (case side5 => exact far_slice (IsS74.own_ne HI0.out HO171.out (by decide))); rintro e w14 ⟨rfl, hi, hb, hk⟩; refine ⟨_, rfl, ?_⟩; have n0_ := Aside0.mk (Kd.R_mono (Kd.R_keep (IsS74.apart (show IsS74 w0 _ g s0_0 t167 t168 from by repeat (first | (with_reducible first | exact HI0.out | apply IsS74.alloc | apply IsS74.drewN | apply IsS74.drew | apply IsS74.set_1 | apply IsS74.set_2) | exact HI0.out)) (by (with_reducible repeat (first | apply Kd.R_alloc | apply Kd.R_drewN | apply Kd.R_drew)); exact HO165.out) (by decide)) hk (fun _ h => h.2)) (fun _ h => h.1)); have n1_ := Aside0.mk (Kd.R_mono (Kd.R_keep (IsS74.apart (show IsS74 w0 _ g s0_0 t167 t168 from by repeat (first | (with_reducible first | exact HI0.out | apply IsS74.alloc | apply IsS74.drewN | apply IsS74.drew | apply IsS74.set_1 | apply IsS74.set_2) | exact HI0.out)) (by (with_reducible repeat (first | apply Kd.R_alloc | apply Kd.R_drewN | apply Kd.R_drew)); exact HO171.out) (by decide)) hk (fun _ h => h.2)) (fun _ h => h.1)); have n2_ := Aside0.mk (KeepBut.trans (by repeat (first | (with_reducible first | exact HK.out | apply KeepBut.set_ | apply keep_drewN | apply keep_drew | apply keep_alloc) | exact HK.out)) hk (.inl rfl)); have n3_ := Aside0.mk (hb); have n4_ := Aside0.mk (hi); clear HO165; clear HO171; clear HK; clear HB; clear HI0; have HO165 := n0_; have HO171 := n1_; have HK := n2_; have HB := n3_; have HI0 := n4_; clear n0_ n1_ n2_ n3_ n4_; (try clear hb); (try clear hb2); (try clear hk); (try clear hi)))
  go_ret2
  exact ⟨by first | rfl | (simp [errW_none, errW_some] <;> rfl) | (simp [*, errW_none, errW_some] <;> rfl), by repeat (first | (with_reducible first | exact HI0.out | apply IsS74.alloc | apply IsS74.drewN | apply IsS74.drew | apply IsS74.set_1 | apply IsS74.set_2) | exact HI0.out), by repeat (first | (with_reducible first | exact HB.out | apply bA_ | apply bN_ | apply bD_ | refine bS_ ?_ (IsS74.ge HI0.out)) | exact HB.out), by repeat (first | (with_reducible first | exact HK.out | apply KeepBut.set_ | apply keep_drewN | apply keep_drew | apply keep_alloc) | exact HK.out)⟩
 ·replace c3 := Bool.eq_false_iff.mpr c3
  subst c3
  have H1 : ((spec_l1Cur_one.f s0_0 t161 t162 2).bind fun bt175 => (if bt175.1 = true then ((spec_l1Cur_pick.f s0_0 bt175.2.1 bt175.2.2 6).bind fun bt178 => (some (2, wrap64 (1 + bt178.1), bt178.2.1, bt178.2.2))) else ((spec_l1Cur_pick.f s0_0 bt175.2.1 bt175.2.2 4).bind fun bt181 => (some (3, wrap64 (1 + bt181.1), bt181.2.1, bt181.2.2))))) = some (r1, r2, r3, r4) := by rw [if_neg (show ¬ (false = true) by decide)] at H; exact H
  clear H
  have H := H1
  clear H1
  replace H := Option.bind_eq_some_iff.mp H
  obtain ⟨⟨t175, t176, t177⟩, A150, H⟩ := H
  replace H : (if t175 = true then ((spec_l1Cur_pick.f s0_0 t176 t177 6).bind fun bt178 => (some (2, wrap64 (1 + bt178.1), bt178.2.1, bt178.2.2))) else ((spec_l1Cur_pick.f s0_0 t176 t177 4).bind fun bt181 => (some (3, wrap64 (1 + bt181.1), bt181.2.1, bt181.2.2)))) = some (r1, r2, r3, r4) := H
  have A15 := Aside0.mk A150
  clear A150
  by_cases c16 : t175 = true
  ·subst c16
   have H1 : ((spec_l1Cur_pick.f s0_0 t176 t177 6).bind fun bt178 => (some (2, wrap64 (1 + bt178.1), bt178.2.1, bt178.2.2))) = some (r1, r2, r3, r4) := by rw [if_pos rfl] at H; exact H
   clear H
   have H := H1
   clear H1
   replace H := Option.bind_eq_some_iff.mp H
   obtain ⟨⟨t178, t179, t180⟩, A170, H⟩ := H
   replace H : (some (2, wrap64 (1 + t178), t179, t180)) = some (r1, r2, r3, r4) := H
   have A17 := Aside0.mk A170
   clear A170
   simp only [Option.some.injEq, Prod.mk.injEq] at H
   obtain ⟨rfl, rfl, rfl, rfl⟩ := H
   go_enter Try.func80, Try.ntmps80
   go_wp2_with (first | ((with_reducible refine gate_callee (f := 81) rfl ?_); refine goesL_ (some 5) rfl rfl Try.func81 (by kernel_rfl) rfl #[.pointer (some ⟨g, 0, none⟩), .int .i64 14] rfl (by (try simp only [List.map_toArray, List.map_cons, List.map_nil]); first | done | rfl | (simp only [List.length_drop, List.length_take]; rfl)) ?_; (with_reducible refine (spec_l1Cur_one.calls g s0_0 s0_1 s0_2 14 false t161 t162 w0 _ ?side1 ?side2 A2.out).mono ?_); (case side1 => repeat (first | (with_reducible first | exact HI0.out | apply IsS74.alloc | apply IsS74.drewN | apply IsS74.drew | apply IsS74.set_1 | apply IsS74.set_2) | exact HI0.out)); (case side2 => repeat (first | (with_reducible first | exact HB.out | apply bA_ | apply bN_ | apply bD_ | refine bS_ ?_ (IsS74.ge HI0.out)) | exact HB.out)); rintro e w18 ⟨rfl, hi, hb, hk⟩; refine ⟨_, rfl, ?_⟩; have n0_ := Aside0.mk (KeepBut.trans (by repeat (first | (with_reducible first | exact HK.out | apply KeepBut.set_ | apply keep_drewN | apply keep_drew | apply keep_alloc) | exact HK.out)) hk (.inl rfl)); have n1_ := Aside0.mk (hb); have n2_ := Aside0.mk (hi); clear HK; clear HB; clear HI0; have HK := n0_; have HB := n1_; have HI0 := n2_; clear n0_ n1_ n2_; (try clear hb); (try clear hb2); (try clear hk); (try clear hi)) | ((with_reducible refine gate_callee (f := 81) rfl ?_); refine goesL_ (some 13) rfl rfl Try.func81 (by kernel_rfl) rfl #[.pointer (some ⟨g, 0, none⟩), .int .i64 2] rfl (by (try simp only [List.map_toArray, List.map_cons, List.map_nil]); first | done | rfl | (simp only [List.length_drop, List.length_take]; rfl)) ?_; (with_reducible refine (spec_l1Cur_one.calls g s0_0 t161 t162 2 true t176 t177 w0 _ ?side1 ?side2 A15.out).mono ?_); (case side1 => repeat (first | (with_reducible first | exact HI0.out | apply IsS74.alloc | apply IsS74.drewN | apply IsS74.drew | apply IsS74.set_1 | apply IsS74.set_2) | exact HI0.out)); (case side2 => repeat (first | (with_reducible first | exact HB.out | apply bA_ | apply bN_ | apply bD_ | refine bS_ ?_ (IsS74.ge HI0.out)) | exact HB.out)); rintro e w19 ⟨rfl, hi, hb, hk⟩; refine ⟨_, rfl, ?_⟩; have n0_ := Aside0.mk (KeepBut.trans (by repeat (first | (with_reducible first | exact HK.out | apply KeepBut.set_ | apply keep_drewN | apply keep_drew | apply keep_alloc) | exact HK.out)) hk (.inl rfl)); have n1_ := Aside0.mk (hb); have n2_ := Aside0.mk (hi); clear HK; clear HB; clear HI0; have HK := n0_; have HB := n1_; have HI0 := n2_; clear n0_ n1_ n2_; (try clear hb); (try clear hb2); (try clear hk); (try clear hi)) | ((with_reducible refine gate_callee (f := 89) rfl ?_); refine goesL_ (some 15) rfl rfl Try.func89 (by kernel_rfl) rfl #[.pointer (some ⟨g, 0, none⟩), .int .i64 6] rfl (by (try simp only [List.map_toArray, List.map_cons, List.map_nil]); first | done | rfl | (simp only [List.length_drop, List.length_take]; rfl)) ?_; (with_reducible refine (spec_l1Cur_pick.calls g s0_0 t176 t177 6 t178 t179 t180 w0 _ ?side1 ?side2 A17.out).mono ?_); (case side1 => repeat (first | (with_reducible first | exact HI0.out | apply IsS74.alloc | apply IsS74.drewN | apply IsS74.drew | apply IsS74.set_1 | apply IsS74.set_2) | exact HI0.out)); (case side2 => repeat (first | (with_reducible first | exact HB.out | apply bA_ | apply bN_ | apply bD_ | refine bS_ ?_ (IsS74.ge HI0.out)) | exact HB.out)); rintro e w20 ⟨rfl, hi, hb, hk⟩; refine ⟨_, rfl, ?_⟩; have n0_ := Aside0.mk (KeepBut.trans (by repeat (first | (with_reducible first | exact HK.out | apply KeepBut.set_ | apply keep_drewN | apply keep_drew | apply keep_alloc) | exact HK.out)) hk (.inl rfl)); have n1_ := Aside0.mk (hb); have n2_ := Aside0.mk (hi); clear HK; clear HB; clear HI0; have HK := n0_; have HB := n1_; have HI0 := n2_; clear n0_ n1_ n2_; (try clear hb); (try clear hb2); (try clear hk); (try clear hi)))
   go_ret2
   exact ⟨by first | rfl | (simp [errW_none, errW_some] <;> rfl) | (simp [*, errW_none, errW_some] <;> rfl), by repeat (first | (with_reducible first | exact HI0.out | apply IsS74.alloc | apply IsS74.drewN | apply IsS74.drew | apply IsS74.set_1 | apply IsS74.set_2) | exact HI0.out), by repeat (first | (with_reducible first | exact HB.out | apply bA_ | apply bN_ | apply bD_ | refine bS_ ?_ (IsS74.ge HI0.out)) | exact HB.out), by repeat (first | (with_reducible first | exact HK.out | apply KeepBut.set_ | apply keep_drewN | apply keep_drew | apply keep_alloc) | exact HK.out)⟩
  ·replace c16 := Bool.eq_false_iff.mpr c16
   subst c16
   have H1 : ((spec_l1Cur_pick.f s0_0 t176 t177 4).bind fun bt181 => (some (3, wrap64 (1 + bt181.1), bt181.2.1, bt181.2.2))) = some (r1, r2, r3, r4) := by rw [if_neg (show ¬ (false = true) by decide)] at H; exact H
   clear H
   have H := H1
   clear H1
   replace H := Option.bind_eq_some_iff.mp H
   obtain ⟨⟨t181, t182, t183⟩, A210, H⟩ := H
   replace H : (some (3, wrap64 (1 + t181), t182, t183)) = some (r1, r2, r3, r4) := H
   have A21 := Aside0.mk A210
   clear A210
   simp only [Option.some.injEq, Prod.mk.injEq] at H
   obtain ⟨rfl, rfl, rfl, rfl⟩ := H
   go_enter Try.func80, Try.ntmps80
   go_wp2_with (first | ((with_reducible refine gate_callee (f := 81) rfl ?_); refine goesL_ (some 5) rfl rfl Try.func81 (by kernel_rfl) rfl #[.pointer (some ⟨g, 0, none⟩), .int .i64 14] rfl (by (try simp only [List.map_toArray, List.map_cons, List.map_nil]); first | done | rfl | (simp only [List.length_drop, List.length_take]; rfl)) ?_; (with_reducible refine (spec_l1Cur_one.calls g s0_0 s0_1 s0_2 14 false t161 t162 w0 _ ?side1 ?side2 A2.out).mono ?_); (case side1 => repeat (first | (with_reducible first | exact HI0.out | apply IsS74.alloc | apply IsS74.drewN | apply IsS74.drew | apply IsS74.set_1 | apply IsS74.set_2) | exact HI0.out)); (case side2 => repeat (first | (with_reducible first | exact HB.out | apply bA_ | apply bN_ | apply bD_ | refine bS_ ?_ (IsS74.ge HI0.out)) | exact HB.out)); rintro e w22 ⟨rfl, hi, hb, hk⟩; refine ⟨_, rfl, ?_⟩; have n0_ := Aside0.mk (KeepBut.trans (by repeat (first | (with_reducible first | exact HK.out | apply KeepBut.set_ | apply keep_drewN | apply keep_drew | apply keep_alloc) | exact HK.out)) hk (.inl rfl)); have n1_ := Aside0.mk (hb); have n2_ := Aside0.mk (hi); clear HK; clear HB; clear HI0; have HK := n0_; have HB := n1_; have HI0 := n2_; clear n0_ n1_ n2_; (try clear hb); (try clear hb2); (try clear hk); (try clear hi)) | ((with_reducible refine gate_callee (f := 81) rfl ?_); refine goesL_ (some 13) rfl rfl Try.func81 (by kernel_rfl) rfl #[.pointer (some ⟨g, 0, none⟩), .int .i64 2] rfl (by (try simp only [List.map_toArray, List.map_cons, List.map_nil]); first | done | rfl | (simp only [List.length_drop, List.length_take]; rfl)) ?_; (with_reducible refine (spec_l1Cur_one.calls g s0_0 t161 t162 2 false t176 t177 w0 _ ?side1 ?side2 A15.out).mono ?_); (case side1 => repeat (first | (with_reducible first | exact HI0.out | apply IsS74.alloc | apply IsS74.drewN | apply IsS74.drew | apply IsS74.set_1 | apply IsS74.set_2) | exact HI0.out)); (case side2 => repeat (first | (with_reducible first | exact HB.out | apply bA_ | apply bN_ | apply bD_ | refine bS_ ?_ (IsS74.ge HI0.out)) | exact HB.out)); rintro e w23 ⟨rfl, hi, hb, hk⟩; refine ⟨_, rfl, ?_⟩; have n0_ := Aside0.mk (KeepBut.trans (by repeat (first | (with_reducible first | exact HK.out | apply KeepBut.set_ | apply keep_drewN | apply keep_drew | apply keep_alloc) | exact HK.out)) hk (.inl rfl)); have n1_ := Aside0.mk (hb); have n2_ := Aside0.mk (hi); clear HK; clear HB; clear HI0; have HK := n0_; have HB := n1_; have HI0 := n2_; clear n0_ n1_ n2_; (try clear hb); (try clear hb2); (try clear hk); (try clear hi)) | ((with_reducible refine gate_callee (f := 89) rfl ?_); refine goesL_ (some 18) rfl rfl Try.func89 (by kernel_rfl) rfl #[.pointer (some ⟨g, 0, none⟩), .int .i64 4] rfl (by (try simp only [List.map_toArray, List.map_cons, List.map_nil]); first | done | rfl | (simp only [List.length_drop, List.length_take]; rfl)) ?_; (with_reducible refine (spec_l1Cur_pick.calls g s0_0 t176 t177 4 t181 t182 t183 w0 _ ?side1 ?side2 A21.out).mono ?_); (case side1 => repeat (first | (with_reducible first | exact HI0.out | apply IsS74.alloc | apply IsS74.drewN | apply IsS74.drew | apply IsS74.set_1 | apply IsS74.set_2) | exact HI0.out)); (case side2 => repeat (first | (with_reducible first | exact HB.out | apply bA_ | apply bN_ | apply bD_ | refine bS_ ?_ (IsS74.ge HI0.out)) | exact HB.out)); rintro e w24 ⟨rfl, hi, hb, hk⟩; refine ⟨_, rfl, ?_⟩; have n0_ := Aside0.mk (KeepBut.trans (by repeat (first | (with_reducible first | exact HK.out | apply KeepBut.set_ | apply keep_drewN | apply keep_drew | apply keep_alloc) | exact HK.out)) hk (.inl rfl)); have n1_ := Aside0.mk (hb); have n2_ := Aside0.mk (hi); clear HK; clear HB; clear HI0; have HK := n0_; have HB := n1_; have HI0 := n2_; clear n0_ n1_ n2_; (try clear hb); (try clear hb2); (try clear hk); (try clear hi)))
   go_ret2
   exact ⟨by first | rfl | (simp [errW_none, errW_some] <;> rfl) | (simp [*, errW_none, errW_some] <;> rfl), by repeat (first | (with_reducible first | exact HI0.out | apply IsS74.alloc | apply IsS74.drewN | apply IsS74.drew | apply IsS74.set_1 | apply IsS74.set_2) | exact HI0.out), by repeat (first | (with_reducible first | exact HB.out | apply bA_ | apply bN_ | apply bD_ | refine bS_ ?_ (IsS74.ge HI0.out)) | exact HB.out), by repeat (first | (with_reducible first | exact HK.out | apply KeepBut.set_ | apply keep_drewN | apply keep_drew | apply keep_alloc) | exact HK.out)⟩
def laws_xSame.l0 : Nat → List Int → List Int → Int → Int → Option (Bool)
 | 0, _, _, _, _ => none
 | k + 1, x0, x1, x12, x13 => if x13 < x12 then (if 0 ≤ x13 then (if x13 < (x0.length : Int) then (if x13 < (x1.length : Int) then (if (rd x0 x13) = (rd x1 x13) then (laws_xSame.l0 k x0 x1 x12 (wrap64 (x13 + 1))) else (some false)) else (none)) else (none)) else (none)) else (some true)
def laws_xSame.f (k : Nat) (l0 : List Int) (l1 : List Int) : Option (Bool) := if (l0.length : Int) = (l1.length : Int) then (laws_xSame.l0 k l0 l1 (l0.length : Int) 0) else (some false)
set_option maxHeartbeats 8000000 in
set_option maxRecDepth 100000 in
theorem laws_xSame.calls (k : Nat) (A0 : Option Addr) (c0 : Nat) (l0 : List Int) (A1 : Option Addr) (c1 : Nat) (l1 : List Int) (r : Bool) (w : World) (hr0 : Kd.C (Kd.int .i64) w A0 l0.length l0) (hc0 : l0.length ≤ c0) (hr1 : Kd.C (Kd.int .i64) w A1 l1.length l1) (hc1 : l1.length ≤ c1) (h : laws_xSame.f k l0 l1 = some r) :
  Calls Try.prog 47 #[.slice A0 l0.length c0, .slice A1 l1.length c1] w fun e w' => e = .returned (.bool r) ∧ Drawn0 w w' := by
 have HR0 := Aside0.mk hr0
 have HC0 := Aside0.mk hc0
 clear hr0 hc0
 have HR1 := Aside0.mk hr1
 have HC1 := Aside0.mk hc1
 clear hr1 hc1
 have H : (if (l0.length : Int) = (l1.length : Int) then (laws_xSame.l0 k l0 l1 (l0.length : Int) 0) else (some false)) = some r := h
 clear h
 by_cases c3 : (l0.length : Int) = (l1.length : Int)
 ·rw [if_pos c3] at H
  have c3b0 : ((l0.length : Int) == (l1.length : Int)) = true := beq_iff_eq.mpr c3
  have c3b1 : ((l0.length : Int) != (l1.length : Int)) = false := bne_eq_false_iff_eq.mpr c3
  have c3b2 : (l0.length == l1.length) = true := by first | simpa using c3 | (simp at c3 ⊢; omega)
  clear c3
  have H' := Aside0.mk H
  clear H
  go_enter Try.func47, Try.ntmps47
  go_wp2
  repeat (go_quiet (fail); try go_wp2)
  go_loopg [13] k (fun kq v13 w' => ∃ (x13_1 : Int), v13 = .int .i64 x13_1 ∧ Aside0 (laws_xSame.l0 kq l0 l1 (l0.length : Int) x13_1 = some r) ∧ Aside0 (kq ≤ k) ∧ Drawn0 w w')
  case atStart => exact ⟨(0), (by first | rfl | (simp; done) | (simp [*]; done)), H', ⟨Nat.le_refl _⟩, by repeat (first | exact Drawn0.refl _ | apply Drawn0.step)⟩
  case round =>
   clear H'
   try clear c1
   try clear p2
   try clear c3
   try clear c3b0
   try clear c3b1
   try clear c3b2
   obtain ⟨x13_1, rfl, HA, HK1, ⟨m1, rfl⟩⟩ := hrel
   cases gk with
   | zero => exact absurd HA.out (by simp [laws_xSame.l0])
   | succ k1 =>
    have H := HA.out
    clear HA
    simp only [laws_xSame.l0] at H
    by_cases c4 : x13_1 < (l0.length : Int)
    ·rw [if_pos c4] at H
     have c4b0 : decide (x13_1 < (l0.length : Int)) = true := decide_eq_true c4
     clear c4
     by_cases c5 : 0 ≤ x13_1
     ·rw [if_pos c5] at H
      have c5b0 : decide (0 ≤ x13_1) = true := decide_eq_true c5
      clear c5
      by_cases c6 : x13_1 < (l0.length : Int)
      ·rw [if_pos c6] at H
       have c6b0 : decide (x13_1 < (l0.length : Int)) = true := decide_eq_true c6
       clear c6
       by_cases c7 : x13_1 < (l1.length : Int)
       ·rw [if_pos c7] at H
        have c7b0 : decide (x13_1 < (l1.length : Int)) = true := decide_eq_true c7
        clear c7
        by_cases c8 : (rd l0 x13_1) = (rd l1 x13_1)
        ·rw [if_pos c8] at H
         have c8b0 : ((rd l0 x13_1) == (rd l1 x13_1)) = true := beq_iff_eq.mpr c8
         have c8b1 : ((rd l0 x13_1) != (rd l1 x13_1)) = false := bne_eq_false_iff_eq.mpr c8
         clear c8
         have H' := Aside0.mk H
         clear H
         have p212 : 0 ≤ (x13_1 : Int) := of_decide_eq_true (by first | (with_reducible assumption) | assumption)
         have q212 : x13_1 < (l0.length : Int) := of_decide_eq_true (by first | (with_reducible assumption) | assumption)
         obtain ⟨ad212, e212, hx212_0⟩ := Kd.at_int HR0.out x13_1 p212 q212
         cases e212
         replace p212 := eq_true p212
         replace q212 := eq_true q212
         have p213 : 0 ≤ (x13_1 : Int) := of_decide_eq_true (by first | (with_reducible assumption) | assumption)
         have q213 : x13_1 < (l1.length : Int) := of_decide_eq_true (by first | (with_reducible assumption) | assumption)
         obtain ⟨ad213, e213, hx213_0⟩ := Kd.at_int HR1.out x13_1 p213 q213
         cases e213
         replace p213 := eq_true p213
         replace q213 := eq_true q213
         go_wp2
         repeat (go_quiet (fail); try go_wp2)
         go_roundg k1
         case measure => have := HK1.out; omega
         case rel => exact ⟨(wrap64 (x13_1 + 1)), (by first | rfl | (simp; done) | (simp [*]; done)), H', ⟨by have := HK1.out; omega⟩, by repeat (first | exact Drawn0.refl _ | apply Drawn0.step)⟩
        ·rw [if_neg c8] at H
         have c8b0 : ((rd l0 x13_1) == (rd l1 x13_1)) = false := beq_eq_false_iff_ne.mpr c8
         have c8b1 : ((rd l0 x13_1) != (rd l1 x13_1)) = true := bne_iff_ne.mpr c8
         obtain rfl := Option.some.inj H
         have p212 : 0 ≤ (x13_1 : Int) := of_decide_eq_true (by first | (with_reducible assumption) | assumption)
         have q212 : x13_1 < (l0.length : Int) := of_decide_eq_true (by first | (with_reducible assumption) | assumption)
         obtain ⟨ad212, e212, hx212_0⟩ := Kd.at_int HR0.out x13_1 p212 q212
         cases e212
         replace p212 := eq_true p212
         replace q212 := eq_true q212
         have p213 : 0 ≤ (x13_1 : Int) := of_decide_eq_true (by first | (with_reducible assumption) | assumption)
         have q213 : x13_1 < (l1.length : Int) := of_decide_eq_true (by first | (with_reducible assumption) | assumption)
         obtain ⟨ad213, e213, hx213_0⟩ := Kd.at_int HR1.out x13_1 p213 q213
         cases e213
         replace p213 := eq_true p213
         replace q213 := eq_true q213
         go_wp2
         repeat (go_quiet (fail); try go_wp2)
         go_ret
         exact ⟨by first | rfl | (simp; done) | (simp [*]; done), by repeat (first | exact Drawn0.refl _ | apply Drawn0.step)⟩
       ·rw [if_neg c7] at H
        exact absurd H (by simp)
      ·rw [if_neg c6] at H
       exact absurd H (by simp)
     ·rw [if_neg c5] at H
      exact absurd H (by simp)
    ·rw [if_neg c4] at H
     have c4b0 : decide (x13_1 < (l0.length : Int)) = false := decide_eq_false c4
     clear c4
     obtain rfl := Option.some.inj H
     go_wp2
     repeat (go_quiet (fail); try go_wp2)
     go_ret
     exact ⟨by first | rfl | (simp; done) | (simp [*]; done), by repeat (first | exact Drawn0.refl _ | apply Drawn0.step)⟩
 ·rw [if_neg c3] at H
  have c3b0 : ((l0.length : Int) == (l1.length : Int)) = false := beq_eq_false_iff_ne.mpr c3
  have c3b1 : ((l0.length : Int) != (l1.length : Int)) = true := bne_iff_ne.mpr c3
  have c3b2 : (l0.length == l1.length) = false := by first | simpa using c3 | (simp at c3 ⊢; omega)
  obtain rfl := Option.some.inj H
  go_enter Try.func47, Try.ntmps47
  go_wp2
  repeat (go_quiet (fail); try go_wp2)
  go_ret
  exact ⟨by first | rfl | (simp; done) | (simp [*]; done), by repeat (first | exact Drawn0.refl _ | apply Drawn0.step)⟩
def laws_xMost.l0 : Nat → Int → List Int → Int → Int → Option (Int)
 | 0, _, _, _, _ => none
 | k + 1, x3, x6, x7, x8 => if x8 < x7 then (if 0 ≤ x8 then (if x8 < (x6.length : Int) then (if (rd x6 x8) > x3 then (laws_xMost.l0 k (rd x6 x8) x6 x7 (wrap64 (x8 + 1))) else (laws_xMost.l0 k x3 x6 x7 (wrap64 (x8 + 1)))) else (none)) else (none)) else (some x3)
def laws_xMost.f (k : Nat) (l0 : List Int) : Option (Int) := laws_xMost.l0 k 0 l0 (l0.length : Int) 0
set_option maxHeartbeats 8000000 in
set_option maxRecDepth 100000 in
theorem laws_xMost.calls (k : Nat) (A0 : Option Addr) (c0 : Nat) (l0 : List Int) (r : Int) (w : World) (hr0 : Kd.C (Kd.int .i64) w A0 l0.length l0) (hc0 : l0.length ≤ c0) (h : laws_xMost.f k l0 = some r) :
  Calls Try.prog 48 #[.slice A0 l0.length c0] w fun e w' => e = .returned (.int .i64 r) ∧ Drawn0 w w' := by
 have HR0 := Aside0.mk hr0
 have HC0 := Aside0.mk hc0
 clear hr0 hc0
 have H : (laws_xMost.l0 k 0 l0 (l0.length : Int) 0) = some r := h
 clear h
 have H' := Aside0.mk H
 clear H
 go_enter Try.func48, Try.ntmps48
 go_wp2
 go_loopg [3, 8] k (fun kq v3 v8 w' => ∃ (x3_1 : Int) (x8_1 : Int), v3 = .int .i64 x3_1 ∧ v8 = .int .i64 x8_1 ∧ Aside0 (laws_xMost.l0 kq x3_1 l0 (l0.length : Int) x8_1 = some r) ∧ Aside0 (kq ≤ k) ∧ Drawn0 w w')
 case atStart => exact ⟨(0), (0), (by first | rfl | (simp; done) | (simp [*]; done)), (by first | rfl | (simp; done) | (simp [*]; done)), H', ⟨Nat.le_refl _⟩, by repeat (first | exact Drawn0.refl _ | apply Drawn0.step)⟩
 case round =>
  clear H'
  obtain ⟨x3_1, x8_1, rfl, rfl, HA, HK1, ⟨m1, rfl⟩⟩ := hrel
  cases gk with
  | zero => exact absurd HA.out (by simp [laws_xMost.l0])
  | succ k1 =>
   have H := HA.out
   clear HA
   simp only [laws_xMost.l0] at H
   by_cases c2 : x8_1 < (l0.length : Int)
   ·rw [if_pos c2] at H
    have c2b0 : decide (x8_1 < (l0.length : Int)) = true := decide_eq_true c2
    clear c2
    by_cases c3 : 0 ≤ x8_1
    ·rw [if_pos c3] at H
     have c3b0 : decide (0 ≤ x8_1) = true := decide_eq_true c3
     clear c3
     by_cases c4 : x8_1 < (l0.length : Int)
     ·rw [if_pos c4] at H
      have c4b0 : decide (x8_1 < (l0.length : Int)) = true := decide_eq_true c4
      clear c4
      by_cases c5 : (rd l0 x8_1) > x3_1
      ·rw [if_pos c5] at H
       have c5b0 : decide (x3_1 < (rd l0 x8_1)) = true := decide_eq_true c5
       clear c5
       have H' := Aside0.mk H
       clear H
       have p214 : 0 ≤ (x8_1 : Int) := of_decide_eq_true (by first | (with_reducible assumption) | assumption)
       have q214 : x8_1 < (l0.length : Int) := of_decide_eq_true (by first | (with_reducible assumption) | assumption)
       obtain ⟨ad214, e214, hx214_0⟩ := Kd.at_int HR0.out x8_1 p214 q214
       cases e214
       replace p214 := eq_true p214
       replace q214 := eq_true q214
       go_wp2
       go_roundg k1
       case measure => have := HK1.out; omega
       case rel => exact ⟨(rd l0 x8_1), (wrap64 (x8_1 + 1)), (by first | rfl | (simp; done) | (simp [*]; done)), (by first | rfl | (simp; done) | (simp [*]; done)), H', ⟨by have := HK1.out; omega⟩, by repeat (first | exact Drawn0.refl _ | apply Drawn0.step)⟩
      ·rw [if_neg c5] at H
       have c5b0 : decide (x3_1 < (rd l0 x8_1)) = false := decide_eq_false c5
       clear c5
       have H' := Aside0.mk H
       clear H
       have p214 : 0 ≤ (x8_1 : Int) := of_decide_eq_true (by first | (with_reducible assumption) | assumption)
       have q214 : x8_1 < (l0.length : Int) := of_decide_eq_true (by first | (with_reducible assumption) | assumption)
       obtain ⟨ad214, e214, hx214_0⟩ := Kd.at_int HR0.out x8_1 p214 q214
       cases e214
       replace p214 := eq_true p214
       replace q214 := eq_true q214
       go_wp2
       go_roundg k1
       case measure => have := HK1.out; omega
       case rel => exact ⟨(x3_1), (wrap64 (x8_1 + 1)), (by first | rfl | (simp; done) | (simp [*]; done)), (by first | rfl | (simp; done) | (simp [*]; done)), H', ⟨by have := HK1.out; omega⟩, by repeat (first | exact Drawn0.refl _ | apply Drawn0.step)⟩
     ·rw [if_neg c4] at H
      exact absurd H (by simp)
    ·rw [if_neg c3] at H
     exact absurd H (by simp)
   ·rw [if_neg c2] at H
    have c2b0 : decide (x8_1 < (l0.length : Int)) = false := decide_eq_false c2
    clear c2
    obtain rfl := Option.some.inj H
    go_wp2
    go_ret
    exact ⟨by first | rfl | (simp; done) | (simp [*]; done), by repeat (first | exact Drawn0.refl _ | apply Drawn0.step)⟩
def laws_xSum.l0 : Nat → Int → List Int → Int → Int → Option (Int)
 | 0, _, _, _, _ => none
 | k + 1, x3, x6, x7, x8 => if x8 < x7 then (if 0 ≤ x8 then (if x8 < (x6.length : Int) then (laws_xSum.l0 k (wrap64 (x3 + (rd x6 x8))) x6 x7 (wrap64 (x8 + 1))) else (none)) else (none)) else (some x3)
def laws_xSum.f (k : Nat) (l0 : List Int) : Option (Int) := laws_xSum.l0 k 0 l0 (l0.length : Int) 0
set_option maxHeartbeats 8000000 in
set_option maxRecDepth 100000 in
theorem laws_xSum.calls (k : Nat) (A0 : Option Addr) (c0 : Nat) (l0 : List Int) (r : Int) (w : World) (hr0 : Kd.C (Kd.int .i64) w A0 l0.length l0) (hc0 : l0.length ≤ c0) (h : laws_xSum.f k l0 = some r) :
  Calls Try.prog 49 #[.slice A0 l0.length c0] w fun e w' => e = .returned (.int .i64 r) ∧ Drawn0 w w' := by
 have HR0 := Aside0.mk hr0
 have HC0 := Aside0.mk hc0
 clear hr0 hc0
 have H : (laws_xSum.l0 k 0 l0 (l0.length : Int) 0) = some r := h
 clear h
 have H' := Aside0.mk H
 clear H
 go_enter Try.func49, Try.ntmps49
 go_wp2
 go_loopg [3, 8] k (fun kq v3 v8 w' => ∃ (x3_1 : Int) (x8_1 : Int), v3 = .int .i64 x3_1 ∧ v8 = .int .i64 x8_1 ∧ Aside0 (laws_xSum.l0 kq x3_1 l0 (l0.length : Int) x8_1 = some r) ∧ Aside0 (kq ≤ k) ∧ Drawn0 w w')
 case atStart => exact ⟨(0), (0), (by first | rfl | (simp; done) | (simp [*]; done)), (by first | rfl | (simp; done) | (simp [*]; done)), H', ⟨Nat.le_refl _⟩, by repeat (first | exact Drawn0.refl _ | apply Drawn0.step)⟩
 case round =>
  clear H'
  obtain ⟨x3_1, x8_1, rfl, rfl, HA, HK1, ⟨m1, rfl⟩⟩ := hrel
  cases gk with
  | zero => exact absurd HA.out (by simp [laws_xSum.l0])
  | succ k1 =>
   have H := HA.out
   clear HA
   simp only [laws_xSum.l0] at H
   by_cases c2 : x8_1 < (l0.length : Int)
   ·rw [if_pos c2] at H
    have c2b0 : decide (x8_1 < (l0.length : Int)) = true := decide_eq_true c2
    clear c2
    by_cases c3 : 0 ≤ x8_1
    ·rw [if_pos c3] at H
     have c3b0 : decide (0 ≤ x8_1) = true := decide_eq_true c3
     clear c3
     by_cases c4 : x8_1 < (l0.length : Int)
     ·rw [if_pos c4] at H
      have c4b0 : decide (x8_1 < (l0.length : Int)) = true := decide_eq_true c4
      clear c4
      have H' := Aside0.mk H
      clear H
      have p215 : 0 ≤ (x8_1 : Int) := of_decide_eq_true (by first | (with_reducible assumption) | assumption)
      have q215 : x8_1 < (l0.length : Int) := of_decide_eq_true (by first | (with_reducible assumption) | assumption)
      obtain ⟨ad215, e215, hx215_0⟩ := Kd.at_int HR0.out x8_1 p215 q215
      cases e215
      replace p215 := eq_true p215
      replace q215 := eq_true q215
      go_wp2
      go_roundg k1
      case measure => have := HK1.out; omega
      case rel => exact ⟨(wrap64 (x3_1 + (rd l0 x8_1))), (wrap64 (x8_1 + 1)), (by first | rfl | (simp; done) | (simp [*]; done)), (by first | rfl | (simp; done) | (simp [*]; done)), H', ⟨by have := HK1.out; omega⟩, by repeat (first | exact Drawn0.refl _ | apply Drawn0.step)⟩
     ·rw [if_neg c4] at H
      exact absurd H (by simp)
    ·rw [if_neg c3] at H
     exact absurd H (by simp)
   ·rw [if_neg c2] at H
    have c2b0 : decide (x8_1 < (l0.length : Int)) = false := decide_eq_false c2
    clear c2
    obtain rfl := Option.some.inj H
    go_wp2
    go_ret
    exact ⟨by first | rfl | (simp; done) | (simp [*]; done), by repeat (first | exact Drawn0.refl _ | apply Drawn0.step)⟩
end Go.Proofs.Ytmechelmnpoddaa.F7
namespace Go.Proofs.Ytmechelmnpoddaa.H7
open Go.RowKit YtmechelmnpoddaaW.PrintWords YtmechelmnpoddaaW.PrintLast YtmechelmnpoddaaW.PrintMore
open A7 F7
def spec_DrawEscapeList.f (k : Nat) (l0 : List Int) : Option (Int × Int × Int × Int) :=
 (spec_l1Cur_branch.f l0 0 0).bind fun t => (spec_l1Cur_among.f l0 t.2.2.1 t.2.2.2 [0, 1, 3, 7, 20, 63, 127, 200, 201, (-1)]).bind fun u => (spec_l1Cur_one.f l0 u.2.1 u.2.2 3).bind fun x =>
 (spec_esNodes.f k t.1 t.2.1).bind fun N => (spec_l1Cur_among.f l0 x.2.1 x.2.2 [0, 1, 2, 3, 0, 1, 2, 4, (-1)]).bind fun y => some (t.1, t.2.1, y.1, if x.1 = true then (if 0 < N then N else u.1) else u.1)
set_option maxHeartbeats 8000000 in
set_option maxRecDepth 100000 in
theorem spec_DrawEscapeList.calls (k : Nat) (A0 : Option Addr) (c0 : Nat) (l0 : List Int) (r1 r2 r3 r4 : Int) (w : World) (hr0 : Kd.C (Kd.int .u8) w A0 l0.length l0) (hc0 : l0.length ≤ c0) (h : spec_DrawEscapeList.f k l0 = some (r1, r2, r3, r4)) :
  Calls Try.prog 52 #[.slice A0 l0.length c0] w fun e w' => e = .returned (.tuple #[.int .i64 r1, .int .i64 r2, .int .i64 r3, .int .i64 r4]) ∧ Below w.heap.size w w' := by
 have HR := Aside0.mk hr0
 clear hr0 hc0
 unfold spec_DrawEscapeList.f at h
 obtain ⟨⟨b, d, a1, s1⟩, h1, h⟩ := Option.bind_eq_some_iff.mp h
 obtain ⟨⟨n0, a2, s2⟩, h2, h⟩ := Option.bind_eq_some_iff.mp h
 obtain ⟨⟨x, a3, s3⟩, h3, h⟩ := Option.bind_eq_some_iff.mp h
 obtain ⟨N, h4, h⟩ := Option.bind_eq_some_iff.mp h
 obtain ⟨⟨kk, a5, s5⟩, h5, h⟩ := Option.bind_eq_some_iff.mp h
 simp only [Option.some.injEq, Prod.mk.injEq] at h
 obtain ⟨rfl, rfl, rfl, rfl⟩ := h
 obtain ⟨y1, hy1⟩ : ∃ y_ : List Int, y_ = [0, 1, 3, 7, 20, 63, 127, 200, 201, (-1)] := ⟨_, rfl⟩
 obtain ⟨y2, hy2⟩ : ∃ y_ : List Int, y_ = [0, 1, 2, 3, 0, 1, 2, 4, (-1)] := ⟨_, rfl⟩
 replace h2 : spec_l1Cur_among.f l0 a1 s1 y1 = some (n0, a2, s2) := by rw [hy1]; exact h2
 replace h5 : spec_l1Cur_among.f l0 a3 s3 y2 = some (kk, a5, s5) := by rw [hy2]; exact h5
 have Ny1 := Aside0.mk hy1
 have Ny2 := Aside0.mk hy2
 have H1 := Aside0.mk h1
 have H2 := Aside0.mk h2
 have H3 := Aside0.mk h3
 have H4 := Aside0.mk h4
 have H5 := Aside0.mk h5
 clear h1 h2 h3 h4 h5 hy1 hy2
 cases x with
 | false =>
  go_enter Try.func52, Try.ntmps52
  go_wp2_with (first | ((with_reducible refine gate_callee (f := 80) rfl ?_); refine goesL_ (some 15) rfl rfl Try.func80 (by kernel_rfl) rfl #[.pointer (some ⟨w.heap.size, 0, none⟩)] rfl (by (try simp only [List.map_toArray, List.map_cons, List.map_nil]); first | done | rfl) ?_; (with_reducible refine (spec_l1Cur_branch.calls w.heap.size l0 0 0 b d a1 s1 w _ ?side1 ?side2 H1.out).mono ?_); (case side1 => exact IsS74.new w w A0 c0 l0 0 0 (Below.refl _ _) HR.out); (case side2 => exact bA_ (Below.refl _ _) _); rintro e w_ ⟨rfl, hi, hb, hk⟩; refine ⟨_, rfl, ?_⟩; have HI := Aside0.mk hi; have HB := Aside0.mk hb; clear hi hb hk) | ((with_reducible refine gate_dst (N := 19) rfl ?_); refine Kd.R_lit (Kd.int .i64) _ 3 ?hg (N := 19) ?hd (xs := ([0, 1, 3, 7, 20, 63, 127, 200, 201, (-1)] : List Int)) (inner := [.int .i64 0, .int .i64 1, .int .i64 3, .int .i64 7, .int .i64 20, .int .i64 63, .int .i64 127, .int .i64 200, .int .i64 201, .int .i64 (-1)]) (ok := fun _ => True) (okp := fun _ => True) ?hr ?hp (fun _ hk => hk) trivial (Below.refl _ _) (Nat.le_refl _) (by simp) ?_; (case hd => rfl); (case hg => rfl); (case hr => first | (go_simp; done) | (go_simp; rfl)); (case hp => exact (Reps.one (show Kd.M (Kd.int .i64) _ _ _ 0 [.int .i64 0] from rfl) (Reps.one (show Kd.M (Kd.int .i64) _ _ _ 1 [.int .i64 1] from rfl) (Reps.one (show Kd.M (Kd.int .i64) _ _ _ 3 [.int .i64 3] from rfl) (Reps.one (show Kd.M (Kd.int .i64) _ _ _ 7 [.int .i64 7] from rfl) (Reps.one (show Kd.M (Kd.int .i64) _ _ _ 20 [.int .i64 20] from rfl) (Reps.one (show Kd.M (Kd.int .i64) _ _ _ 63 [.int .i64 63] from rfl) (Reps.one (show Kd.M (Kd.int .i64) _ _ _ 127 [.int .i64 127] from rfl) (Reps.one (show Kd.M (Kd.int .i64) _ _ _ 200 [.int .i64 200] from rfl) (Reps.one (show Kd.M (Kd.int .i64) _ _ _ 201 [.int .i64 201] from rfl) (Reps.one (show Kd.M (Kd.int .i64) _ _ _ (-1) [.int .i64 (-1)] from rfl) (Reps.none _ _)))))))))))); intro v_ w_ ho hb hg_ hnew_; clear hg_ hnew_; (first | rw [← Ny1.out] at ho | (simp only [Int.reduceToNat] at ho; rw [← Ny1.out] at ho)); have n1_ := Aside0.mk (IsS74.below (by repeat (first | (with_reducible first | exact HI.out | apply IsS74.alloc | apply IsS74.drewN | apply IsS74.drew) | exact HI.out)) hb); have n2_ := Aside0.mk (bP_ (by repeat (first | (with_reducible first | exact HB.out | apply bA_ | apply bN_ | apply bD_) | exact HB.out)) hb); have HO := Aside0.mk ho; clear HI HB; have HI := n1_; have HB := n2_; clear n1_ n2_ hb ho; obtain ⟨Ao, co, eo⟩ := Kd.R_slice HO.out; subst eo) | ((with_reducible refine gate_callee (f := 79) rfl ?_); refine goesL_ (some 20) rfl rfl Try.func79 (by kernel_rfl) rfl #[.pointer (some ⟨w.heap.size, 0, none⟩), .slice Ao y1.length co] rfl (by (try simp only [List.map_toArray, List.map_cons, List.map_nil]); first | done | rfl) ?_; (with_reducible refine (spec_l1Cur_among.calls w.heap.size l0 a1 s1 _ _ y1 n0 a2 s2 w _ ?side1 ?side2 ?side3 ?side4 ?side5 H2.out).mono ?_); (case side1 => repeat (first | (with_reducible first | exact HI.out | apply IsS74.alloc | apply IsS74.drewN | apply IsS74.drew) | exact HI.out)); (case side2 => repeat (first | (with_reducible first | exact HB.out | apply bA_ | apply bN_ | apply bD_) | exact HB.out)); (case side3 => repeat (first | exact (Kd.R_reads' HO.out).2.2 | (with_reducible refine Kd.C_alloc ?_ _) | (with_reducible refine Kd.C_drewN ?_ _) | (with_reducible refine Kd.C_drew ?_))); (case side4 => exact (Kd.R_reads' HO.out).2.1); (case side5 => exact far_slice (IsS74.own_ne HI.out HO.out (by decide))); rintro e w_ ⟨rfl, hi, hb, hk⟩; refine ⟨_, rfl, ?_⟩; have n1_ := Aside0.mk hi; have n2_ := Aside0.mk hb; clear HI HB HO hi hb hk; have HI := n1_; have HB := n2_; clear n1_ n2_) | (go_at_call 81; (with_reducible refine (spec_l1Cur_one.calls w.heap.size l0 a2 s2 3 false a3 s3 w _ ?side1 ?side2 H3.out).mono ?_); (case side1 => repeat (first | (with_reducible first | exact HI.out | apply IsS74.alloc | apply IsS74.drewN | apply IsS74.drew) | exact HI.out)); (case side2 => repeat (first | (with_reducible first | exact HB.out | apply bA_ | apply bN_ | apply bD_) | exact HB.out)); rintro e w_ ⟨rfl, hi, hb, hk⟩; have n1_ := Aside0.mk hi; have n2_ := Aside0.mk hb; clear HI HB hi hb hk; have HI := n1_; have HB := n2_; clear n1_ n2_) | (go_at_call 55; (with_reducible refine (spec_esNodes.calls k b d N _ H4.out).mono ?_); rintro e w' ⟨rfl, ⟨nd, rfl⟩⟩) | ((with_reducible refine gate_dst (N := 35) rfl ?_); refine Kd.R_lit (Kd.int .i64) _ 3 ?hg (N := 35) ?hd (xs := ([0, 1, 2, 3, 0, 1, 2, 4, (-1)] : List Int)) (inner := [.int .i64 0, .int .i64 1, .int .i64 2, .int .i64 3, .int .i64 0, .int .i64 1, .int .i64 2, .int .i64 4, .int .i64 (-1)]) (ok := fun _ => True) (okp := fun _ => True) ?hr ?hp (fun _ hk => hk) trivial (Below.refl _ _) (Nat.le_refl _) (by simp) ?_; (case hd => rfl); (case hg => rfl); (case hr => first | (go_simp; done) | (go_simp; rfl)); (case hp => exact (Reps.one (show Kd.M (Kd.int .i64) _ _ _ 0 [.int .i64 0] from rfl) (Reps.one (show Kd.M (Kd.int .i64) _ _ _ 1 [.int .i64 1] from rfl) (Reps.one (show Kd.M (Kd.int .i64) _ _ _ 2 [.int .i64 2] from rfl) (Reps.one (show Kd.M (Kd.int .i64) _ _ _ 3 [.int .i64 3] from rfl) (Reps.one (show Kd.M (Kd.int .i64) _ _ _ 0 [.int .i64 0] from rfl) (Reps.one (show Kd.M (Kd.int .i64) _ _ _ 1 [.int .i64 1] from rfl) (Reps.one (show Kd.M (Kd.int .i64) _ _ _ 2 [.int .i64 2] from rfl) (Reps.one (show Kd.M (Kd.int .i64) _ _ _ 4 [.int .i64 4] from rfl) (Reps.one (show Kd.M (Kd.int .i64) _ _ _ (-1) [.int .i64 (-1)] from rfl) (Reps.none _ _))))))))))); intro v_ w_ ho hb hg_ hnew_; clear hg_ hnew_; (first | rw [← Ny2.out] at ho | (simp only [Int.reduceToNat] at ho; rw [← Ny2.out] at ho)); have n1_ := Aside0.mk (IsS74.below (by repeat (first | (with_reducible first | exact HI.out | apply IsS74.alloc | apply IsS74.drewN | apply IsS74.drew) | exact HI.out)) hb); have n2_ := Aside0.mk (bP_ (by repeat (first | (with_reducible first | exact HB.out | apply bA_ | apply bN_ | apply bD_) | exact HB.out)) hb); have HO := Aside0.mk ho; clear HI HB; have HI := n1_; have HB := n2_; clear n1_ n2_ hb ho; obtain ⟨Ao, co, eo⟩ := Kd.R_slice HO.out; subst eo) | ((with_reducible refine gate_callee (f := 79) rfl ?_); refine goesL_ (some 36) rfl rfl Try.func79 (by kernel_rfl) rfl #[.pointer (some ⟨w.heap.size, 0, none⟩), .slice Ao y2.length co] rfl (by (try simp only [List.map_toArray, List.map_cons, List.map_nil]); first | done | rfl) ?_; (with_reducible refine (spec_l1Cur_among.calls w.heap.size l0 a3 s3 _ _ y2 kk a5 s5 w _ ?side1 ?side2 ?side3 ?side4 ?side5 H5.out).mono ?_); (case side1 => repeat (first | (with_reducible first | exact HI.out | apply IsS74.alloc | apply IsS74.drewN | apply IsS74.drew) | exact HI.out)); (case side2 => repeat (first | (with_reducible first | exact HB.out | apply bA_ | apply bN_ | apply bD_) | exact HB.out)); (case side3 => repeat (first | exact (Kd.R_reads' HO.out).2.2 | (with_reducible refine Kd.C_alloc ?_ _) | (with_reducible refine Kd.C_drewN ?_ _) | (with_reducible refine Kd.C_drew ?_))); (case side4 => exact (Kd.R_reads' HO.out).2.1); (case side5 => exact far_slice (IsS74.own_ne HI.out HO.out (by decide))); rintro e w_ ⟨rfl, hi, hb, hk⟩; refine ⟨_, rfl, ?_⟩; have n1_ := Aside0.mk hi; have n2_ := Aside0.mk hb; clear HI HB HO hi hb hk; have HI := n1_; have HB := n2_; clear n1_ n2_))
  refine bodyPost_ret (results_list (rs := [.tmp 2, .tmp 3, .tmp 4, .tmp 5]) rfl (by simp) (.tmp (.tmp (.tmp (.tmp .nil))))) rfl ?_
  exact ⟨rfl, HB.out⟩
 | true =>
  by_cases hN : 0 < N
  ·have hN' : N > 0 := hN
   go_enter Try.func52, Try.ntmps52
   go_wp2_with (first | ((with_reducible refine gate_callee (f := 80) rfl ?_); refine goesL_ (some 15) rfl rfl Try.func80 (by kernel_rfl) rfl #[.pointer (some ⟨w.heap.size, 0, none⟩)] rfl (by (try simp only [List.map_toArray, List.map_cons, List.map_nil]); first | done | rfl) ?_; (with_reducible refine (spec_l1Cur_branch.calls w.heap.size l0 0 0 b d a1 s1 w _ ?side1 ?side2 H1.out).mono ?_); (case side1 => exact IsS74.new w w A0 c0 l0 0 0 (Below.refl _ _) HR.out); (case side2 => exact bA_ (Below.refl _ _) _); rintro e w_ ⟨rfl, hi, hb, hk⟩; refine ⟨_, rfl, ?_⟩; have HI := Aside0.mk hi; have HB := Aside0.mk hb; clear hi hb hk) | ((with_reducible refine gate_dst (N := 19) rfl ?_); refine Kd.R_lit (Kd.int .i64) _ 3 ?hg (N := 19) ?hd (xs := ([0, 1, 3, 7, 20, 63, 127, 200, 201, (-1)] : List Int)) (inner := [.int .i64 0, .int .i64 1, .int .i64 3, .int .i64 7, .int .i64 20, .int .i64 63, .int .i64 127, .int .i64 200, .int .i64 201, .int .i64 (-1)]) (ok := fun _ => True) (okp := fun _ => True) ?hr ?hp (fun _ hk => hk) trivial (Below.refl _ _) (Nat.le_refl _) (by simp) ?_; (case hd => rfl); (case hg => rfl); (case hr => first | (go_simp; done) | (go_simp; rfl)); (case hp => exact (Reps.one (show Kd.M (Kd.int .i64) _ _ _ 0 [.int .i64 0] from rfl) (Reps.one (show Kd.M (Kd.int .i64) _ _ _ 1 [.int .i64 1] from rfl) (Reps.one (show Kd.M (Kd.int .i64) _ _ _ 3 [.int .i64 3] from rfl) (Reps.one (show Kd.M (Kd.int .i64) _ _ _ 7 [.int .i64 7] from rfl) (Reps.one (show Kd.M (Kd.int .i64) _ _ _ 20 [.int .i64 20] from rfl) (Reps.one (show Kd.M (Kd.int .i64) _ _ _ 63 [.int .i64 63] from rfl) (Reps.one (show Kd.M (Kd.int .i64) _ _ _ 127 [.int .i64 127] from rfl) (Reps.one (show Kd.M (Kd.int .i64) _ _ _ 200 [.int .i64 200] from rfl) (Reps.one (show Kd.M (Kd.int .i64) _ _ _ 201 [.int .i64 201] from rfl) (Reps.one (show Kd.M (Kd.int .i64) _ _ _ (-1) [.int .i64 (-1)] from rfl) (Reps.none _ _)))))))))))); intro v_ w_ ho hb hg_ hnew_; clear hg_ hnew_; (first | rw [← Ny1.out] at ho | (simp only [Int.reduceToNat] at ho; rw [← Ny1.out] at ho)); have n1_ := Aside0.mk (IsS74.below (by repeat (first | (with_reducible first | exact HI.out | apply IsS74.alloc | apply IsS74.drewN | apply IsS74.drew) | exact HI.out)) hb); have n2_ := Aside0.mk (bP_ (by repeat (first | (with_reducible first | exact HB.out | apply bA_ | apply bN_ | apply bD_) | exact HB.out)) hb); have HO := Aside0.mk ho; clear HI HB; have HI := n1_; have HB := n2_; clear n1_ n2_ hb ho; obtain ⟨Ao, co, eo⟩ := Kd.R_slice HO.out; subst eo) | ((with_reducible refine gate_callee (f := 79) rfl ?_); refine goesL_ (some 20) rfl rfl Try.func79 (by kernel_rfl) rfl #[.pointer (some ⟨w.heap.size, 0, none⟩), .slice Ao y1.length co] rfl (by (try simp only [List.map_toArray, List.map_cons, List.map_nil]); first | done | rfl) ?_; (with_reducible refine (spec_l1Cur_among.calls w.heap.size l0 a1 s1 _ _ y1 n0 a2 s2 w _ ?side1 ?side2 ?side3 ?side4 ?side5 H2.out).mono ?_); (case side1 => repeat (first | (with_reducible first | exact HI.out | apply IsS74.alloc | apply IsS74.drewN | apply IsS74.drew) | exact HI.out)); (case side2 => repeat (first | (with_reducible first | exact HB.out | apply bA_ | apply bN_ | apply bD_) | exact HB.out)); (case side3 => repeat (first | exact (Kd.R_reads' HO.out).2.2 | (with_reducible refine Kd.C_alloc ?_ _) | (with_reducible refine Kd.C_drewN ?_ _) | (with_reducible refine Kd.C_drew ?_))); (case side4 => exact (Kd.R_reads' HO.out).2.1); (case side5 => exact far_slice (IsS74.own_ne HI.out HO.out (by decide))); rintro e w_ ⟨rfl, hi, hb, hk⟩; refine ⟨_, rfl, ?_⟩; have n1_ := Aside0.mk hi; have n2_ := Aside0.mk hb; clear HI HB HO hi hb hk; have HI := n1_; have HB := n2_; clear n1_ n2_) | (go_at_call 81; (with_reducible refine (spec_l1Cur_one.calls w.heap.size l0 a2 s2 3 true a3 s3 w _ ?side1 ?side2 H3.out).mono ?_); (case side1 => repeat (first | (with_reducible first | exact HI.out | apply IsS74.alloc | apply IsS74.drewN | apply IsS74.drew) | exact HI.out)); (case side2 => repeat (first | (with_reducible first | exact HB.out | apply bA_ | apply bN_ | apply bD_) | exact HB.out)); rintro e w_ ⟨rfl, hi, hb, hk⟩; have n1_ := Aside0.mk hi; have n2_ := Aside0.mk hb; clear HI HB hi hb hk; have HI := n1_; have HB := n2_; clear n1_ n2_) | (go_at_call 55; (with_reducible refine (spec_esNodes.calls k b d N _ H4.out).mono ?_); rintro e w' ⟨rfl, ⟨nd, rfl⟩⟩) | ((with_reducible refine gate_dst (N := 35) rfl ?_); refine Kd.R_lit (Kd.int .i64) _ 3 ?hg (N := 35) ?hd (xs := ([0, 1, 2, 3, 0, 1, 2, 4, (-1)] : List Int)) (inner := [.int .i64 0, .int .i64 1, .int .i64 2, .int .i64 3, .int .i64 0, .int .i64 1, .int .i64 2, .int .i64 4, .int .i64 (-1)]) (ok := fun _ => True) (okp := fun _ => True) ?hr ?hp (fun _ hk => hk) trivial (Below.refl _ _) (Nat.le_refl _) (by simp) ?_; (case hd => rfl); (case hg => rfl); (case hr => first | (go_simp; done) | (go_simp; rfl)); (case hp => exact (Reps.one (show Kd.M (Kd.int .i64) _ _ _ 0 [.int .i64 0] from rfl) (Reps.one (show Kd.M (Kd.int .i64) _ _ _ 1 [.int .i64 1] from rfl) (Reps.one (show Kd.M (Kd.int .i64) _ _ _ 2 [.int .i64 2] from rfl) (Reps.one (show Kd.M (Kd.int .i64) _ _ _ 3 [.int .i64 3] from rfl) (Reps.one (show Kd.M (Kd.int .i64) _ _ _ 0 [.int .i64 0] from rfl) (Reps.one (show Kd.M (Kd.int .i64) _ _ _ 1 [.int .i64 1] from rfl) (Reps.one (show Kd.M (Kd.int .i64) _ _ _ 2 [.int .i64 2] from rfl) (Reps.one (show Kd.M (Kd.int .i64) _ _ _ 4 [.int .i64 4] from rfl) (Reps.one (show Kd.M (Kd.int .i64) _ _ _ (-1) [.int .i64 (-1)] from rfl) (Reps.none _ _))))))))))); intro v_ w_ ho hb hg_ hnew_; clear hg_ hnew_; (first | rw [← Ny2.out] at ho | (simp only [Int.reduceToNat] at ho; rw [← Ny2.out] at ho)); have n1_ := Aside0.mk (IsS74.below (by repeat (first | (with_reducible first | exact HI.out | apply IsS74.alloc | apply IsS74.drewN | apply IsS74.drew) | exact HI.out)) hb); have n2_ := Aside0.mk (bP_ (by repeat (first | (with_reducible first | exact HB.out | apply bA_ | apply bN_ | apply bD_) | exact HB.out)) hb); have HO := Aside0.mk ho; clear HI HB; have HI := n1_; have HB := n2_; clear n1_ n2_ hb ho; obtain ⟨Ao, co, eo⟩ := Kd.R_slice HO.out; subst eo) | ((with_reducible refine gate_callee (f := 79) rfl ?_); refine goesL_ (some 36) rfl rfl Try.func79 (by kernel_rfl) rfl #[.pointer (some ⟨w.heap.size, 0, none⟩), .slice Ao y2.length co] rfl (by (try simp only [List.map_toArray, List.map_cons, List.map_nil]); first | done | rfl) ?_; (with_reducible refine (spec_l1Cur_among.calls w.heap.size l0 a3 s3 _ _ y2 kk a5 s5 w _ ?side1 ?side2 ?side3 ?side4 ?side5 H5.out).mono ?_); (case side1 => repeat (first | (with_reducible first | exact HI.out | apply IsS74.alloc | apply IsS74.drewN | apply IsS74.drew) | exact HI.out)); (case side2 => repeat (first | (with_reducible first | exact HB.out | apply bA_ | apply bN_ | apply bD_) | exact HB.out)); (case side3 => repeat (first | exact (Kd.R_reads' HO.out).2.2 | (with_reducible refine Kd.C_alloc ?_ _) | (with_reducible refine Kd.C_drewN ?_ _) | (with_reducible refine Kd.C_drew ?_))); (case side4 => exact (Kd.R_reads' HO.out).2.1); (case side5 => exact far_slice (IsS74.own_ne HI.out HO.out (by decide))); rintro e w_ ⟨rfl, hi, hb, hk⟩; refine ⟨_, rfl, ?_⟩; have n1_ := Aside0.mk hi; have n2_ := Aside0.mk hb; clear HI HB HO hi hb hk; have HI := n1_; have HB := n2_; clear n1_ n2_))
   refine bodyPost_ret (results_list (rs := [.tmp 2, .tmp 3, .tmp 4, .tmp 5]) rfl (by simp) (.tmp (.tmp (.tmp (.tmp .nil))))) rfl ?_
   exact ⟨by simp [hN], HB.out⟩
  ·have hN' : ¬ (N > 0) := hN
   go_enter Try.func52, Try.ntmps52
   go_wp2_with (first | ((with_reducible refine gate_callee (f := 80) rfl ?_); refine goesL_ (some 15) rfl rfl Try.func80 (by kernel_rfl) rfl #[.pointer (some ⟨w.heap.size, 0, none⟩)] rfl (by (try simp only [List.map_toArray, List.map_cons, List.map_nil]); first | done | rfl) ?_; (with_reducible refine (spec_l1Cur_branch.calls w.heap.size l0 0 0 b d a1 s1 w _ ?side1 ?side2 H1.out).mono ?_); (case side1 => exact IsS74.new w w A0 c0 l0 0 0 (Below.refl _ _) HR.out); (case side2 => exact bA_ (Below.refl _ _) _); rintro e w_ ⟨rfl, hi, hb, hk⟩; refine ⟨_, rfl, ?_⟩; have HI := Aside0.mk hi; have HB := Aside0.mk hb; clear hi hb hk) | ((with_reducible refine gate_dst (N := 19) rfl ?_); refine Kd.R_lit (Kd.int .i64) _ 3 ?hg (N := 19) ?hd (xs := ([0, 1, 3, 7, 20, 63, 127, 200, 201, (-1)] : List Int)) (inner := [.int .i64 0, .int .i64 1, .int .i64 3, .int .i64 7, .int .i64 20, .int .i64 63, .int .i64 127, .int .i64 200, .int .i64 201, .int .i64 (-1)]) (ok := fun _ => True) (okp := fun _ => True) ?hr ?hp (fun _ hk => hk) trivial (Below.refl _ _) (Nat.le_refl _) (by simp) ?_; (case hd => rfl); (case hg => rfl); (case hr => first | (go_simp; done) | (go_simp; rfl)); (case hp => exact (Reps.one (show Kd.M (Kd.int .i64) _ _ _ 0 [.int .i64 0] from rfl) (Reps.one (show Kd.M (Kd.int .i64) _ _ _ 1 [.int .i64 1] from rfl) (Reps.one (show Kd.M (Kd.int .i64) _ _ _ 3 [.int .i64 3] from rfl) (Reps.one (show Kd.M (Kd.int .i64) _ _ _ 7 [.int .i64 7] from rfl) (Reps.one (show Kd.M (Kd.int .i64) _ _ _ 20 [.int .i64 20] from rfl) (Reps.one (show Kd.M (Kd.int .i64) _ _ _ 63 [.int .i64 63] from rfl) (Reps.one (show Kd.M (Kd.int .i64) _ _ _ 127 [.int .i64 127] from rfl) (Reps.one (show Kd.M (Kd.int .i64) _ _ _ 200 [.int .i64 200] from rfl) (Reps.one (show Kd.M (Kd.int .i64) _ _ _ 201 [.int .i64 201] from rfl) (Reps.one (show Kd.M (Kd.int .i64) _ _ _ (-1) [.int .i64 (-1)] from rfl) (Reps.none _ _)))))))))))); intro v_ w_ ho hb hg_ hnew_; clear hg_ hnew_; (first | rw [← Ny1.out] at ho | (simp only [Int.reduceToNat] at ho; rw [← Ny1.out] at ho)); have n1_ := Aside0.mk (IsS74.below (by repeat (first | (with_reducible first | exact HI.out | apply IsS74.alloc | apply IsS74.drewN | apply IsS74.drew) | exact HI.out)) hb); have n2_ := Aside0.mk (bP_ (by repeat (first | (with_reducible first | exact HB.out | apply bA_ | apply bN_ | apply bD_) | exact HB.out)) hb); have HO := Aside0.mk ho; clear HI HB; have HI := n1_; have HB := n2_; clear n1_ n2_ hb ho; obtain ⟨Ao, co, eo⟩ := Kd.R_slice HO.out; subst eo) | ((with_reducible refine gate_callee (f := 79) rfl ?_); refine goesL_ (some 20) rfl rfl Try.func79 (by kernel_rfl) rfl #[.pointer (some ⟨w.heap.size, 0, none⟩), .slice Ao y1.length co] rfl (by (try simp only [List.map_toArray, List.map_cons, List.map_nil]); first | done | rfl) ?_; (with_reducible refine (spec_l1Cur_among.calls w.heap.size l0 a1 s1 _ _ y1 n0 a2 s2 w _ ?side1 ?side2 ?side3 ?side4 ?side5 H2.out).mono ?_); (case side1 => repeat (first | (with_reducible first | exact HI.out | apply IsS74.alloc | apply IsS74.drewN | apply IsS74.drew) | exact HI.out)); (case side2 => repeat (first | (with_reducible first | exact HB.out | apply bA_ | apply bN_ | apply bD_) | exact HB.out)); (case side3 => repeat (first | exact (Kd.R_reads' HO.out).2.2 | (with_reducible refine Kd.C_alloc ?_ _) | (with_reducible refine Kd.C_drewN ?_ _) | (with_reducible refine Kd.C_drew ?_))); (case side4 => exact (Kd.R_reads' HO.out).2.1); (case side5 => exact far_slice (IsS74.own_ne HI.out HO.out (by decide))); rintro e w_ ⟨rfl, hi, hb, hk⟩; refine ⟨_, rfl, ?_⟩; have n1_ := Aside0.mk hi; have n2_ := Aside0.mk hb; clear HI HB HO hi hb hk; have HI := n1_; have HB := n2_; clear n1_ n2_) | (go_at_call 81; (with_reducible refine (spec_l1Cur_one.calls w.heap.size l0 a2 s2 3 true a3 s3 w _ ?side1 ?side2 H3.out).mono ?_); (case side1 => repeat (first | (with_reducible first | exact HI.out | apply IsS74.alloc | apply IsS74.drewN | apply IsS74.drew) | exact HI.out)); (case side2 => repeat (first | (with_reducible first | exact HB.out | apply bA_ | apply bN_ | apply bD_) | exact HB.out)); rintro e w_ ⟨rfl, hi, hb, hk⟩; have n1_ := Aside0.mk hi; have n2_ := Aside0.mk hb; clear HI HB hi hb hk; have HI := n1_; have HB := n2_; clear n1_ n2_) | (go_at_call 55; (with_reducible refine (spec_esNodes.calls k b d N _ H4.out).mono ?_); rintro e w' ⟨rfl, ⟨nd, rfl⟩⟩) | ((with_reducible refine gate_dst (N := 35) rfl ?_); refine Kd.R_lit (Kd.int .i64) _ 3 ?hg (N := 35) ?hd (xs := ([0, 1, 2, 3, 0, 1, 2, 4, (-1)] : List Int)) (inner := [.int .i64 0, .int .i64 1, .int .i64 2, .int .i64 3, .int .i64 0, .int .i64 1, .int .i64 2, .int .i64 4, .int .i64 (-1)]) (ok := fun _ => True) (okp := fun _ => True) ?hr ?hp (fun _ hk => hk) trivial (Below.refl _ _) (Nat.le_refl _) (by simp) ?_; (case hd => rfl); (case hg => rfl); (case hr => first | (go_simp; done) | (go_simp; rfl)); (case hp => exact (Reps.one (show Kd.M (Kd.int .i64) _ _ _ 0 [.int .i64 0] from rfl) (Reps.one (show Kd.M (Kd.int .i64) _ _ _ 1 [.int .i64 1] from rfl) (Reps.one (show Kd.M (Kd.int .i64) _ _ _ 2 [.int .i64 2] from rfl) (Reps.one (show Kd.M (Kd.int .i64) _ _ _ 3 [.int .i64 3] from rfl) (Reps.one (show Kd.M (Kd.int .i64) _ _ _ 0 [.int .i64 0] from rfl) (Reps.one (show Kd.M (Kd.int .i64) _ _ _ 1 [.int .i64 1] from rfl) (Reps.one (show Kd.M (Kd.int .i64) _ _ _ 2 [.int .i64 2] from rfl) (Reps.one (show Kd.M (Kd.int .i64) _ _ _ 4 [.int .i64 4] from rfl) (Reps.one (show Kd.M (Kd.int .i64) _ _ _ (-1) [.int .i64 (-1)] from rfl) (Reps.none _ _))))))))))); intro v_ w_ ho hb hg_ hnew_; clear hg_ hnew_; (first | rw [← Ny2.out] at ho | (simp only [Int.reduceToNat] at ho; rw [← Ny2.out] at ho)); have n1_ := Aside0.mk (IsS74.below (by repeat (first | (with_reducible first | exact HI.out | apply IsS74.alloc | apply IsS74.drewN | apply IsS74.drew) | exact HI.out)) hb); have n2_ := Aside0.mk (bP_ (by repeat (first | (with_reducible first | exact HB.out | apply bA_ | apply bN_ | apply bD_) | exact HB.out)) hb); have HO := Aside0.mk ho; clear HI HB; have HI := n1_; have HB := n2_; clear n1_ n2_ hb ho; obtain ⟨Ao, co, eo⟩ := Kd.R_slice HO.out; subst eo) | ((with_reducible refine gate_callee (f := 79) rfl ?_); refine goesL_ (some 36) rfl rfl Try.func79 (by kernel_rfl) rfl #[.pointer (some ⟨w.heap.size, 0, none⟩), .slice Ao y2.length co] rfl (by (try simp only [List.map_toArray, List.map_cons, List.map_nil]); first | done | rfl) ?_; (with_reducible refine (spec_l1Cur_among.calls w.heap.size l0 a3 s3 _ _ y2 kk a5 s5 w _ ?side1 ?side2 ?side3 ?side4 ?side5 H5.out).mono ?_); (case side1 => repeat (first | (with_reducible first | exact HI.out | apply IsS74.alloc | apply IsS74.drewN | apply IsS74.drew) | exact HI.out)); (case side2 => repeat (first | (with_reducible first | exact HB.out | apply bA_ | apply bN_ | apply bD_) | exact HB.out)); (case side3 => repeat (first | exact (Kd.R_reads' HO.out).2.2 | (with_reducible refine Kd.C_alloc ?_ _) | (with_reducible refine Kd.C_drewN ?_ _) | (with_reducible refine Kd.C_drew ?_))); (case side4 => exact (Kd.R_reads' HO.out).2.1); (case side5 => exact far_slice (IsS74.own_ne HI.out HO.out (by decide))); rintro e w_ ⟨rfl, hi, hb, hk⟩; refine ⟨_, rfl, ?_⟩; have n1_ := Aside0.mk hi; have n2_ := Aside0.mk hb; clear HI HB HO hi hb hk; have HI := n1_; have HB := n2_; clear n1_ n2_))
   refine bodyPost_ret (results_list (rs := [.tmp 2, .tmp 3, .tmp 4, .tmp 5]) rfl (by simp) (.tmp (.tmp (.tmp (.tmp .nil))))) rfl ?_
   exact ⟨by simp [hN], HB.out⟩
def spec_DrawRotorsOnLevel.f (k : Nat) (l0 : List Int) : Option (Int × Int × Int × Int × Int) :=
 (spec_DrawEscapeList.f k l0).bind fun t => (spec_l1Cur_among.f l0 0 0 [0, 1, 2, 3, wrap64 (t.2.1 - 1), t.2.1, (-1)]).bind fun y => some (t.1, t.2.1, t.2.2.1, t.2.2.2, y.1)
set_option maxHeartbeats 8000000 in
set_option maxRecDepth 100000 in
theorem spec_DrawRotorsOnLevel.calls (k : Nat) (A0 : Option Addr) (c0 : Nat) (l0 : List Int) (r1 r2 r3 r4 r5 : Int) (w : World) (hr0 : Kd.C (Kd.int .u8) w A0 l0.length l0) (hc0 : l0.length ≤ c0) (h : spec_DrawRotorsOnLevel.f k l0 = some (r1, r2, r3, r4, r5)) :
  Calls Try.prog 50 #[.slice A0 l0.length c0] w fun e w' => e = .returned (.tuple #[.int .i64 r1, .int .i64 r2, .int .i64 r3, .int .i64 r4, .int .i64 r5]) ∧ Below w.heap.size w w' := by
 have HR := Aside0.mk hr0
 have HC := Aside0.mk hc0
 clear hr0 hc0
 unfold spec_DrawRotorsOnLevel.f at h
 obtain ⟨⟨b, d, kk, n⟩, h1, h⟩ := Option.bind_eq_some_iff.mp h
 obtain ⟨⟨lv, a2, s2⟩, h2, h⟩ := Option.bind_eq_some_iff.mp h
 simp only [Option.some.injEq, Prod.mk.injEq] at h
 obtain ⟨rfl, rfl, rfl, rfl, rfl⟩ := h
 obtain ⟨y1, hy1⟩ : ∃ y_ : List Int, y_ = [0, 1, 2, 3, wrap64 (d - 1), d, (-1)] := ⟨_, rfl⟩
 replace h2 : spec_l1Cur_among.f l0 0 0 y1 = some (lv, a2, s2) := by rw [hy1]; exact h2
 have Ny1 := Aside0.mk hy1
 have H1 := Aside0.mk h1
 have H2 := Aside0.mk h2
 clear h1 h2 hy1
 go_enter Try.func50, Try.ntmps50
 go_wp2_with (first | (go_at_call 52; (with_reducible refine (spec_DrawEscapeList.calls k A0 c0 l0 b d kk n _ ?side1 HC.out H1.out).mono ?_); (case side1 => exact Kd.C_alloc HR.out _); rintro e w_ ⟨rfl, hb⟩; have HI := Aside0.mk (IsS74.below (IsS74.new w w A0 c0 l0 0 0 (Below.refl _ _) HR.out) hb); have HB := Aside0.mk (bP_ (bA_ (Below.refl w.heap.size w) _) hb); clear hb) | ((with_reducible refine gate_dst (N := 30) rfl ?_); refine Kd.R_lit (Kd.int .i64) _ 3 ?hg (N := 30) ?hd (xs := ([0, 1, 2, 3, (wrap64 (d - 1)), d, (-1)] : List Int)) (inner := [.int .i64 0, .int .i64 1, .int .i64 2, .int .i64 3, .int .i64 (wrap64 (d - 1)), .int .i64 d, .int .i64 (-1)]) (ok := fun _ => True) (okp := fun _ => True) ?hr ?hp (fun _ hk => hk) trivial (Below.refl _ _) (Nat.le_refl _) (by simp) ?_; (case hd => rfl); (case hg => rfl); (case hr => first | (go_simp; done) | (go_simp; rfl)); (case hp => exact (Reps.one (show Kd.M (Kd.int .i64) _ _ _ 0 [.int .i64 0] from rfl) (Reps.one (show Kd.M (Kd.int .i64) _ _ _ 1 [.int .i64 1] from rfl) (Reps.one (show Kd.M (Kd.int .i64) _ _ _ 2 [.int .i64 2] from rfl) (Reps.one (show Kd.M (Kd.int .i64) _ _ _ 3 [.int .i64 3] from rfl) (Reps.one (show Kd.M (Kd.int .i64) _ _ _ (wrap64 (d - 1)) [.int .i64 (wrap64 (d - 1))] from rfl) (Reps.one (show Kd.M (Kd.int .i64) _ _ _ d [.int .i64 d] from rfl) (Reps.one (show Kd.M (Kd.int .i64) _ _ _ (-1) [.int .i64 (-1)] from rfl) (Reps.none _ _))))))))); intro v_ w_ ho hb hg_ hnew_; clear hg_ hnew_; (first | rw [← Ny1.out] at ho | (simp only [Int.reduceToNat] at ho; rw [← Ny1.out] at ho)); have n1_ := Aside0.mk (IsS74.below (by repeat (first | (with_reducible first | exact HI.out | apply IsS74.alloc | apply IsS74.drewN | apply IsS74.drew) | exact HI.out)) hb); have n2_ := Aside0.mk (bP_ (by repeat (first | (with_reducible first | exact HB.out | apply bA_ | apply bN_ | apply bD_) | exact HB.out)) hb); have HO := Aside0.mk ho; clear HI HB; have HI := n1_; have HB := n2_; clear n1_ n2_ hb ho; obtain ⟨Ao, co, eo⟩ := Kd.R_slice HO.out; subst eo) | ((with_reducible refine gate_callee (f := 79) rfl ?_); refine goesL_ (some 31) rfl rfl Try.func79 (by kernel_rfl) rfl #[.pointer (some ⟨w.heap.size, 0, none⟩), .slice Ao y1.length co] rfl (by (try simp only [List.map_toArray, List.map_cons, List.map_nil]); first | done | rfl) ?_; (with_reducible refine (spec_l1Cur_among.calls w.heap.size l0 0 0 _ _ y1 lv a2 s2 w _ ?side1 ?side2 ?side3 ?side4 ?side5 H2.out).mono ?_); (case side1 => repeat (first | (with_reducible first | exact HI.out | apply IsS74.alloc | apply IsS74.drewN | apply IsS74.drew) | exact HI.out)); (case side2 => repeat (first | (with_reducible first | exact HB.out | apply bA_ | apply bN_ | apply bD_) | exact HB.out)); (case side3 => repeat (first | exact (Kd.R_reads' HO.out).2.2 | (with_reducible refine Kd.C_alloc ?_ _) | (with_reducible refine Kd.C_drewN ?_ _) | (with_reducible refine Kd.C_drew ?_))); (case side4 => exact (Kd.R_reads' HO.out).2.1); (case side5 => exact far_slice (IsS74.own_ne HI.out HO.out (by decide))); rintro e w_ ⟨rfl, hi, hb, hk⟩; refine ⟨_, rfl, ?_⟩; have n1_ := Aside0.mk hi; have n2_ := Aside0.mk hb; clear HI HB HO hi hb hk; have HI := n1_; have HB := n2_; clear n1_ n2_))
 refine bodyPost_ret (results_list (rs := [.tmp 2, .tmp 3, .tmp 4, .tmp 5, .tmp 6]) rfl (by simp) (.tmp (.tmp (.tmp (.tmp (.tmp .nil)))))) rfl ?_
 exact ⟨rfl, HB.out⟩
end Go.Proofs.Ytmechelmnpoddaa.H7
namespace Go.Proofs.Ytmechelmnpoddaa.Es
def dsum (B : Nat) : Nat → Nat → Nat → Nat
 | 0, _, a => a
 | p + 1, R, a => fN (R / B) fun R1 => fN (a + R % B) fun a1 => dsum B p R1 a1
def lvls (b k R V : Nat) : Nat → Bool
 | 0 => true
 | l + 1 => Nat.beq (dsum 4 (b ^ l) (R >>> (2 * inner b l)) 0 % (b + 1)) ((k * b ^ l + (V >>> (20 * l)) % 1048576) % (b + 1)) && lvls b k R V l
def imp (x y : Bool) : Bool := bif x then y else true
def stOk (b d inn k n R V E S : Nat) : Bool :=
 fN (inn + b ^ d) fun N =>
 Nat.beq ((V >>> (20 * d)) % 1048576) E && Nat.beq (dsum 1048576 (d + 1) V 0) (S + E) && lvls b k R V d &&
 imp (Nat.beq (n % N) 0) (Nat.beq R (k * ((4 ^ inn - 1) / 3))) && imp (Nat.beq n N) (Nat.beq E (b ^ d)) &&
 Nat.ble (E * (b ^ (d + 1) - 1)) (n * ((b - 1) * b ^ d) + (2 * d + 3) * (b ^ (d + 1) - 1)) && Nat.ble (n * ((b - 1) * b ^ d)) (E * (b ^ (d + 1) - 1) + (2 * d + 3) * (b ^ (d + 1) - 1))
def chOk (d N i : Nat) (e : Bool) (s M : Nat) : Bool :=
 (bif e then (Nat.ble d s && Nat.beq ((s - d) % 2) 0) else Nat.beq (s % 2) 1) && (bif Nat.ble N i then Nat.beq ((M >>> (i - N)) % 2) (endN e) else true)
def scanP (b d inn k : Nat) : Nat → Nat → Nat → Nat → Nat → Nat → Nat → Bool
 | 0, i, R, V, E, S, _ => stOk b d inn k i R V E S
 | m + 1, i, R, V, E, S, M => bif stOk b d inn k i R V E S then
   match runP b inn (d + 1) 5000 0 0 0 R (V + 1) with
   | none => false
   | some (e, s, R1, V1) => bif chOk d (inn + b ^ d) i e s M then fN (i + 1) fun i1 => fN (E + endN e) fun E1 => fN (S + s) fun S1 => fN (M + endN e <<< i) fun M1 => scanP b d inn k m i1 R1 V1 E1 S1 M1 else false
  else false
def scanOk (b d k : Nat) : Bool := fN (inner b d) fun inn => scanP b d inn k 200 0 (k * ((4 ^ inn - 1) / 3)) 0 0 0 0
theorem all_scan : (trees.all fun p => (List.range (p.1 + 1)).all fun k => scanOk p.1 p.2 k) = true := by decide +kernel
theorem dsum_eq (B : Nat) (hB : 0 < B) : ∀ (p : Nat) (l : List Nat) (a : Nat), (∀ x ∈ l, x < B) → dsum B p (pk B l) a = a + (l.take p).sum
 | 0, l, a, _ => by simp [dsum]
 | p + 1, [], a, h => by
  simp only [dsum, fN_eq, pk, Nat.zero_div, Nat.zero_mod, Nat.add_zero]
  have := dsum_eq B hB p [] a (by simp)
  simpa [pk] using this
 | p + 1, x :: t, a, h => by
  have hx : x < B := h x (by simp)
  have ih := dsum_eq B hB p t (a + x) (fun y hy => h y (by simp [hy]))
  simp only [dsum, fN_eq, pk]
  rw [Nat.add_mul_div_left _ _ hB, Nat.div_eq_of_lt hx, Nat.zero_add, Nat.add_mul_mod_self_left, Nat.mod_eq_of_lt hx, ih]
  simp [Nat.add_assoc]
theorem pk_drop (B : Nat) (hB : 0 < B) : ∀ (f : Nat) (l : List Nat), (∀ x ∈ l, x < B) → pk B l / B ^ f = pk B (l.drop f)
 | 0, l, _ => by simp
 | f + 1, [], _ => by simp [pk]
 | f + 1, x :: t, h => by
  have hx : x < B := h x (by simp)
  have ih := pk_drop B hB f t (fun y hy => h y (by simp [hy]))
  simp only [pk, List.drop_succ_cons]
  rw [Nat.pow_succ, Nat.mul_comm (B ^ f) B, ← Nat.div_div_eq_div_mul, Nat.add_mul_div_left _ _ hB, Nat.div_eq_of_lt hx, Nat.zero_add, ih]
theorem pk_append (B : Nat) : ∀ (l : List Nat) (x : Nat), pk B (l ++ [x]) = pk B l + x * B ^ l.length
 | [], x => by simp [pk]
 | y :: t, x => by
  have ih := pk_append B t x
  simp only [List.cons_append, pk, List.length_cons]
  rw [ih, Nat.mul_add, Nat.pow_succ]
  have : B * (x * B ^ t.length) = x * (B ^ t.length * B) := by rw [Nat.mul_left_comm, Nat.mul_comm B]
  omega
theorem pk_inj (B : Nat) (hB : 0 < B) (l t : List Nat) (hl : l.length = t.length) (h1 : ∀ x ∈ l, x < B) (h2 : ∀ x ∈ t, x < B) (h : pk B l = pk B t) : l = t := by
 apply List.ext_getElem hl
 intro i a c
 have e1 := pk_get B hB l i h1
 have e2 := pk_get B hB t i h2
 rw [h, e2] at e1
 simpa [nth, a, c] using e1.symm
structure Sofar (b d inn i : Nat) (s : St) (E S M : Nat) : Prop where
 f : Fits inn (d + 1) s.rot s.vis
 rb : ∀ x ∈ s.rot, x ≤ b
 le : s.ends.length = i
 lt : s.trips.length = i
 hE : s.ends.sum = E
 hS : s.trips.sum = S
 hM : pk 2 s.ends = M
 e2 : ∀ x ∈ s.ends, x < 2
 one : ∀ j < i, (nth s.ends j = 1 → d ≤ nth s.trips j ∧ (nth s.trips j - d) % 2 = 0) ∧ (nth s.ends j = 0 → nth s.trips j % 2 = 1)
 per : ∀ j, inn + b ^ d ≤ j → j < i → nth s.ends j = nth s.ends (j - (inn + b ^ d))
 top : inn + b ^ d < i → (s.ends.take (inn + b ^ d)).sum = b ^ d
structure Good (b d inn k n : Nat) (s : St) : Prop where
 so : ∃ E S M, Sofar b d inn n s E S M
 top : inn + b ^ d ≤ n → (s.ends.take (inn + b ^ d)).sum = b ^ d
 last : nth s.vis d = s.ends.sum
 all : s.vis.sum = s.trips.sum + s.ends.sum
 lev : ∀ l < d, ((s.rot.drop (inner b l)).take (b ^ l)).sum % (b + 1) = (k * b ^ l + nth s.vis l) % (b + 1)
 back : n % (inn + b ^ d) = 0 → s.rot = List.replicate inn k
 gap1 : s.ends.sum * (b ^ (d + 1) - 1) ≤ n * ((b - 1) * b ^ d) + (2 * d + 3) * (b ^ (d + 1) - 1)
 gap2 : n * ((b - 1) * b ^ d) ≤ s.ends.sum * (b ^ (d + 1) - 1) + (2 * d + 3) * (b ^ (d + 1) - 1)
theorem imp_of {x y : Bool} (h : imp x y = true) (hx : x = true) : y = true := by subst hx; exact h
theorem lvls_of (b d k inn : Nat) (rot vis : List Nat) (f : Fits inn (d + 1) rot vis) : ∀ m, lvls b k (pk 4 rot) (pk 1048576 vis) m = true → ∀ l < m, ((rot.drop (inner b l)).take (b ^ l)).sum % (b + 1) = (k * b ^ l + nth vis l) % (b + 1)
 | 0, _, l, hl => by omega
 | m + 1, h, l, hl => by
  simp only [lvls, Bool.and_eq_true] at h
  by_cases e : l = m
  ·subst e
   have h1 := Nat.eq_of_beq_eq_true h.1
   rw [getV f, Nat.shiftRight_eq_div_pow, Nat.pow_mul, show (2 : Nat) ^ 2 = 4 from rfl, pk_drop 4 (by decide) _ _ f.br, dsum_eq 4 (by decide) _ _ _ (fun x hx => f.br x (List.mem_of_mem_drop hx)), Nat.zero_add] at h1
   exact h1
  ·exact lvls_of b d k inn rot vis f m h.2 l (by omega)
theorem good_of {b d inn k i : Nat} {s : St} {E S M : Nat} (hk : k ≤ b) (hb : b ≤ 3) (h : Sofar b d inn i s E S M) (ho : stOk b d inn k i (pk 4 s.rot) (pk 1048576 s.vis) E S = true) : Good b d inn k i s := by
 simp only [stOk, fN_eq, Bool.and_eq_true] at ho
 obtain ⟨⟨⟨⟨⟨⟨h1, h2⟩, h3⟩, h4⟩, h5⟩, h6⟩, h7⟩ := ho
 have h1 := Nat.eq_of_beq_eq_true h1
 have h2 := Nat.eq_of_beq_eq_true h2
 rw [getV h.f] at h1
 rw [dsum_eq _ (by decide) _ _ _ h.f.bv, Nat.zero_add, List.take_of_length_le (by rw [h.f.lv]; exact Nat.le_refl _)] at h2
 refine ⟨⟨E, S, M, h⟩, ?_, by rw [h1, h.hE], by rw [h2, h.hS, h.hE], lvls_of b d k inn _ _ h.f d h3, ?_, ?_, ?_⟩
 ·intro hn
  by_cases e : inn + b ^ d = i
  ·have := Nat.eq_of_beq_eq_true (imp_of h5 (by rw [e]; exact Nat.beq_refl i))
   rw [List.take_of_length_le (by rw [h.le, e]; exact Nat.le_refl _), h.hE, this]
  ·exact h.top (by omega)
 ·intro hn
  have := Nat.eq_of_beq_eq_true (imp_of h4 (by rw [hn]; rfl))
  rw [← pk_replicate4] at this
  exact pk_inj 4 (by decide) _ _ (by rw [h.f.lr]; simp) h.f.br (by intro x hx; simp at hx; omega) this
 ·rw [h.hE]; exact Nat.le_of_ble_eq_true h6
 ·rw [h.hE]; exact Nat.le_of_ble_eq_true h7
theorem run_le (b inner : Nat) : ∀ (k a l st : Nat) (rot vis : List Nat) e s R V, (∀ x ∈ rot, x ≤ b) → run b inner k a l st rot vis = some (e, s, R, V) → ∀ x ∈ R, x ≤ b
 | 0, _, _, _, _, _, _, _, _, _, _, h => by simp [run] at h
 | k + 1, a, l, st, rot, vis, e, s, R, V, hr, h => by
  have hm : ∀ x ∈ rot.set a ((nth rot a + 1) % (b + 1)), x ≤ b := fun x hx => by
   have := mem_set (B := b + 1) (fun y hy => by have := hr y hy; omega) (Nat.mod_lt _ (by omega)) x hx
   omega
  unfold run at h
  split at h
  ·split at h
   ·split at h
    ·split at h
     ·exact run_le b inner k _ _ _ _ _ _ _ _ _ hm h
     ·cases h
    ·split at h
     ·split at h
      ·simp only [Option.some.injEq, Prod.mk.injEq] at h
       obtain ⟨_, _, h1, h2⟩ := h
       subst h1 h2
       exact hm
      ·cases h
     ·split at h
      ·exact run_le b inner k _ _ _ _ _ _ _ _ _ hm h
      ·cases h
   ·cases h
  ·simp only [Option.some.injEq, Prod.mk.injEq] at h
   obtain ⟨_, _, h1, h2⟩ := h
   subst h1 h2
   exact hr
theorem nth_app (l : List Nat) (x j : Nat) (h : j < l.length) : nth (l ++ [x]) j = nth l j := by simp [nth, List.getD_eq_getElem?_getD, List.getElem?_append_left h]
theorem nth_end (l : List Nat) (x : Nat) : nth (l ++ [x]) l.length = x := by simp [nth]
theorem sofar_next {b d inn i : Nat} {s : St} {E S M : Nat} {e : Bool} {t : Nat} {rot vis : List Nat} (h : Sofar b d inn i s E S M) (ht : inn + b ^ d ≤ i → (s.ends.take (inn + b ^ d)).sum = b ^ d) (f : Fits inn (d + 1) rot vis) (hr : ∀ x ∈ rot, x ≤ b)
  (hc : chOk d (inn + b ^ d) i e t M = true) : Sofar b d inn (i + 1) ⟨rot, vis, s.ends ++ [endN e], s.trips ++ [t]⟩ (E + endN e) (S + t) (M + endN e <<< i) := by
 simp only [chOk, Bool.and_eq_true] at hc
 have he : endN e < 2 := by cases e <;> decide
 refine ⟨f, hr, by simp [h.le], by simp [h.lt], by simp [h.hE], by simp [h.hS], ?_, ?_, ?_, ?_, ?_⟩
 ·show pk 2 (s.ends ++ [endN e]) = _
  rw [pk_append, h.hM, h.le, Nat.shiftLeft_eq]
 ·intro x hx
  rcases List.mem_append.1 hx with hx | hx
  ·exact h.e2 x hx
  ·simp at hx; omega
 ·intro j hj
  by_cases hji : j = i
  ·subst hji
   have e1 : nth (s.ends ++ [endN e]) j = endN e := by rw [← h.le]; exact nth_end _ _
   have e2 : nth (s.trips ++ [t]) j = t := by rw [← h.lt]; exact nth_end _ _
   show (nth (s.ends ++ [endN e]) j = 1 → d ≤ nth (s.trips ++ [t]) j ∧ _) ∧ _
   rw [e1, e2]
   have hc1 := hc.1
   cases e
   ·exact ⟨fun q => by simp [endN] at q, fun _ => Nat.eq_of_beq_eq_true hc1⟩
   ·simp only [cond_true, Bool.and_eq_true] at hc1
    exact ⟨fun _ => ⟨Nat.le_of_ble_eq_true hc1.1, Nat.eq_of_beq_eq_true hc1.2⟩, fun q => by simp [endN] at q⟩
  ·show (nth (s.ends ++ [endN e]) j = 1 → d ≤ nth (s.trips ++ [t]) j ∧ _) ∧ _
   rw [nth_app _ _ _ (by rw [h.le]; omega), nth_app _ _ _ (by rw [h.lt]; omega)]
   exact h.one j (by omega)
 ·intro j h0 hj
  show nth (s.ends ++ [endN e]) j = nth (s.ends ++ [endN e]) (j - (inn + b ^ d))
  have hp : 0 < inn + b ^ d ∨ inn + b ^ d = 0 := by omega
  rcases hp with hp | hp
  ·rw [nth_app _ _ (j - (inn + b ^ d)) (by rw [h.le]; omega)]
   by_cases hji : j = i
   ·subst hji
    have e1 : nth (s.ends ++ [endN e]) j = endN e := by rw [← h.le]; exact nth_end _ _
    rw [e1]
    have hc2 := hc.2
    have hb : Nat.ble (inn + b ^ d) j = true := Nat.ble_eq_true_of_le h0
    rw [hb, cond_true] at hc2
    have hc2 := Nat.eq_of_beq_eq_true hc2
    rw [← h.hM, Nat.shiftRight_eq_div_pow, pk_get 2 (by decide) _ _ h.e2] at hc2
    exact hc2.symm
   ·rw [nth_app _ _ _ (by rw [h.le]; omega)]
    exact h.per j h0 (by omega)
  ·rw [hp, Nat.sub_zero]
 ·intro hN
  show ((s.ends ++ [endN e]).take (inn + b ^ d)).sum = _
  rw [List.take_append_of_le_length (by rw [h.le]; omega)]
  exact ht (by omega)
theorem scan_ok (b d inn k : Nat) (hk : k ≤ b) (hb : b ≤ 3) : ∀ (m i : Nat) (s : St) (E S M : Nat), Sofar b d inn i s E S M → scanP b d inn k m i (pk 4 s.rot) (pk 1048576 s.vis) E S M = true → ∀ n, n ≤ m → ∀ s', chips b inn n s = some s' → Good b d inn k (i + n) s'
 | 0, i, s, E, S, M, h, ho, n, hn, s', hs => by
  obtain rfl : n = 0 := by omega
  simp only [chips, Option.some.injEq] at hs
  subst hs
  exact good_of hk hb h ho
 | m + 1, i, s, E, S, M, h, ho, n, hn, s', hs => by
  simp only [scanP] at ho
  cases h1 : stOk b d inn k i (pk 4 s.rot) (pk 1048576 s.vis) E S with
  | false => rw [h1] at ho; simp at ho
  | true =>
  rw [h1, cond_true] at ho
  have hg := good_of hk hb h h1
  cases n with
  | zero =>
   simp only [chips, Option.some.injEq] at hs
   subst hs
   exact hg
  | succ n =>
  simp only [chips] at hs
  by_cases hv : 0 < s.vis.length ∧ nth s.vis 0 < 100000
  ·have e := setV h.f 0 (by omega)
   rw [Nat.mul_zero, Nat.shiftLeft_zero] at e
   rw [e] at ho
   have f1 : Fits inn (d + 1) s.rot (s.vis.set 0 (nth s.vis 0 + 1)) := ⟨h.f.lr, h.f.br, by rw [List.length_set]; exact h.f.lv, mem_set h.f.bv (by omega)⟩
   cases hr : runP b inn (d + 1) 5000 0 0 0 (pk 4 s.rot) (pk 1048576 (s.vis.set 0 (nth s.vis 0 + 1))) with
   | none => rw [hr] at ho; simp at ho
   | some q =>
    obtain ⟨e1, s1, R, V⟩ := q
    rw [hr] at ho
    obtain ⟨rot1, vis1, hrun, rfl, rfl, f2⟩ := run_of_P b inn (d + 1) hb 5000 0 0 0 _ _ f1 e1 s1 R V hr
    have hc : chip b inn s.rot s.vis = some (e1, s1, rot1, vis1) := by rw [chip, if_pos hv]; exact hrun
    rw [hc] at hs
    simp only [fN_eq] at ho
    cases h2 : chOk d (inn + b ^ d) i e1 s1 M with
    | false => rw [h2] at ho; simp at ho
    | true =>
    rw [h2, cond_true] at ho
    have hn1 := sofar_next h hg.top f2 (run_le _ _ _ _ _ _ _ _ _ _ _ _ h.rb hrun) h2
    have := scan_ok b d inn k hk hb m (i + 1) _ _ _ _ hn1 ho n (by omega) s' hs
    rw [show i + (n + 1) = i + 1 + n by omega]
    exact this
  ·rw [chip, if_neg hv] at hs
   cases hs
theorem good_is (b d k n : Nat) (h : (b, d) ∈ trees) (hk : k ≤ b) (hn : n ≤ 200) (s : St) (hs : chips b (inner b d) n (start d (inner b d) k) = some s) : Good b d (inner b d) k n s := by
 have h1 := List.all_eq_true.1 all_scan (b, d) h
 have h2 : scanOk b d k = true := List.all_eq_true.1 h1 k (by simp; omega)
 have hb : b ≤ 3 := by
  simp [trees] at h
  omega
 simp only [scanOk, fN_eq] at h2
 have h0 : Sofar b d (inner b d) 0 (start d (inner b d) k) 0 0 0 := by
  refine ⟨⟨by simp [start], ?_, by simp [start], ?_⟩, ?_, rfl, rfl, rfl, rfl, rfl, by simp [start], fun j hj => by omega, fun j _ hj => by omega, fun hj => by omega⟩
  ·intro x hx; simp [start] at hx; omega
  ·intro x hx; simp [start] at hx; omega
  ·intro x hx; simp [start] at hx; omega
 have := scan_ok b d (inner b d) k hk hb 200 0 (start d (inner b d) k) 0 0 0 h0 (by simp only [start]; rw [pk_replicate4, pk_replicate0]; exact h2) n hn s hs
 simpa using this
end Go.Proofs.Ytmechelmnpoddaa.Es
namespace Go.Proofs.Ytmechelmnpoddaa.F9
open Go.RowKit YtmechelmnpoddaaW.PrintWords YtmechelmnpoddaaW.PrintLast YtmechelmnpoddaaW.PrintMore
open A7 E7 F7 H7
attribute [local go_sem] max2_int min2_int max_two min_two max_three min_three max_four min_four
def errW : Option Int → Value
 | none => .nilIface
 | some c => .iface 0 (.int .i64 c)
theorem errW_none : errW none = .nilIface := rfl
theorem errW_some (c : Int) : errW (some c) = .iface 0 (.int .i64 c) := rfl
end Go.Proofs.Ytmechelmnpoddaa.F9
namespace Go.Proofs.Ytmechelmnpoddaa.F9
open Go.RowKit YtmechelmnpoddaaW.PrintWords YtmechelmnpoddaaW.PrintLast YtmechelmnpoddaaW.PrintMore
open A7 E7 F7 H7
attribute [local go_sem] max2_int min2_int max_two min_two max_three min_three max_four min_four
def spec_DrawTripsOf.f (k : Nat) (l0 : List Int) : Option (Int × Int × Int × Int) := (spec_DrawEscapeList.f k l0).bind fun bt184 => (some (bt184.1, bt184.2.1, bt184.2.2.1, bt184.2.2.2))
set_option maxHeartbeats 8000000 in
set_option maxRecDepth 100000 in
theorem spec_DrawTripsOf.calls (k : Nat) (A0 : Option Addr) (c0 : Nat) (l0 : List Int) (r1 : Int) (r2 : Int) (r3 : Int) (r4 : Int) (w : World) (hr0 : Kd.C (Kd.int .u8) w A0 l0.length l0) (hc0 : l0.length ≤ c0) (h : spec_DrawTripsOf.f k l0 = some (r1, r2, r3, r4)) :
  Calls Try.prog 46 #[.slice A0 l0.length c0] w fun e w' => e = .returned (.tuple #[.int .i64 r1, .int .i64 r2, .int .i64 r3, .int .i64 r4]) ∧ Below w.heap.size w w' := by
 have HR0 := Aside0.mk hr0
 have HC0 := Aside0.mk hc0
 clear hr0 hc0
 have HB := Aside0.mk (Below.refl w.heap.size w)
 have H : ((spec_DrawEscapeList.f k l0).bind fun bt184 => (some (bt184.1, bt184.2.1, bt184.2.2.1, bt184.2.2.2))) = some (r1, r2, r3, r4) := h
 clear h
 replace H := Option.bind_eq_some_iff.mp H
 obtain ⟨⟨t184, t185, t186, t187⟩, A20, H⟩ := H
 replace H : (some (t184, t185, t186, t187)) = some (r1, r2, r3, r4) := H
 have A2 := Aside0.mk A20
 clear A20
 simp only [Option.some.injEq, Prod.mk.injEq] at H
 obtain ⟨rfl, rfl, rfl, rfl⟩ := H
 go_enter Try.func46, Try.ntmps46
 go_wp2_with (first | ((with_reducible refine gate_callee (f := 52) rfl ?_); refine goesL_ (some 7) rfl rfl Try.func52 (by kernel_rfl) rfl #[.slice A0 l0.length c0] rfl (by (try simp only [List.map_toArray, List.map_cons, List.map_nil]); first | done | rfl | (simp only [List.length_drop, List.length_take]; rfl)) ?_; (with_reducible refine (spec_DrawEscapeList.calls k _ _ l0 t184 t185 t186 t187 _ ?side1 ?side2 A2.out).mono ?_); (case side1 => repeat (first | exact HR0.out | (with_reducible refine Kd.C_alloc ?_ _) | (with_reducible refine Kd.C_drewN ?_ _) | (with_reducible refine Kd.C_drew ?_))); (case side2 => exact HC0.out); rintro e w3 ⟨rfl, hb⟩; refine ⟨_, rfl, ?_⟩; have n0_ := Aside0.mk (bP_ (by repeat (first | (with_reducible first | exact HB.out | apply bA_ | apply bN_ | apply bD_) | exact HB.out)) hb); clear HB; have HB := n0_; clear n0_; (try clear hb); (try clear hb2); (try clear hk); (try clear hi)))
 refine bodyPost_ret (results_list (rs := [.tmp 2, .tmp 3, .tmp 4, .tmp 5]) rfl (by simp) (.tmp (.tmp (.tmp (.tmp .nil))))) rfl ?_
 exact ⟨by first | rfl | (simp [errW_none, errW_some] <;> rfl) | (simp [*, errW_none, errW_some] <;> rfl), by repeat (first | (with_reducible first | exact HB.out | apply bA_ | apply bN_ | apply bD_) | exact HB.out)⟩
def spec_DrawTurnedEscapes.f (k : Nat) (l0 : List Int) : Option (Int × Int × Int) := (spec_DrawEscapeList.f k l0).bind fun bt192 => (some (bt192.1, bt192.2.1, bt192.2.2.2))
set_option maxHeartbeats 8000000 in
set_option maxRecDepth 100000 in
theorem spec_DrawTurnedEscapes.calls (k : Nat) (A0 : Option Addr) (c0 : Nat) (l0 : List Int) (r1 : Int) (r2 : Int) (r3 : Int) (w : World) (hr0 : Kd.C (Kd.int .u8) w A0 l0.length l0) (hc0 : l0.length ≤ c0) (h : spec_DrawTurnedEscapes.f k l0 = some (r1, r2, r3)) :
  Calls Try.prog 51 #[.slice A0 l0.length c0] w fun e w' => e = .returned (.tuple #[.int .i64 r1, .int .i64 r2, .int .i64 r3]) ∧ Below w.heap.size w w' := by
 have HR0 := Aside0.mk hr0
 have HC0 := Aside0.mk hc0
 clear hr0 hc0
 have HB := Aside0.mk (Below.refl w.heap.size w)
 have H : ((spec_DrawEscapeList.f k l0).bind fun bt192 => (some (bt192.1, bt192.2.1, bt192.2.2.2))) = some (r1, r2, r3) := h
 clear h
 replace H := Option.bind_eq_some_iff.mp H
 obtain ⟨⟨t192, t193, t194, t195⟩, A20, H⟩ := H
 replace H : (some (t192, t193, t195)) = some (r1, r2, r3) := H
 have A2 := Aside0.mk A20
 clear A20
 simp only [Option.some.injEq, Prod.mk.injEq] at H
 obtain ⟨rfl, rfl, rfl⟩ := H
 go_enter Try.func51, Try.ntmps51
 go_wp2_with (first | ((with_reducible refine gate_callee (f := 52) rfl ?_); refine goesL_ (some 11) rfl rfl Try.func52 (by kernel_rfl) rfl #[.slice A0 l0.length c0] rfl (by (try simp only [List.map_toArray, List.map_cons, List.map_nil]); first | done | rfl | (simp only [List.length_drop, List.length_take]; rfl)) ?_; (with_reducible refine (spec_DrawEscapeList.calls k _ _ l0 t192 t193 t194 t195 _ ?side1 ?side2 A2.out).mono ?_); (case side1 => repeat (first | exact HR0.out | (with_reducible refine Kd.C_alloc ?_ _) | (with_reducible refine Kd.C_drewN ?_ _) | (with_reducible refine Kd.C_drew ?_))); (case side2 => exact HC0.out); rintro e w3 ⟨rfl, hb⟩; refine ⟨_, rfl, ?_⟩; have n0_ := Aside0.mk (bP_ (by repeat (first | (with_reducible first | exact HB.out | apply bA_ | apply bN_ | apply bD_) | exact HB.out)) hb); clear HB; have HB := n0_; clear n0_; (try clear hb); (try clear hb2); (try clear hk); (try clear hi)))
 go_ret3
 exact ⟨by first | rfl | (simp [errW_none, errW_some] <;> rfl) | (simp [*, errW_none, errW_some] <;> rfl), by repeat (first | (with_reducible first | exact HB.out | apply bA_ | apply bN_ | apply bD_) | exact HB.out)⟩
end Go.Proofs.Ytmechelmnpoddaa.F9
