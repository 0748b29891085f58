/-
  Texts of the seat, merged (part 4).
-/
import Derived.Test.YtjedhjeijpbobaaX483
set_option linter.unusedVariables false
set_option linter.unusedSimpArgs false
namespace Go.Proofs.Ytjedhjeijpbobaa.GM
open Go.Proofs.Ytjedhjeijpbobaa
open Go.RowKit YtjedhjeijpbobaaW.PrintWords YtjedhjeijpbobaaW.PrintLast YtjedhjeijpbobaaW.PrintMore
open GA GJ GK GL G8 H8
attribute [local go_sem] max2_int min2_int max_two min_two max_three min_three max_four min_four
def cm0 : List (Option Nat) := [none, none, none, none, none, none, none, none, none, none, none, none, none, none, none, none, none, none, none, none, none, none, none, none, none, none, none, none, none, none, none, none, none, none, some 34, some 35, some 36, some 37, some 38, some 39, some 40, some 41, some 42, some 43, some 44, some 45, some 46, some 47, some 48, some 49, some 50, some 51, some 52, some 53, some 54, some 55, some 56, some 57, some 58, some 59, some 60, some 61, some 62, some 63, some 64, some 65, some 66, some 67, some 68, some 69, some 70, some 71, some 72, some 73, some 74, some 75, some 76, some 77, some 78, some 79, some 80, some 81, some 82, some 83, some 84, some 85, some 86, some 87, some 88, some 89, some 90, some 91, some 92, some 93, some 94, some 95, some 96, some 97, some 98, some 99, some 100, some 101, some 102, some 103, some 104, some 105, some 106, some 107, some 108, some 109, some 110, some 111, some 112, some 113, some 114, some 115, some 116, some 117, some 118, some 119, some 120, some 121, some 122, some 123, some 124, some 125, some 126, some 127, some 128, some 129, some 130, some 131, some 132, some 133, some 134, some 135, some 136, some 137, some 138, some 139, some 140, some 141, some 142, some 143, some 144, some 145, some 146, some 147, some 148, some 149, some 150, some 151, some 152, some 153, some 154, some 155, some 156, some 157, some 158, some 159, some 160, some 161, some 162, some 163, some 164, some 165, some 166, some 167, some 168, some 169, some 170, some 171, some 172, some 173, some 174, some 175, some 176, some 177, some 178, some 179, some 180, some 181, some 182, some 183, some 184, some 185, some 186, some 187, some 188, some 189, some 190, some 191, some 192, some 193, some 194, some 195, some 196, some 197, some 198, some 199, some 200, some 201, some 202, some 203, some 204, some 205, some 206, some 207, some 208, some 209, some 210, some 211, some 212, some 213, some 214, some 215, some 216, some 217, some 218, some 219, some 220, some 221, some 222, some 223, some 224, some 225, some 226, some 227, some 228, some 229, some 230, some 231, some 232, none, none, none, some 236, some 237, some 238, some 239, some 240, some 241, some 242, some 243, some 244, some 245, some 246, some 247, some 248, some 249, some 250, some 251, some 252, some 253, some 254, some 255, some 256, some 257, some 258, some 259, some 260, some 261, some 262, some 263, some 264, some 265, some 266, some 267, some 268, some 269, some 270, some 271, some 272, some 273, some 274, some 275, some 276, some 277, some 278, some 279, some 280, some 281, some 282, some 283, some 284, some 285, some 286, some 287, some 288, some 289, some 290, some 291, some 292, some 293, some 294, some 295, some 296, some 297, some 298, some 299, some 300, some 301, some 302, some 303, some 304, some 305, some 306, some 307, some 308, some 309, some 310, some 311, some 312, some 313, some 314, some 315, some 316, some 317, some 318, some 319]
theorem cm0_ok : Fc.sound cm0 0 = true := by kernel_rfl
def cm1 : List (Option Nat) := [none, none, none, none, some 4, none, none, none, none, none, none, none, none, none, none, some 15, some 16, some 17, some 18, some 19, none, none, none, none, none, none, none, none, none, none, none, none, none, none, some 34, some 35, some 36, some 37, some 38, some 39, some 40, some 41, some 42, some 43, some 44, some 45, some 46, some 47, some 48, some 49, some 50, some 51, some 52, some 53, some 54, some 55, some 56, some 57, some 58, some 59, some 60, some 61, some 62, some 63, some 64, some 65, some 66, some 67, some 68, some 69, some 70, some 71, some 72, some 73, some 74, some 75, some 76, some 77, some 78, some 79, some 80, some 81, some 82, some 83, some 84, some 85, some 86, some 87, some 88, some 89, some 90, some 91, some 92, some 93, some 94, some 95, some 96, some 97, some 98, some 99, some 100, some 101, some 102, some 103, some 104, some 105, some 106, some 107, some 108, some 109, some 110, some 111, some 112, some 113, some 114, some 115, some 116, some 117, some 118, some 119, some 120, some 121, some 122, some 123, some 124, some 125, some 126, some 127, some 128, some 129, some 130, some 131, some 132, some 133, some 134, some 135, some 136, some 137, some 138, some 139, some 140, some 141, some 142, some 143, some 144, some 145, some 146, some 147, some 148, some 149, some 150, some 151, some 152, some 153, some 154, some 155, some 156, some 157, some 158, some 159, some 160, some 161, some 162, some 163, some 164, some 165, some 166, some 167, some 168, some 169, some 170, some 171, some 172, some 173, some 174, some 175, some 176, some 177, some 178, some 179, some 180, some 181, some 182, some 183, some 184, some 185, some 186, some 187, some 188, some 189, some 190, some 191, some 192, some 193, some 194, some 195, some 196, some 197, some 198, some 199, some 200, some 201, some 202, some 203, some 204, some 205, some 206, some 207, some 208, some 209, some 210, some 211, some 212, some 213, some 214, some 215, some 216, some 217, some 218, some 219, some 220, some 221, some 222, some 223, some 224, some 225, some 226, some 227, some 228, some 229, some 230, some 231, some 232, none, none, none, some 236, some 237, some 238, some 239, some 240, some 241, some 242, some 243, some 244, some 245, some 246, some 247, some 248, some 249, some 250, some 251, some 252, some 253, some 254, some 255, some 256, some 257, some 258, some 259, some 260, some 261, some 262, some 263, some 264, some 265, some 266, some 267, some 268, some 269, some 270, some 271, some 272, some 273, some 274, some 275, some 276, some 277, some 278, some 279, some 280, some 281, some 282, some 283, some 284, some 285, some 286, some 287, some 288, some 289, some 290, some 291, some 292, some 293, some 294, some 295, some 296, some 297, some 298, some 299, some 300, some 301, some 302, some 303, some 304, some 305, some 306, some 307, some 308, some 309, some 310, some 311, some 312, some 313, some 314, some 315, some 316, some 317, some 318, some 319]
theorem cm1_ok : Fc.sound cm1 0 = true := by kernel_rfl
def cm2 : List (Option Nat) := [none, none, none, none, some 4, none, none, none, none, none, none, none, none, none, none, none, none, none, none, none, none, none, none, none, none, none, none, none, none, some 29, some 30, none, some 32, some 33, none, none, none, none, none, none, none, none, none, none, none, none, none, none, none, none, none, none, none, none, none, none, none, none, none, none, none, none, none, none, none, none, none, none, none, none, none, none, none, none, none, none, none, none, none, none, none, none, none, none, none, none, none, none, none, none, none, none, none, none, none, none, none, none, none, none, none, none, none, none, none, none, none, none, none, none, none, none, none, none, none, none, none, none, none, none, none, none, none, none, none, none, none, none, none, none, none, none, none, none, none, none, none, none, none, none, none, none, none, none, none, none, none, none, none, none, none, none, none, none, none, none, none, none, none, none, none, none, none, none, none, none, none, none, none, none, none, none, none, none, none, none, none, none, none, none, none, none, none, none, none, none, none, none, none, none, none, none, none, none, none, none, none, none, none, none, none, none, none, none, none, none, none, none, none, none, none, none, none, none, none, none, none, none, none, none, none, none, none, none, none, none, none, none, none, none, none, none, none, none, none, some 235, some 236, some 237, some 238, some 239, some 240, some 241, some 242, some 243, some 244, some 245, some 246, some 247, some 248, some 249, some 250, some 251, some 252, some 253, some 254, some 255, some 256, some 257, some 258, some 259, some 260, some 261, some 262, some 263, some 264, some 265, some 266, some 267, some 268, some 269, some 270, some 271, some 272, some 273, some 274, some 275, some 276, some 277, some 278, some 279, some 280, some 281, some 282, some 283, some 284, some 285, some 286, some 287, some 288, some 289, some 290, some 291, some 292, some 293, some 294, some 295, some 296, some 297, some 298, some 299, some 300, some 301, some 302, some 303, some 304, some 305, some 306, some 307]
theorem cm2_ok : Fc.sound cm2 0 = true := by kernel_rfl
set_option maxHeartbeats 8000000 in
set_option maxRecDepth 100000 in
theorem laws_FnLinesAndHeaps.calls (k : Nat) (A0 : Option Addr) (c0 : Nat) (l0 : List Int) (A1 : Option Addr) (c1 : Nat) (l1 : List Int) (r : Bool) (w : World) (hr0 : Kd.C (Kd.int .u8) w A0 l0.length l0) (hc0 : l0.length ≤ c0) (hr1 : Kd.C (Kd.int .u8) w A1 l1.length l1) (hc1 : l1.length ≤ c1) (h : laws_FnLinesAndHeaps.f k l0 l1 = some r) :
  Calls Try.prog 17 #[.slice A0 l0.length c0, .slice A1 l1.length c1] w fun e w' => e = .returned (.bool r) ∧ Below w.heap.size w w' := by
 have HR0 := Aside0.mk hr0
 have HC0 := Aside0.mk hc0
 clear hr0 hc0
 have HR1 := Aside0.mk hr1
 have HC1 := Aside0.mk hc1
 clear hr1 hc1
 have HB := Aside0.mk (Below.refl w.heap.size w)
 have H : ((laws_big.f l0 l1).bind fun t195 => (if t195 = true then (some true) else ((spec_DrawLineEnds.f l0).bind fun bt196 => ((impl_LineEnds.f bt196.1 bt196.2).bind fun bt198 => ((spec_LineEnds.f k bt196.1 bt196.2).bind fun bt202 => ((impl_LineSteps.f bt196.1 bt196.2).bind fun bt206 => ((spec_LineSteps.f k bt196.1 bt196.2).bind fun bt208 => (if (bt198.2 != bt202.2) = true then (laws_FnLinesAndHeaps.j0 k l1 bt196.1 bt196.2 bt198.1 bt198.2 bt206.1 true) else ((laws_xSame.f k bt198.1 bt202.1).bind fun t210 => (if t210 = true then (if (bt206.2 != bt208.2) = true then (laws_FnLinesAndHeaps.j0 k l1 bt196.1 bt196.2 bt198.1 bt198.2 bt206.1 true) else (if bt206.1 = bt208.1 then (if bt206.2 = true then (laws_FnLinesAndHeaps.j0 k l1 bt196.1 bt196.2 bt198.1 bt198.2 bt206.1 (bt198.2 != (decide (bt196.1 > 0)))) else (laws_FnLinesAndHeaps.j0 k l1 bt196.1 bt196.2 bt198.1 bt198.2 bt206.1 (bt198.2 != false))) else (laws_FnLinesAndHeaps.j0 k l1 bt196.1 bt196.2 bt198.1 bt198.2 bt206.1 true))) else (laws_FnLinesAndHeaps.j0 k l1 bt196.1 bt196.2 bt198.1 bt198.2 bt206.1 true))))))))))) = some r := h
 clear h
 replace H := Option.bind_eq_some_iff.mp H
 obtain ⟨t195, A30, H⟩ := H
 (try dsimp only at H)
 have A3 := Aside0.mk A30
 clear A30
 by_cases c4 : t195 = true
 ·subst c4
  have H1 : (some true) = some r := by rw [if_pos rfl] at H; exact H
  clear H
  have H := H1
  clear H1
  obtain rfl := Option.some.inj H
  go_enter Try.func17, Try.ntmps17
  go_wp2_with (first | ((with_reducible refine gate_callee (f := 37) rfl ?_); refine goesL_ (some 36) rfl rfl Try.func37 (by kernel_rfl) rfl #[.slice A0 l0.length c0, .slice A1 l1.length c1] rfl (by (try simp only [List.map_toArray, List.map_cons, List.map_nil]); first | done | rfl | (simp only [List.length_drop, List.length_take]; rfl)) ?_; (with_reducible refine (laws_big.calls _ _ l0 _ _ l1 true _ ?side1 ?side2 ?side3 ?side4 A3.out).mono ?_); (case side1 => repeat (first | exact HR0.out | (with_reducible refine Kd.C_alloc ?_ _) | (with_reducible refine Kd.C_drewN ?_ _) | (with_reducible refine Kd.C_drew ?_))); (case side2 => exact HC0.out); (case side3 => repeat (first | exact HR1.out | (with_reducible refine Kd.C_alloc ?_ _) | (with_reducible refine Kd.C_drewN ?_ _) | (with_reducible refine Kd.C_drew ?_))); (case side4 => exact HC1.out); rintro e w' ⟨rfl, ⟨nd, rfl⟩⟩; refine ⟨_, rfl, ?_⟩))
  go_ret
  exact ⟨by first | rfl | (simp [errW_none, errW_some] <;> rfl) | (simp [*, errW_none, errW_some] <;> rfl), by repeat (first | (with_reducible first | exact HB.out | apply bA_ | apply bN_ | apply bD_) | exact HB.out)⟩
 ·replace c4 := Bool.eq_false_iff.mpr c4
  subst c4
  have H1 : ((spec_DrawLineEnds.f l0).bind fun bt196 => ((impl_LineEnds.f bt196.1 bt196.2).bind fun bt198 => ((spec_LineEnds.f k bt196.1 bt196.2).bind fun bt202 => ((impl_LineSteps.f bt196.1 bt196.2).bind fun bt206 => ((spec_LineSteps.f k bt196.1 bt196.2).bind fun bt208 => (if (bt198.2 != bt202.2) = true then (laws_FnLinesAndHeaps.j0 k l1 bt196.1 bt196.2 bt198.1 bt198.2 bt206.1 true) else ((laws_xSame.f k bt198.1 bt202.1).bind fun t210 => (if t210 = true then (if (bt206.2 != bt208.2) = true then (laws_FnLinesAndHeaps.j0 k l1 bt196.1 bt196.2 bt198.1 bt198.2 bt206.1 true) else (if bt206.1 = bt208.1 then (if bt206.2 = true then (laws_FnLinesAndHeaps.j0 k l1 bt196.1 bt196.2 bt198.1 bt198.2 bt206.1 (bt198.2 != (decide (bt196.1 > 0)))) else (laws_FnLinesAndHeaps.j0 k l1 bt196.1 bt196.2 bt198.1 bt198.2 bt206.1 (bt198.2 != false))) else (laws_FnLinesAndHeaps.j0 k l1 bt196.1 bt196.2 bt198.1 bt198.2 bt206.1 true))) else (laws_FnLinesAndHeaps.j0 k l1 bt196.1 bt196.2 bt198.1 bt198.2 bt206.1 true))))))))) = some r := by rw [if_neg (show ¬ (false = true) by decide)] at H; exact H
  clear H
  have H := H1
  clear H1
  replace H := Option.bind_eq_some_iff.mp H
  obtain ⟨⟨t196, t197⟩, A50, H⟩ := H
  (try dsimp only at H)
  have A5 := Aside0.mk A50
  clear A50
  replace H := Option.bind_eq_some_iff.mp H
  obtain ⟨⟨t198, t199⟩, A60, H⟩ := H
  (try dsimp only at H)
  have A6 := Aside0.mk A60
  clear A60
  replace H := Option.bind_eq_some_iff.mp H
  obtain ⟨⟨t202, t203⟩, A70, H⟩ := H
  (try dsimp only at H)
  have A7 := Aside0.mk A70
  clear A70
  replace H := Option.bind_eq_some_iff.mp H
  obtain ⟨⟨t206, t207⟩, A80, H⟩ := H
  (try dsimp only at H)
  have A8 := Aside0.mk A80
  clear A80
  replace H := Option.bind_eq_some_iff.mp H
  obtain ⟨⟨t208, t209⟩, A90, H⟩ := H
  (try dsimp only at H)
  have A9 := Aside0.mk A90
  clear A90
  have HC10 := Aside0.mk H
  clear H
  go_enter Try.func17, Try.ntmps17
  go_upto_region 8 with (first | ((with_reducible refine gate_callee (f := 37) rfl ?_); refine goesL_ (some 36) rfl rfl Try.func37 (by kernel_rfl) rfl #[.slice A0 l0.length c0, .slice A1 l1.length c1] rfl (by (try simp only [List.map_toArray, List.map_cons, List.map_nil]); first | done | rfl | (simp only [List.length_drop, List.length_take]; rfl)) ?_; (with_reducible refine (laws_big.calls _ _ l0 _ _ l1 false _ ?side1 ?side2 ?side3 ?side4 A3.out).mono ?_); (case side1 => repeat (first | exact HR0.out | (with_reducible refine Kd.C_alloc ?_ _) | (with_reducible refine Kd.C_drewN ?_ _) | (with_reducible refine Kd.C_drew ?_))); (case side2 => exact HC0.out); (case side3 => repeat (first | exact HR1.out | (with_reducible refine Kd.C_alloc ?_ _) | (with_reducible refine Kd.C_drewN ?_ _) | (with_reducible refine Kd.C_drew ?_))); (case side4 => exact HC1.out); rintro e w' ⟨rfl, ⟨nd, rfl⟩⟩; refine ⟨_, rfl, ?_⟩) | ((with_reducible refine gate_callee (f := 63) rfl ?_); refine goesL_ (some 39) rfl rfl Try.func63 (by kernel_rfl) rfl #[.slice A0 l0.length c0] rfl (by (try simp only [List.map_toArray, List.map_cons, List.map_nil]); first | done | rfl | (simp only [List.length_drop, List.length_take]; rfl)) ?_; (with_reducible refine (spec_DrawLineEnds.calls _ _ l0 t196 t197 _ ?side1 ?side2 A5.out).mono ?_); (case side1 => repeat (first | exact HR0.out | (with_reducible refine Kd.C_alloc ?_ _) | (with_reducible refine Kd.C_drewN ?_ _) | (with_reducible refine Kd.C_drew ?_))); (case side2 => exact HC0.out); rintro e w11 ⟨rfl, hb⟩; refine ⟨_, rfl, ?_⟩; have n0_ := Aside0.mk (bP_ (by repeat (first | (with_reducible first | exact HB.out | apply bA_ | apply bN_ | apply bD_) | exact HB.out)) hb); clear HB; have HB := n0_; clear n0_; (try clear hb); (try clear hb2); (try clear hk); (try clear hi)) | ((with_reducible refine gate_callee (f := 52) rfl ?_); refine goesL_ (some 45) rfl rfl Try.func52 (by kernel_rfl) rfl #[.int .i64 t196, .int .i64 t197] rfl (by (try simp only [List.map_toArray, List.map_cons, List.map_nil]); first | done | rfl | (simp only [List.length_drop, List.length_take]; rfl)) ?_; (with_reducible refine (impl_LineEnds.calls t196 t197 t198 t199 _ A6.out).mono ?_); rintro e w12 ⟨v200, rfl, ho0, hb⟩; refine ⟨_, rfl, ?_⟩; have n0_ := Aside0.mk (Kd.R_lower ho0 (bZ_ (by repeat (first | (with_reducible first | exact HB.out | apply bA_ | apply bN_ | apply bD_) | exact HB.out)))); have n1_ := Aside0.mk (bP_ (by repeat (first | (with_reducible first | exact HB.out | apply bA_ | apply bN_ | apply bD_) | exact HB.out)) hb); clear HB; have HO201 := n0_; have HB := n1_; clear n0_ n1_; (try clear hb); (try clear hb2); (try clear hk); (try clear hi); (try clear ho0)) | ((with_reducible refine gate_callee (f := 51) rfl ?_); refine goesL_ (some 51) rfl rfl Try.func51 (by kernel_rfl) rfl #[.int .i64 t196, .int .i64 t197] rfl (by (try simp only [List.map_toArray, List.map_cons, List.map_nil]); first | done | rfl | (simp only [List.length_drop, List.length_take]; rfl)) ?_; (with_reducible refine (spec_LineEnds.calls k t196 t197 t202 t203 _ A7.out).mono ?_); rintro e w13 ⟨v204, rfl, ho0, hb⟩; refine ⟨_, rfl, ?_⟩; have n0_ := Aside0.mk (Kd.R_elder' (by (with_reducible repeat (first | apply Kd.R_alloc | apply Kd.R_drewN | apply Kd.R_drew)); exact HO201.out) (Kd.R_base ho0) hb); have n1_ := Aside0.mk (Kd.R_lower (Kd.R_new' ho0 (Kd.R_lt (by (with_reducible repeat (first | apply Kd.R_alloc | apply Kd.R_drewN | apply Kd.R_drew)); exact HO201.out))) (bZ_ (by repeat (first | (with_reducible first | exact HB.out | apply bA_ | apply bN_ | apply bD_) | exact HB.out)))); have n2_ := Aside0.mk (bP_ (by repeat (first | (with_reducible first | exact HB.out | apply bA_ | apply bN_ | apply bD_) | exact HB.out)) hb); clear HO201; clear HB; have HO201 := n0_; have HO205 := n1_; have HB := n2_; clear n0_ n1_ n2_; (try clear hb); (try clear hb2); (try clear hk); (try clear hi); (try clear ho0)) | ((with_reducible refine gate_callee (f := 21) rfl ?_); refine goesL_ (some 57) rfl rfl Try.func21 (by kernel_rfl) rfl #[.int .i64 t196, .int .i64 t197] rfl (by (try simp only [List.map_toArray, List.map_cons, List.map_nil]); first | done | rfl | (simp only [List.length_drop, List.length_take]; rfl)) ?_; (with_reducible refine (impl_LineSteps.calls t196 t197 t206 t207 _ A8.out).mono ?_); rintro e w14 ⟨rfl, hb⟩; refine ⟨_, rfl, ?_⟩; have n0_ := Aside0.mk (Kd.R_below (by (with_reducible repeat (first | apply Kd.R_alloc | apply Kd.R_drewN | apply Kd.R_drew)); exact HO201.out) hb); have n1_ := Aside0.mk (Kd.R_below (by (with_reducible repeat (first | apply Kd.R_alloc | apply Kd.R_drewN | apply Kd.R_drew)); exact HO205.out) hb); have n2_ := Aside0.mk (bP_ (by repeat (first | (with_reducible first | exact HB.out | apply bA_ | apply bN_ | apply bD_) | exact HB.out)) hb); clear HO201; clear HO205; clear HB; have HO201 := n0_; have HO205 := n1_; have HB := n2_; clear n0_ n1_ n2_; (try clear hb); (try clear hb2); (try clear hk); (try clear hi)) | ((with_reducible refine gate_callee (f := 20) rfl ?_); refine goesL_ (some 63) rfl rfl Try.func20 (by kernel_rfl) rfl #[.int .i64 t196, .int .i64 t197] rfl (by (try simp only [List.map_toArray, List.map_cons, List.map_nil]); first | done | rfl | (simp only [List.length_drop, List.length_take]; rfl)) ?_; (with_reducible refine (spec_LineSteps.calls k t196 t197 t208 t209 _ A9.out).mono ?_); rintro e w15 ⟨rfl, hb⟩; refine ⟨_, rfl, ?_⟩; have n0_ := Aside0.mk (Kd.R_below (by (with_reducible repeat (first | apply Kd.R_alloc | apply Kd.R_drewN | apply Kd.R_drew)); exact HO201.out) hb); have n1_ := Aside0.mk (Kd.R_below (by (with_reducible repeat (first | apply Kd.R_alloc | apply Kd.R_drewN | apply Kd.R_drew)); exact HO205.out) hb); have n2_ := Aside0.mk (bP_ (by repeat (first | (with_reducible first | exact HB.out | apply bA_ | apply bN_ | apply bD_) | exact HB.out)) hb); clear HO201; clear HO205; clear HB; have HO201 := n0_; have HO205 := n1_; have HB := n2_; clear n0_ n1_ n2_; (try clear hb); (try clear hb2); (try clear hk); (try clear hi)))
  (try simp only [Act.put, List.setIfInBounds_toArray, List.set_cons_zero, List.set_cons_succ])
  apply Fc.cut cm0 cm0_ok (fun u_ wc => ∃ (kq : Nat) (x93_9 : Bool), (u_ 93) = .bool x93_9 ∧ Aside0 (laws_FnLinesAndHeaps.j0 kq l1 t196 t197 t198 t199 t206 x93_9 = some r) ∧ Aside0 (kq ≤ k) ∧ Aside0 (Kd.R (Kd.int .i64) 3 wc w.heap.size (fun _ => True) v200 t198) ∧ Aside0 (Below w.heap.size w wc))
  case first =>
   intro _ _ _ _
   have H := HC10.out
   clear HC10
   by_cases c16 : (t199 != t203) = true
   ·rw [if_pos c16] at H
    have c16b0 : (t199 != t203) = true := c16
    (try (have c16b1 : decide (t199 = t203) = false := by simpa using c16))
    (try (have c16b2 : (t199 == t203) = false := by simpa using c16))
    (try (have c16b3 : ¬ (t199 = t203) := by simpa using c16))
    clear c16
    (first | rw [c16b0] | (simp only [i64_w, i32_w]; rw [c16b0]) | skip)
    have H' := Aside0.mk H
    clear H
    go_wp2
    refine Fc.meet (by assumption) ?same ?rel
    case same => kernel_rfl
    case rel => exact ⟨_, (true), (by first | rfl | (simp [Fc.nth]; done) | (simp [Fc.nth, *]; done)), H', ⟨by first | omega | exact Nat.le_refl _⟩, ⟨by (with_reducible repeat (first | apply Kd.R_alloc | apply Kd.R_drewN | apply Kd.R_drew)); exact Kd.R_mono HO201.out (fun _ hk => trivial)⟩, ⟨by repeat (first | (with_reducible first | exact HB.out | apply bA_ | apply bN_ | apply bD_) | exact HB.out)⟩⟩
   ·rw [if_neg c16] at H
    have c16b0 : (t199 != t203) = false := by simpa using c16
    (try (have c16b1 : decide (t199 = t203) = true := by simpa using c16))
    (try (have c16b2 : (t199 == t203) = true := by simpa using c16))
    clear c16
    (first | rw [c16b0] | (simp only [i64_w, i32_w]; rw [c16b0]) | skip)
    replace H := Option.bind_eq_some_iff.mp H
    obtain ⟨t210, A170, H⟩ := H
    (try dsimp only at H)
    have A17 := Aside0.mk A170
    clear A170
    by_cases c18 : t210 = true
    ·subst c18
     have H1 : (if (t207 != t209) = true then (laws_FnLinesAndHeaps.j0 k l1 t196 t197 t198 t199 t206 true) else (if t206 = t208 then (if t207 = true then (laws_FnLinesAndHeaps.j0 k l1 t196 t197 t198 t199 t206 (t199 != (decide (t196 > 0)))) else (laws_FnLinesAndHeaps.j0 k l1 t196 t197 t198 t199 t206 (t199 != false))) else (laws_FnLinesAndHeaps.j0 k l1 t196 t197 t198 t199 t206 true))) = some r := by rw [if_pos rfl] at H; exact H
     clear H
     have H := H1
     clear H1
     by_cases c19 : (t207 != t209) = true
     ·rw [if_pos c19] at H
      have c19b0 : (t207 != t209) = true := c19
      (try (have c19b1 : decide (t207 = t209) = false := by simpa using c19))
      (try (have c19b2 : (t207 == t209) = false := by simpa using c19))
      (try (have c19b3 : ¬ (t207 = t209) := by simpa using c19))
      clear c19
      have H' := Aside0.mk H
      clear H
      obtain ⟨Ao20, co20, eo20⟩ := Kd.R_slice HO201.out
      subst eo20
      obtain ⟨Ao21, co21, eo21⟩ := Kd.R_slice HO205.out
      subst eo21
      go_wp2_with (first | (go_at_call 44; (with_reducible refine (laws_xSame.calls k _ _ t198 _ _ t202 true _ ?side1 ?side2 ?side3 ?side4 A17.out).mono ?_); (case side1 => repeat (first | exact (Kd.R_reads' HO201.out).2.2 | (with_reducible refine Kd.C_alloc ?_ _) | (with_reducible refine Kd.C_drewN ?_ _) | (with_reducible refine Kd.C_drew ?_))); (case side2 => exact (Kd.R_reads' HO201.out).2.1); (case side3 => repeat (first | exact (Kd.R_reads' HO205.out).2.2 | (with_reducible refine Kd.C_alloc ?_ _) | (with_reducible refine Kd.C_drewN ?_ _) | (with_reducible refine Kd.C_drew ?_))); (case side4 => exact (Kd.R_reads' HO205.out).2.1); rintro e w' ⟨rfl, ⟨nd, rfl⟩⟩))
      refine Fc.meet (by assumption) ?same ?rel
      case same => kernel_rfl
      case rel => exact ⟨_, (true), (by first | rfl | (simp [Fc.nth]; done) | (simp [Fc.nth, *]; done)), H', ⟨by first | omega | exact Nat.le_refl _⟩, ⟨by (with_reducible repeat (first | apply Kd.R_alloc | apply Kd.R_drewN | apply Kd.R_drew)); exact Kd.R_mono HO201.out (fun _ hk => trivial)⟩, ⟨by repeat (first | (with_reducible first | exact HB.out | apply bA_ | apply bN_ | apply bD_) | exact HB.out)⟩⟩
     ·rw [if_neg c19] at H
      have c19b0 : (t207 != t209) = false := by simpa using c19
      (try (have c19b1 : decide (t207 = t209) = true := by simpa using c19))
      (try (have c19b2 : (t207 == t209) = true := by simpa using c19))
      clear c19
      by_cases c22 : t206 = t208
      ·rw [if_pos c22] at H
       have c22b0 : (t206 == t208) = true := beq_iff_eq.mpr c22
       have c22b1 : (t206 != t208) = false := bne_eq_false_iff_eq.mpr c22
       clear c22
       by_cases c23 : t207 = true
       ·subst c23
        have H1 : (laws_FnLinesAndHeaps.j0 k l1 t196 t197 t198 t199 t206 (t199 != (decide (t196 > 0)))) = some r := by rw [if_pos rfl] at H; exact H
        clear H
        have H := H1
        clear H1
        have H' := Aside0.mk H
        clear H
        obtain ⟨Ao24, co24, eo24⟩ := Kd.R_slice HO201.out
        subst eo24
        obtain ⟨Ao25, co25, eo25⟩ := Kd.R_slice HO205.out
        subst eo25
        go_wp2_with (first | (go_at_call 44; (with_reducible refine (laws_xSame.calls k _ _ t198 _ _ t202 true _ ?side1 ?side2 ?side3 ?side4 A17.out).mono ?_); (case side1 => repeat (first | exact (Kd.R_reads' HO201.out).2.2 | (with_reducible refine Kd.C_alloc ?_ _) | (with_reducible refine Kd.C_drewN ?_ _) | (with_reducible refine Kd.C_drew ?_))); (case side2 => exact (Kd.R_reads' HO201.out).2.1); (case side3 => repeat (first | exact (Kd.R_reads' HO205.out).2.2 | (with_reducible refine Kd.C_alloc ?_ _) | (with_reducible refine Kd.C_drewN ?_ _) | (with_reducible refine Kd.C_drew ?_))); (case side4 => exact (Kd.R_reads' HO205.out).2.1); rintro e w' ⟨rfl, ⟨nd, rfl⟩⟩))
        refine Fc.meet (by assumption) ?same ?rel
        case same => kernel_rfl
        case rel => exact ⟨_, ((t199 != (decide (t196 > 0)))), (by first | rfl | (simp [Fc.nth]; done) | (simp [Fc.nth, *]; done)), H', ⟨by first | omega | exact Nat.le_refl _⟩, ⟨by (with_reducible repeat (first | apply Kd.R_alloc | apply Kd.R_drewN | apply Kd.R_drew)); exact Kd.R_mono HO201.out (fun _ hk => trivial)⟩, ⟨by repeat (first | (with_reducible first | exact HB.out | apply bA_ | apply bN_ | apply bD_) | exact HB.out)⟩⟩
       ·replace c23 := Bool.eq_false_iff.mpr c23
        subst c23
        have H1 : (laws_FnLinesAndHeaps.j0 k l1 t196 t197 t198 t199 t206 (t199 != false)) = some r := by rw [if_neg (show ¬ (false = true) by decide)] at H; exact H
        clear H
        have H := H1
        clear H1
        have H' := Aside0.mk H
        clear H
        obtain ⟨Ao26, co26, eo26⟩ := Kd.R_slice HO201.out
        subst eo26
        obtain ⟨Ao27, co27, eo27⟩ := Kd.R_slice HO205.out
        subst eo27
        go_wp2_with (first | (go_at_call 44; (with_reducible refine (laws_xSame.calls k _ _ t198 _ _ t202 true _ ?side1 ?side2 ?side3 ?side4 A17.out).mono ?_); (case side1 => repeat (first | exact (Kd.R_reads' HO201.out).2.2 | (with_reducible refine Kd.C_alloc ?_ _) | (with_reducible refine Kd.C_drewN ?_ _) | (with_reducible refine Kd.C_drew ?_))); (case side2 => exact (Kd.R_reads' HO201.out).2.1); (case side3 => repeat (first | exact (Kd.R_reads' HO205.out).2.2 | (with_reducible refine Kd.C_alloc ?_ _) | (with_reducible refine Kd.C_drewN ?_ _) | (with_reducible refine Kd.C_drew ?_))); (case side4 => exact (Kd.R_reads' HO205.out).2.1); rintro e w' ⟨rfl, ⟨nd, rfl⟩⟩))
        refine Fc.meet (by assumption) ?same ?rel
        case same => kernel_rfl
        case rel => exact ⟨_, ((t199 != false)), (by first | rfl | (simp [Fc.nth]; done) | (simp [Fc.nth, *]; done)), H', ⟨by first | omega | exact Nat.le_refl _⟩, ⟨by (with_reducible repeat (first | apply Kd.R_alloc | apply Kd.R_drewN | apply Kd.R_drew)); exact Kd.R_mono HO201.out (fun _ hk => trivial)⟩, ⟨by repeat (first | (with_reducible first | exact HB.out | apply bA_ | apply bN_ | apply bD_) | exact HB.out)⟩⟩
      ·rw [if_neg c22] at H
       have c22b0 : (t206 == t208) = false := beq_eq_false_iff_ne.mpr c22
       have c22b1 : (t206 != t208) = true := bne_iff_ne.mpr c22
       have H' := Aside0.mk H
       clear H
       obtain ⟨Ao28, co28, eo28⟩ := Kd.R_slice HO201.out
       subst eo28
       obtain ⟨Ao29, co29, eo29⟩ := Kd.R_slice HO205.out
       subst eo29
       go_wp2_with (first | (go_at_call 44; (with_reducible refine (laws_xSame.calls k _ _ t198 _ _ t202 true _ ?side1 ?side2 ?side3 ?side4 A17.out).mono ?_); (case side1 => repeat (first | exact (Kd.R_reads' HO201.out).2.2 | (with_reducible refine Kd.C_alloc ?_ _) | (with_reducible refine Kd.C_drewN ?_ _) | (with_reducible refine Kd.C_drew ?_))); (case side2 => exact (Kd.R_reads' HO201.out).2.1); (case side3 => repeat (first | exact (Kd.R_reads' HO205.out).2.2 | (with_reducible refine Kd.C_alloc ?_ _) | (with_reducible refine Kd.C_drewN ?_ _) | (with_reducible refine Kd.C_drew ?_))); (case side4 => exact (Kd.R_reads' HO205.out).2.1); rintro e w' ⟨rfl, ⟨nd, rfl⟩⟩))
       refine Fc.meet (by assumption) ?same ?rel
       case same => kernel_rfl
       case rel => exact ⟨_, (true), (by first | rfl | (simp [Fc.nth]; done) | (simp [Fc.nth, *]; done)), H', ⟨by first | omega | exact Nat.le_refl _⟩, ⟨by (with_reducible repeat (first | apply Kd.R_alloc | apply Kd.R_drewN | apply Kd.R_drew)); exact Kd.R_mono HO201.out (fun _ hk => trivial)⟩, ⟨by repeat (first | (with_reducible first | exact HB.out | apply bA_ | apply bN_ | apply bD_) | exact HB.out)⟩⟩
    ·replace c18 := Bool.eq_false_iff.mpr c18
     subst c18
     have H1 : (laws_FnLinesAndHeaps.j0 k l1 t196 t197 t198 t199 t206 true) = some r := by rw [if_neg (show ¬ (false = true) by decide)] at H; exact H
     clear H
     have H := H1
     clear H1
     have H' := Aside0.mk H
     clear H
     obtain ⟨Ao30, co30, eo30⟩ := Kd.R_slice HO201.out
     subst eo30
     obtain ⟨Ao31, co31, eo31⟩ := Kd.R_slice HO205.out
     subst eo31
     go_wp2_with (first | (go_at_call 44; (with_reducible refine (laws_xSame.calls k _ _ t198 _ _ t202 false _ ?side1 ?side2 ?side3 ?side4 A17.out).mono ?_); (case side1 => repeat (first | exact (Kd.R_reads' HO201.out).2.2 | (with_reducible refine Kd.C_alloc ?_ _) | (with_reducible refine Kd.C_drewN ?_ _) | (with_reducible refine Kd.C_drew ?_))); (case side2 => exact (Kd.R_reads' HO201.out).2.1); (case side3 => repeat (first | exact (Kd.R_reads' HO205.out).2.2 | (with_reducible refine Kd.C_alloc ?_ _) | (with_reducible refine Kd.C_drewN ?_ _) | (with_reducible refine Kd.C_drew ?_))); (case side4 => exact (Kd.R_reads' HO205.out).2.1); rintro e w' ⟨rfl, ⟨nd, rfl⟩⟩))
     refine Fc.meet (by assumption) ?same ?rel
     case same => kernel_rfl
     case rel => exact ⟨_, (true), (by first | rfl | (simp [Fc.nth]; done) | (simp [Fc.nth, *]; done)), H', ⟨by first | omega | exact Nat.le_refl _⟩, ⟨by (with_reducible repeat (first | apply Kd.R_alloc | apply Kd.R_drewN | apply Kd.R_drew)); exact Kd.R_mono HO201.out (fun _ hk => trivial)⟩, ⟨by repeat (first | (with_reducible first | exact HB.out | apply bA_ | apply bN_ | apply bD_) | exact HB.out)⟩⟩
  case rest =>
   intro u0_ wc hcut
   (try dsimp only at hcut)
   dsimp only [cm0, Fc.blend]
   generalize u0_ 93 = v93 at hcut ⊢
   clear HC10
   try clear c1
   try clear c2
   try clear p2
   try clear c3
   try clear c4
   try clear c5
   try clear c6
   try clear c16
   try clear c16b0
   try clear c16b1
   try clear c16b2
   try clear c17
   try clear c18
   try clear c19
   try clear c19b0
   try clear c19b1
   try clear c19b2
   try clear c20
   try clear c21
   try clear c22
   try clear c22b0
   try clear c22b1
   try clear c23
   obtain ⟨kq, x93_9, rfl, HA, HJ9, HO_7, HB⟩ := hcut
   cases kq with
   | zero => exact absurd HA.out (by simp [laws_FnLinesAndHeaps.j0])
   | succ kj9 =>
    have H := HA.out
    clear HA
    simp only [laws_FnLinesAndHeaps.j0] at H
    by_cases c32 : x93_9 = true
    ·subst c32
     have H1 : (some false) = some r := by rw [if_pos rfl] at H; exact H
     clear H
     have H := H1
     clear H1
     obtain rfl := Option.some.inj H
     go_wp2
     go_ret
     exact ⟨by first | rfl | (simp [errW_none, errW_some] <;> rfl) | (simp [*, errW_none, errW_some] <;> rfl), by repeat (first | (with_reducible first | exact HB.out | apply bA_ | apply bN_ | apply bD_) | exact HB.out)⟩
    ·replace c32 := Bool.eq_false_iff.mpr c32
     subst c32
     have H1 : (if t199 = true then (if (t198.length : Int) = 2 then (if 1 < (t198.length : Int) then (if 0 < (t198.length : Int) then (if (wrap64 ((rd t198 1) - (rd t198 0))) = (wrap64 (t196 - 1)) then (if (rd t198 0) > 0 then (laws_FnLinesAndHeaps.j1 kj9 l1 t196 t197 t198 t206 true) else (laws_FnLinesAndHeaps.j1 kj9 l1 t196 t197 t198 t206 (decide ((rd t198 1) < 0)))) else (laws_FnLinesAndHeaps.j1 kj9 l1 t196 t197 t198 t206 true)) else (none)) else (none)) else (laws_FnLinesAndHeaps.j1 kj9 l1 t196 t197 t198 t206 true)) else (laws_FnLinesAndHeaps.j2 kj9 l1)) = some r := by rw [if_neg (show ¬ (false = true) by decide)] at H; exact H
     clear H
     have H := H1
     clear H1
     have HC33 := Aside0.mk H
     clear H
     go_upto_if 94 with (fail)
     apply Fc.cut cm1 cm1_ok (fun u_ wc => ∃ (kq : Nat), Aside0 (laws_FnLinesAndHeaps.j2 kq l1 = some r) ∧ Aside0 (kq ≤ kj9) ∧ Aside0 (Below w.heap.size w wc))
     case first =>
      intro _ _ _ _
      have H := HC33.out
      clear HC33
      by_cases c34 : t199 = true
      ·subst c34
       have H1 : (if (t198.length : Int) = 2 then (if 1 < (t198.length : Int) then (if 0 < (t198.length : Int) then (if (wrap64 ((rd t198 1) - (rd t198 0))) = (wrap64 (t196 - 1)) then (if (rd t198 0) > 0 then (laws_FnLinesAndHeaps.j1 kj9 l1 t196 t197 t198 t206 true) else (laws_FnLinesAndHeaps.j1 kj9 l1 t196 t197 t198 t206 (decide ((rd t198 1) < 0)))) else (laws_FnLinesAndHeaps.j1 kj9 l1 t196 t197 t198 t206 true)) else (none)) else (none)) else (laws_FnLinesAndHeaps.j1 kj9 l1 t196 t197 t198 t206 true)) = some r := by rw [if_pos rfl] at H; exact H
       clear H
       have H := H1
       clear H1
       have HC35 := Aside0.mk H
       clear H
       go_upto_region 11 with (fail)
       apply Fc.cut cm0 cm0_ok (fun u_ wc => ∃ (kq : Nat) (x121_34 : Bool), (u_ 121) = .bool x121_34 ∧ Aside0 (laws_FnLinesAndHeaps.j1 kq l1 t196 t197 t198 t206 x121_34 = some r) ∧ Aside0 (kq ≤ kj9) ∧ Aside0 (Kd.R (Kd.int .i64) 3 wc w.heap.size (fun _ => True) v200 t198) ∧ Aside0 (Below w.heap.size w wc))
       case first =>
        intro _ _ _ _
        have H := HC35.out
        clear HC35
        by_cases c36 : (t198.length : Int) = 2
        ·rw [if_pos c36] at H
         have c36b0 : ((t198.length : Int) == 2) = true := beq_iff_eq.mpr c36
         have c36b1 : ((t198.length : Int) != 2) = false := bne_eq_false_iff_eq.mpr c36
         clear c36
         (first | rw [c36b0] | (simp only [i64_w, i32_w]; rw [c36b0]) | skip)
         by_cases c37 : 1 < (t198.length : Int)
         ·rw [if_pos c37] at H
          have c37b0 : decide (1 < (t198.length : Int)) = true := decide_eq_true c37
          have c37b1 : decide (1 < t198.length) = true := decide_eq_true (by omega)
          clear c37
          by_cases c38 : 0 < (t198.length : Int)
          ·rw [if_pos c38] at H
           have c38b0 : decide (0 < (t198.length : Int)) = true := decide_eq_true c38
           have c38b1 : decide (0 < t198.length) = true := decide_eq_true (by omega)
           clear c38
           by_cases c39 : (wrap64 ((rd t198 1) - (rd t198 0))) = (wrap64 (t196 - 1))
           ·rw [if_pos c39] at H
            have c39b0 : ((wrap64 ((rd t198 1) - (rd t198 0))) == (wrap64 (t196 - 1))) = true := beq_iff_eq.mpr c39
            have c39b1 : ((wrap64 ((rd t198 1) - (rd t198 0))) != (wrap64 (t196 - 1))) = false := bne_eq_false_iff_eq.mpr c39
            clear c39
            by_cases c40 : (rd t198 0) > 0
            ·exact absurd c40 (H8.e_low A6.out)
            ·rw [if_neg c40] at H
             have c40b0 : decide (0 < (rd t198 0)) = false := decide_eq_false c40
             clear c40
             have H' := Aside0.mk H
             clear H
             try go_wp2
             have n0_ := Aside0.mk (Kd.R_drew HO_7.out)
             have n1_ := Aside0.mk (bD_ HB.out)
             clear HO_7
             clear HB
             have HO_7 := n0_
             have HB := n1_
             clear n0_ n1_
             obtain ⟨Ao44, co44, eo44⟩ := Kd.R_slice HO_7.out
             (first | subst eo44 | (injection eo44 with f1_ f2_ f3_; have f4_ := f1_.symm; have f5_ := f3_.symm; clear f1_ f2_ f3_; subst f4_; subst f5_))
             have p211 : 0 ≤ (1 : Int) := (by omega)
             have q211 : 1 < (t198.length : Int) := of_decide_eq_true (by first | (with_reducible assumption) | assumption)
             obtain ⟨ad211, e211, hx211_0⟩ := Kd.at_int (Kd.R_reads' HO_7.out).2.2 1 p211 q211
             cases e211
             (try simp only [show (1 : Int).toNat = 1 from rfl, Nat.reduceMul, Nat.reduceEqDiff, Go.Addr.add, ↓reduceIte] at hx211_0)
             have qi211 : (1 < t198.length) = True := eq_true (by omega)
             (try rw [show ((1 : Int)).toNat = 1 from rfl] at hx211_0)
             replace p211 := eq_true p211
             replace q211 := eq_true q211
             have p212 : 0 ≤ (0 : Int) := (by omega)
             have q212 : 0 < (t198.length : Int) := of_decide_eq_true (by first | (with_reducible assumption) | assumption)
             obtain ⟨ad212, e212, hx212_0⟩ := Kd.at_int (Kd.R_reads' HO_7.out).2.2 0 p212 q212
             obtain rfl : ad211 = ad212 := (by injection e212)
             have qi212 : (0 < t198.length) = True := eq_true (by omega)
             (try rw [show ((0 : Int)).toNat = 0 from rfl] at hx212_0)
             (try rw [Addr.add_zero'] at hx212_0)
             replace p212 := eq_true p212
             replace q212 := eq_true q212
             have p213 : 0 ≤ (0 : Int) := (by omega)
             have q213 : 0 < (t198.length : Int) := of_decide_eq_true (by first | (with_reducible assumption) | assumption)
             obtain ⟨ad213, e213, hx213_0⟩ := Kd.at_int (Kd.R_reads' HO_7.out).2.2 0 p213 q213
             obtain rfl : ad211 = ad213 := (by injection e213)
             have qi213 : (0 < t198.length) = True := eq_true (by omega)
             (try rw [show ((0 : Int)).toNat = 0 from rfl] at hx213_0)
             (try rw [Addr.add_zero'] at hx213_0)
             replace p213 := eq_true p213
             replace q213 := eq_true q213
             have p214 : 0 ≤ (1 : Int) := (by omega)
             have q214 : 1 < (t198.length : Int) := of_decide_eq_true (by first | (with_reducible assumption) | assumption)
             obtain ⟨ad214, e214, hx214_0⟩ := Kd.at_int (Kd.R_reads' HO_7.out).2.2 1 p214 q214
             obtain rfl : ad211 = ad214 := (by injection e214)
             (try simp only [show (1 : Int).toNat = 1 from rfl, Nat.reduceMul, Nat.reduceEqDiff, Go.Addr.add, ↓reduceIte] at hx214_0)
             have qi214 : (1 < t198.length) = True := eq_true (by omega)
             (try rw [show ((1 : Int)).toNat = 1 from rfl] at hx214_0)
             replace p214 := eq_true p214
             replace q214 := eq_true q214
             refine start_ (n := 27) (S := fun w' => w'.cell? ⟨ad211.block, ad211.off + 1, none⟩ = some (.int .i64 (rd t198 1)) ∧ w'.cell? ad211 = some (.int .i64 (rd t198 0)) ∧ w'.cell? ad211 = some (.int .i64 (rd t198 0)) ∧ w'.cell? ⟨ad211.block, ad211.off + 1, none⟩ = some (.int .i64 (rd t198 1))) (ds := []) #[false, false, false, false, false, false, false, false, false, false, false, false, false, false, false, false, false, false, false, false, false, false, false, false, false, false, false] (by kernel_rfl) rfl rfl ⟨hx211_0, hx212_0, hx213_0, hx214_0⟩ (fun hHeld => ?_); refine with_tabW laws_FnLinesAndHeaps.tab11 laws_FnLinesAndHeaps.bits11 (fun HT_ HW_ => ?_)
             generalize wc.drew = w43 at HO_7 HB hx211_0 hx212_0 hx213_0 hx214_0 hHeld ⊢
             refine pu_ (i := 0) (N := some 95) (v := ?_) (a' := ?_) HT_.out rfl rfl (Or.inl ⟨by rfl, ?_⟩) ?_ ?_
             rotate_left
             ·intro w'
              go_simp
              with_reducible rfl
             rotate_left
             ·simp only [sp_]
              rfl
             refine pu_ (i := 1) (N := some 96) (v := ?_) (a' := ?_) HT_.out rfl rfl (Or.inl ⟨by rfl, ?_⟩) ?_ ?_
             rotate_left
             ·intro w'
              go_simp
              with_reducible rfl
             rotate_left
             ·simp only [sp_]
              rfl
             refine pu_ (i := 2) (N := some 97) (v := ?_) (a' := ?_) HT_.out rfl rfl (Or.inl ⟨by rfl, ?_⟩) ?_ ?_
             rotate_left
             ·intro w'
              go_simp
              with_reducible rfl
             rotate_left
             ·simp only [sp_]
              rfl
             refine pu_ (i := 3) (N := some 98) (v := ?_) (a' := ?_) HT_.out rfl rfl (Or.inl ⟨by rfl, ?_⟩) ?_ ?_
             rotate_left
             ·intro w'
              go_simp
              with_reducible rfl
             rotate_left
             ·simp only [sp_]
              rfl
             refine pu_ (i := 4) (N := some 99) (v := ?_) (a' := ?_) HT_.out rfl rfl (Or.inl ⟨by rfl, ?_⟩) ?_ ?_
             rotate_left
             ·intro w'
              go_simp
              with_reducible rfl
             rotate_left
             ·simp only [sp_]
              rfl
             refine pu_ (i := 5) (N := some 100) (v := ?_) (a' := ?_) HT_.out rfl rfl (Or.inl ⟨by rfl, ?_⟩) ?_ ?_
             rotate_left
             ·intro w'
              go_simp
              with_reducible rfl
             rotate_left
             ·simp only [sp_]
              rfl
             refine pu_ (i := 7) (N := some 102) (v := ?_) (a' := ?_) HT_.out rfl rfl (Or.inl ⟨by rfl, ?_⟩) ?_ ?_
             rotate_left
             ·intro w'
              go_simp
              with_reducible rfl
             rotate_left
             ·simp only [sp_]
              rfl
             refine pu_ (i := 8) (N := some 103) (v := ?_) (a' := ?_) HT_.out rfl rfl (Or.inl ⟨by rfl, ?_⟩) ?_ ?_
             rotate_left
             ·intro w'
              go_simp
              with_reducible rfl
             rotate_left
             ·simp only [sp_]
              rfl
             refine pu_ (i := 11) (N := some 106) (v := ?_) (a' := ?_) HT_.out rfl rfl (Or.inl ⟨by rfl, ?_⟩) ?_ ?_
             rotate_left
             ·intro w'
              go_simp
              with_reducible rfl
             rotate_left
             ·simp only [sp_]
              rfl
             refine pu_ (i := 12) (N := some 107) (v := ?_) (a' := ?_) HT_.out rfl rfl (Or.inl ⟨by rfl, ?_⟩) ?_ ?_
             rotate_left
             ·intro w'
              go_simp
              with_reducible rfl
             rotate_left
             ·simp only [sp_]
              rfl
             refine tk_ (i := 6) (N := some 101) (v := ?_) (a' := ?_) HT_.out HW_.out rfl rfl (Or.inl ⟨by rfl, ?_⟩) hHeld ?_ ?_
             rotate_left
             ·rintro w' ⟨s0, s1, s2, s3⟩
              go_simp
              with_reducible rfl
             rotate_left
             ·simp only [sp_]
              rfl
             refine tk_ (i := 9) (N := some 104) (v := ?_) (a' := ?_) HT_.out HW_.out rfl rfl (Or.inl ⟨by rfl, ?_⟩) hHeld ?_ ?_
             rotate_left
             ·rintro w' ⟨s0, s1, s2, s3⟩
              go_simp
              with_reducible rfl
             rotate_left
             ·simp only [sp_]
              rfl
             refine pu_ (i := 10) (N := some 105) (v := ?_) (a' := ?_) HT_.out rfl rfl (Or.inl ⟨by rfl, ?_⟩) ?_ ?_
             rotate_left
             ·intro w'
              go_simp
              with_reducible rfl
             rotate_left
             ·simp only [sp_]
              rfl
             refine pu_ (i := 13) (N := some 108) (v := ?_) (a' := ?_) HT_.out rfl rfl (Or.inl ⟨by rfl, ?_⟩) ?_ ?_
             rotate_left
             ·intro w'
              go_simp
              with_reducible rfl
             rotate_left
             ·simp only [sp_]
              rfl
             refine pu_ (i := 14) (N := some 109) (v := ?_) (a' := ?_) HT_.out rfl rfl (Or.inl ⟨by rfl, ?_⟩) ?_ ?_
             rotate_left
             ·intro w'
              go_simp
              with_reducible rfl
             rotate_left
             ·simp only [sp_]
              rfl
             refine pu_ (i := 15) (N := some 110) (v := ?_) (a' := ?_) HT_.out rfl rfl (Or.inl ⟨by rfl, ?_⟩) ?_ ?_
             rotate_left
             ·intro w'
              go_simp
              with_reducible rfl
             rotate_left
             ·simp only [sp_]
              rfl
             refine pu_ (i := 16) (N := some 111) (v := ?_) (a' := ?_) HT_.out rfl rfl (Or.inl ⟨by rfl, ?_⟩) ?_ ?_
             rotate_left
             ·intro w'
              go_simp
              with_reducible rfl
             rotate_left
             ·simp only [sp_]
              rfl
             refine pu_ (i := 17) (N := some 112) (v := ?_) (a' := ?_) HT_.out rfl rfl (Or.inl ⟨by rfl, ?_⟩) ?_ ?_
             rotate_left
             ·intro w'
              go_simp
              with_reducible rfl
             rotate_left
             ·simp only [sp_]
              rfl
             refine tk_ (i := 18) (N := some 113) (v := ?_) (a' := ?_) HT_.out HW_.out rfl rfl (Or.inl ⟨by rfl, ?_⟩) hHeld ?_ ?_
             rotate_left
             ·rintro w' ⟨s0, s1, s2, s3⟩
              go_simp
              with_reducible rfl
             rotate_left
             ·simp only [sp_]
              rfl
             refine pu_ (i := 19) (N := some 114) (v := ?_) (a' := ?_) HT_.out rfl rfl (Or.inl ⟨by rfl, ?_⟩) ?_ ?_
             rotate_left
             ·intro w'
              go_simp
              with_reducible rfl
             rotate_left
             ·simp only [sp_]
              rfl
             refine pu_ (i := 20) (N := some 115) (v := ?_) (a' := ?_) HT_.out rfl rfl (Or.inl ⟨by rfl, ?_⟩) ?_ ?_
             rotate_left
             ·intro w'
              go_simp
              with_reducible rfl
             rotate_left
             ·simp only [sp_]
              rfl
             refine pu_ (i := 21) (N := some 116) (v := ?_) (a' := ?_) HT_.out rfl rfl (Or.inl ⟨by rfl, ?_⟩) ?_ ?_
             rotate_left
             ·intro w'
              go_simp
              with_reducible rfl
             rotate_left
             ·simp only [sp_]
              rfl
             refine pu_ (i := 22) (N := some 117) (v := ?_) (a' := ?_) HT_.out rfl rfl (Or.inl ⟨by rfl, ?_⟩) ?_ ?_
             rotate_left
             ·intro w'
              go_simp
              with_reducible rfl
             rotate_left
             ·simp only [sp_]
              rfl
             refine pu_ (i := 23) (N := some 118) (v := ?_) (a' := ?_) HT_.out rfl rfl (Or.inl ⟨by rfl, ?_⟩) ?_ ?_
             rotate_left
             ·intro w'
              go_simp
              with_reducible rfl
             rotate_left
             ·simp only [sp_]
              rfl
             refine tk_ (i := 24) (N := some 119) (v := ?_) (a' := ?_) HT_.out HW_.out rfl rfl (Or.inl ⟨by rfl, ?_⟩) hHeld ?_ ?_
             rotate_left
             ·rintro w' ⟨s0, s1, s2, s3⟩
              go_simp
              with_reducible rfl
             rotate_left
             ·simp only [sp_]
              rfl
             refine pu_ (i := 25) (N := some 120) (v := ?_) (a' := ?_) HT_.out rfl rfl (Or.inl ⟨by rfl, ?_⟩) ?_ ?_
             rotate_left
             ·intro w'
              go_simp
              with_reducible rfl
             rotate_left
             ·simp only [sp_]
              rfl
             refine pu_ (i := 26) (N := some 121) (v := ?_) (a' := ?_) HT_.out rfl rfl (Or.inl ⟨by rfl, ?_⟩) ?_ ?_
             rotate_left
             ·intro w'
              go_simp
              with_reducible rfl
             rotate_left
             ·simp only [sp_]
              rfl
             refine done_ (done_of HT_.out (by kernel_rfl)) ?_
             try go_wp2
             refine Fc.meet (by assumption) ?same ?rel
             case same => kernel_rfl
             case rel => exact ⟨_, (decide ((rd t198 1) < 0)), (by first | rfl | (simp [Fc.nth]; done) | (simp [Fc.nth, *]; done)), H', ⟨by have := HJ9.out; first | omega | exact Nat.le_refl _⟩, ⟨by (with_reducible repeat (first | apply Kd.R_alloc | apply Kd.R_drewN | apply Kd.R_drew)); exact HO_7.out⟩, ⟨by repeat (first | (with_reducible first | exact HB.out | apply bA_ | apply bN_ | apply bD_) | exact HB.out)⟩⟩
           ·exact absurd (H8.e_far A6.out) c39
          ·rw [if_neg c38] at H
           exact absurd H (by simp)
         ·rw [if_neg c37] at H
          exact absurd H (by simp)
        ·exact absurd (H8.e_len A6.out) c36
       case rest =>
        intro u2_ wc hcut
        (try dsimp only at hcut)
        dsimp only [cm0, Fc.blend]
        generalize u2_ 121 = v121 at hcut ⊢
        clear HC35
        try clear p2
        try clear q2
        try clear hx2
        try clear qi2
        try clear c3
        try clear p6
        try clear p21
        try clear q21
        try clear hx21
        try clear qi21
        try clear c36
        try clear c36b0
        try clear c36b1
        try clear c37
        try clear c38
        try clear c39
        try clear c39b0
        try clear c39b1
        try clear hx211_0
        try clear hx212_0
        try clear p211
        try clear p212
        try clear q211
        try clear q212
        obtain ⟨kq, x121_34, rfl, HA, HJ34, HO_7, HB⟩ := hcut
        cases kq with
        | zero => exact absurd HA.out (by simp [laws_FnLinesAndHeaps.j1])
        | succ kj34 =>
         have H := HA.out
         clear HA
         simp only [laws_FnLinesAndHeaps.j1] at H
         by_cases c49 : x121_34 = true
         ·subst c49
          have H1 : (some false) = some r := by rw [if_pos rfl] at H; exact H
          clear H
          have H := H1
          clear H1
          obtain rfl := Option.some.inj H
          go_wp2
          go_ret
          exact ⟨by first | rfl | (simp [errW_none, errW_some] <;> rfl) | (simp [*, errW_none, errW_some] <;> rfl), by repeat (first | (with_reducible first | exact HB.out | apply bA_ | apply bN_ | apply bD_) | exact HB.out)⟩
         ·replace c49 := Bool.eq_false_iff.mpr c49
          subst c49
          have H1 : ((impl_LineEnds.f t196 (wrap64 (1 - t197))).bind fun bt215 => ((impl_LineSteps.f t196 (wrap64 (1 - t197))).bind fun bt219 => (if 0 < (t198.length : Int) then (if 1 < (t198.length : Int) then (if bt215.2 = true then (if 0 < (bt215.1.length : Int) then (if (rd bt215.1 0) = (wrap64 (-(rd t198 1))) then (if 1 < (bt215.1.length : Int) then (if (rd bt215.1 1) = (wrap64 (-(rd t198 0))) then (if bt219.2 = true then (if bt219.1 = t206 then (if (wrap64 ((rd t198 0) + (rd t198 1))) > 1 then (some false) else (if (wrap64 ((rd t198 0) + (rd t198 1))) < (-1) then (some false) else (laws_FnLinesAndHeaps.j2 kj34 l1))) else (some false)) else (some false)) else (some false)) else (none)) else (some false)) else (none)) else (some false)) else (none)) else (none)))) = some r := by rw [if_neg (show ¬ (false = true) by decide)] at H; exact H
          clear H
          have H := H1
          clear H1
          replace H := Option.bind_eq_some_iff.mp H
          obtain ⟨⟨t215, t216⟩, A500, H⟩ := H
          (try dsimp only at H)
          have A50 := Aside0.mk A500
          clear A500
          replace H := Option.bind_eq_some_iff.mp H
          obtain ⟨⟨t219, t220⟩, A510, H⟩ := H
          (try dsimp only at H)
          have A51 := Aside0.mk A510
          clear A510
          by_cases c52 : 0 < (t198.length : Int)
          ·rw [if_pos c52] at H
           have c52b0 : decide (0 < (t198.length : Int)) = true := decide_eq_true c52
           have c52b1 : decide (0 < t198.length) = true := decide_eq_true (by omega)
           clear c52
           by_cases c53 : 1 < (t198.length : Int)
           ·rw [if_pos c53] at H
            have c53b0 : decide (1 < (t198.length : Int)) = true := decide_eq_true c53
            have c53b1 : decide (1 < t198.length) = true := decide_eq_true (by omega)
            clear c53
            by_cases c54 : t216 = true
            ·subst c54
             have H1 : (if 0 < (t215.length : Int) then (if (rd t215 0) = (wrap64 (-(rd t198 1))) then (if 1 < (t215.length : Int) then (if (rd t215 1) = (wrap64 (-(rd t198 0))) then (if t220 = true then (if t219 = t206 then (if (wrap64 ((rd t198 0) + (rd t198 1))) > 1 then (some false) else (if (wrap64 ((rd t198 0) + (rd t198 1))) < (-1) then (some false) else (laws_FnLinesAndHeaps.j2 kj34 l1))) else (some false)) else (some false)) else (some false)) else (none)) else (some false)) else (none)) = some r := by rw [if_pos rfl] at H; exact H
             clear H
             have H := H1
             clear H1
             by_cases c55 : 0 < (t215.length : Int)
             ·rw [if_pos c55] at H
              have c55b0 : decide (0 < (t215.length : Int)) = true := decide_eq_true c55
              have c55b1 : decide (0 < t215.length) = true := decide_eq_true (by omega)
              clear c55
              by_cases c56 : (rd t215 0) = (wrap64 (-(rd t198 1)))
              ·rw [if_pos c56] at H
               have c56b0 : ((rd t215 0) == (wrap64 (-(rd t198 1)))) = true := beq_iff_eq.mpr c56
               have c56b1 : ((rd t215 0) != (wrap64 (-(rd t198 1)))) = false := bne_eq_false_iff_eq.mpr c56
               clear c56
               by_cases c57 : 1 < (t215.length : Int)
               ·rw [if_pos c57] at H
                have c57b0 : decide (1 < (t215.length : Int)) = true := decide_eq_true c57
                have c57b1 : decide (1 < t215.length) = true := decide_eq_true (by omega)
                clear c57
                by_cases c58 : (rd t215 1) = (wrap64 (-(rd t198 0)))
                ·rw [if_pos c58] at H
                 have c58b0 : ((rd t215 1) == (wrap64 (-(rd t198 0)))) = true := beq_iff_eq.mpr c58
                 have c58b1 : ((rd t215 1) != (wrap64 (-(rd t198 0)))) = false := bne_eq_false_iff_eq.mpr c58
                 clear c58
                 by_cases c59 : t220 = true
                 ·subst c59
                  have H1 : (if t219 = t206 then (if (wrap64 ((rd t198 0) + (rd t198 1))) > 1 then (some false) else (if (wrap64 ((rd t198 0) + (rd t198 1))) < (-1) then (some false) else (laws_FnLinesAndHeaps.j2 kj34 l1))) else (some false)) = some r := by rw [if_pos rfl] at H; exact H
                  clear H
                  have H := H1
                  clear H1
                  by_cases c60 : t219 = t206
                  ·rw [if_pos c60] at H
                   have c60b0 : (t219 == t206) = true := beq_iff_eq.mpr c60
                   have c60b1 : (t219 != t206) = false := bne_eq_false_iff_eq.mpr c60
                   clear c60
                   by_cases c61 : (wrap64 ((rd t198 0) + (rd t198 1))) > 1
                   ·exact absurd c61 ((H8.m_mid A6.out).1)
                   ·rw [if_neg c61] at H
                    have c61b0 : decide (1 < (wrap64 ((rd t198 0) + (rd t198 1)))) = false := decide_eq_false c61
                    clear c61
                    by_cases c68 : (wrap64 ((rd t198 0) + (rd t198 1))) < (-1)
                    ·exact absurd c68 ((H8.m_mid A6.out).2)
                    ·rw [if_neg c68] at H
                     have c68b0 : decide ((wrap64 ((rd t198 0) + (rd t198 1))) < (-1)) = false := decide_eq_false c68
                     clear c68
                     have H' := Aside0.mk H
                     clear H
                     try go_wp2_with (first | ((with_reducible refine gate_callee (f := 52) rfl ?_); refine goesL_ (some 126) rfl rfl Try.func52 (by kernel_rfl) rfl #[.int .i64 t196, .int .i64 (wrap64 (1 - t197))] rfl (by (try simp only [List.map_toArray, List.map_cons, List.map_nil]); first | done | rfl | (simp only [List.length_drop, List.length_take]; rfl)) ?_; (with_reducible refine (impl_LineEnds.calls t196 (wrap64 (1 - t197)) t215 true _ A50.out).mono ?_); rintro e w75 ⟨v217, rfl, ho0, hb⟩; refine ⟨_, rfl, ?_⟩; have n0_ := Aside0.mk (Kd.R_elder' (by (with_reducible repeat (first | apply Kd.R_alloc | apply Kd.R_drewN | apply Kd.R_drew)); exact HO_7.out) (Kd.R_base ho0) hb); have n1_ := Aside0.mk (Kd.R_lower (Kd.R_new' ho0 (Kd.R_lt (by (with_reducible repeat (first | apply Kd.R_alloc | apply Kd.R_drewN | apply Kd.R_drew)); exact HO_7.out))) (bZ_ (by repeat (first | (with_reducible first | exact HB.out | apply bA_ | apply bN_ | apply bD_) | exact HB.out)))); have n2_ := Aside0.mk (bP_ (by repeat (first | (with_reducible first | exact HB.out | apply bA_ | apply bN_ | apply bD_) | exact HB.out)) hb); clear HO_7; clear HB; have HO_7 := n0_; have HO218 := n1_; have HB := n2_; clear n0_ n1_ n2_; (try clear hb); (try clear hb2); (try clear hk); (try clear hi); (try clear ho0)) | ((with_reducible refine gate_callee (f := 21) rfl ?_); refine goesL_ (some 133) rfl rfl Try.func21 (by kernel_rfl) rfl #[.int .i64 t196, .int .i64 (wrap64 (1 - t197))] rfl (by (try simp only [List.map_toArray, List.map_cons, List.map_nil]); first | done | rfl | (simp only [List.length_drop, List.length_take]; rfl)) ?_; (with_reducible refine (impl_LineSteps.calls t196 (wrap64 (1 - t197)) t219 true _ A51.out).mono ?_); rintro e w76 ⟨rfl, hb⟩; refine ⟨_, rfl, ?_⟩; have n0_ := Aside0.mk (Kd.R_below (by (with_reducible repeat (first | apply Kd.R_alloc | apply Kd.R_drewN | apply Kd.R_drew)); exact HO_7.out) hb); have n1_ := Aside0.mk (Kd.R_below (by (with_reducible repeat (first | apply Kd.R_alloc | apply Kd.R_drewN | apply Kd.R_drew)); exact HO218.out) hb); have n2_ := Aside0.mk (bP_ (by repeat (first | (with_reducible first | exact HB.out | apply bA_ | apply bN_ | apply bD_) | exact HB.out)) hb); clear HO_7; clear HO218; clear HB; have HO_7 := n0_; have HO218 := n1_; have HB := n2_; clear n0_ n1_ n2_; (try clear hb); (try clear hb2); (try clear hk); (try clear hi)))
                     have n0_ := Aside0.mk (Kd.R_drew HO_7.out)
                     have n1_ := Aside0.mk (Kd.R_drew HO218.out)
                     have n2_ := Aside0.mk (bD_ HB.out)
                     clear HO_7
                     clear HO218
                     clear HB
                     have HO_7 := n0_
                     have HO218 := n1_
                     have HB := n2_
                     clear n0_ n1_ n2_
                     obtain ⟨Ao78, co78, eo78⟩ := Kd.R_slice HO_7.out
                     (first | subst eo78 | (injection eo78 with f1_ f2_ f3_; have f4_ := f1_.symm; have f5_ := f3_.symm; clear f1_ f2_ f3_; subst f4_; subst f5_))
                     have p221 : 0 ≤ (0 : Int) := (by omega)
                     have q221 : 0 < (t198.length : Int) := of_decide_eq_true (by first | (with_reducible assumption) | assumption)
                     obtain ⟨ad221, e221, hx221_0⟩ := Kd.at_int (Kd.R_reads' HO_7.out).2.2 0 p221 q221
                     cases e221
                     have qi221 : (0 < t198.length) = True := eq_true (by omega)
                     (try rw [show ((0 : Int)).toNat = 0 from rfl] at hx221_0)
                     (try rw [Addr.add_zero'] at hx221_0)
                     replace p221 := eq_true p221
                     replace q221 := eq_true q221
                     have p222 : 0 ≤ (1 : Int) := (by omega)
                     have q222 : 1 < (t198.length : Int) := of_decide_eq_true (by first | (with_reducible assumption) | assumption)
                     obtain ⟨ad222, e222, hx222_0⟩ := Kd.at_int (Kd.R_reads' HO_7.out).2.2 1 p222 q222
                     obtain rfl : ad221 = ad222 := (by injection e222)
                     (try simp only [show (1 : Int).toNat = 1 from rfl, Nat.reduceMul, Nat.reduceEqDiff, Go.Addr.add, ↓reduceIte] at hx222_0)
                     have qi222 : (1 < t198.length) = True := eq_true (by omega)
                     (try rw [show ((1 : Int)).toNat = 1 from rfl] at hx222_0)
                     replace p222 := eq_true p222
                     replace q222 := eq_true q222
                     refine start_ (n := 8) (S := fun w' => w'.cell? ad221 = some (.int .i64 (rd t198 0)) ∧ w'.cell? ⟨ad221.block, ad221.off + 1, none⟩ = some (.int .i64 (rd t198 1))) (ds := []) #[false, false, false, false, false, false, false, false] (by kernel_rfl) rfl rfl ⟨hx221_0, hx222_0⟩ (fun hHeld => ?_); refine with_tabW laws_FnLinesAndHeaps.tab15 laws_FnLinesAndHeaps.bits15 (fun HT_ HW_ => ?_)
                     generalize w76.drew = w77 at HO_7 HO218 HB hx221_0 hx222_0 hHeld ⊢
                     refine pu_ (i := 0) (N := some 136) (v := ?_) (a' := ?_) HT_.out rfl rfl (Or.inl ⟨by rfl, ?_⟩) ?_ ?_
                     rotate_left
                     ·intro w'
                      go_simp
                      with_reducible rfl
                     rotate_left
                     ·simp only [sp_]
                      rfl
                     refine pu_ (i := 1) (N := some 137) (v := ?_) (a' := ?_) HT_.out rfl rfl (Or.inl ⟨by rfl, ?_⟩) ?_ ?_
                     rotate_left
                     ·intro w'
                      go_simp
                      with_reducible rfl
                     rotate_left
                     ·simp only [sp_]
                      rfl
                     refine pu_ (i := 3) (N := some 139) (v := ?_) (a' := ?_) HT_.out rfl rfl (Or.inl ⟨by rfl, ?_⟩) ?_ ?_
                     rotate_left
                     ·intro w'
                      go_simp
                      with_reducible rfl
                     rotate_left
                     ·simp only [sp_]
                      rfl
                     refine pu_ (i := 4) (N := some 140) (v := ?_) (a' := ?_) HT_.out rfl rfl (Or.inl ⟨by rfl, ?_⟩) ?_ ?_
                     rotate_left
                     ·intro w'
                      go_simp
                      with_reducible rfl
                     rotate_left
                     ·simp only [sp_]
                      rfl
                     refine tk_ (i := 2) (N := some 138) (v := ?_) (a' := ?_) HT_.out HW_.out rfl rfl (Or.inl ⟨by rfl, ?_⟩) hHeld ?_ ?_
                     rotate_left
                     ·rintro w' ⟨s0, s1⟩
                      go_simp
                      with_reducible rfl
                     rotate_left
                     ·simp only [sp_]
                      rfl
                     refine tk_ (i := 5) (N := some 141) (v := ?_) (a' := ?_) HT_.out HW_.out rfl rfl (Or.inl ⟨by rfl, ?_⟩) hHeld ?_ ?_
                     rotate_left
                     ·rintro w' ⟨s0, s1⟩
                      go_simp
                      with_reducible rfl
                     rotate_left
                     ·simp only [sp_]
                      rfl
                     refine pu_ (i := 6) (N := some 142) (v := ?_) (a' := ?_) HT_.out rfl rfl (Or.inl ⟨by rfl, ?_⟩) ?_ ?_
                     rotate_left
                     ·intro w'
                      go_simp
                      with_reducible rfl
                     rotate_left
                     ·simp only [sp_]
                      rfl
                     refine pu_ (i := 7) (N := some 19) (v := ?_) (a' := ?_) HT_.out rfl rfl (Or.inl ⟨by rfl, ?_⟩) ?_ ?_
                     rotate_left
                     ·intro w'
                      go_simp
                      with_reducible rfl
                     rotate_left
                     ·simp only [sp_]
                      rfl
                     refine done_ (done_of HT_.out (by kernel_rfl)) ?_
                     try go_wp2
                     have n0_ := Aside0.mk (Kd.R_drew HO_7.out)
                     have n1_ := Aside0.mk (Kd.R_drew HO218.out)
                     have n2_ := Aside0.mk (bD_ HB.out)
                     clear HO_7
                     clear HO218
                     clear HB
                     have HO_7 := n0_
                     have HO218 := n1_
                     have HB := n2_
                     clear n0_ n1_ n2_
                     obtain ⟨Ao80, co80, eo80⟩ := Kd.R_slice HO218.out
                     (first | subst eo80 | (injection eo80 with f1_ f2_ f3_; have f4_ := f1_.symm; have f5_ := f3_.symm; clear f1_ f2_ f3_; subst f4_; subst f5_))
                     have p223 : 0 ≤ (0 : Int) := (by omega)
                     have q223 : 0 < (t215.length : Int) := of_decide_eq_true (by first | (with_reducible assumption) | assumption)
                     obtain ⟨ad223, e223, hx223_0⟩ := Kd.at_int (Kd.R_reads' HO218.out).2.2 0 p223 q223
                     cases e223
                     have qi223 : (0 < t215.length) = True := eq_true (by omega)
                     (try rw [show ((0 : Int)).toNat = 0 from rfl] at hx223_0)
                     (try rw [Addr.add_zero'] at hx223_0)
                     replace p223 := eq_true p223
                     replace q223 := eq_true q223
                     have p224 : 0 ≤ (1 : Int) := (by omega)
                     have q224 : 1 < (t198.length : Int) := of_decide_eq_true (by first | (with_reducible assumption) | assumption)
                     obtain ⟨ad224, e224, hx224_0⟩ := Kd.at_int (Kd.R_reads' HO_7.out).2.2 1 p224 q224
                     obtain rfl : ad221 = ad224 := (by injection e224)
                     (try simp only [show (1 : Int).toNat = 1 from rfl, Nat.reduceMul, Nat.reduceEqDiff, Go.Addr.add, ↓reduceIte] at hx224_0)
                     have qi224 : (1 < t198.length) = True := eq_true (by omega)
                     (try rw [show ((1 : Int)).toNat = 1 from rfl] at hx224_0)
                     replace p224 := eq_true p224
                     replace q224 := eq_true q224
                     have p225 : 0 ≤ (1 : Int) := (by omega)
                     have q225 : 1 < (t215.length : Int) := of_decide_eq_true (by first | (with_reducible assumption) | assumption)
                     obtain ⟨ad225, e225, hx225_0⟩ := Kd.at_int (Kd.R_reads' HO218.out).2.2 1 p225 q225
                     obtain rfl : ad223 = ad225 := (by injection e225)
                     (try simp only [show (1 : Int).toNat = 1 from rfl, Nat.reduceMul, Nat.reduceEqDiff, Go.Addr.add, ↓reduceIte] at hx225_0)
                     have qi225 : (1 < t215.length) = True := eq_true (by omega)
                     (try rw [show ((1 : Int)).toNat = 1 from rfl] at hx225_0)
                     replace p225 := eq_true p225
                     replace q225 := eq_true q225
                     have p226 : 0 ≤ (0 : Int) := (by omega)
                     have q226 : 0 < (t198.length : Int) := of_decide_eq_true (by first | (with_reducible assumption) | assumption)
                     obtain ⟨ad226, e226, hx226_0⟩ := Kd.at_int (Kd.R_reads' HO_7.out).2.2 0 p226 q226
                     obtain rfl : ad221 = ad226 := (by injection e226)
                     have qi226 : (0 < t198.length) = True := eq_true (by omega)
                     (try rw [show ((0 : Int)).toNat = 0 from rfl] at hx226_0)
                     (try rw [Addr.add_zero'] at hx226_0)
                     replace p226 := eq_true p226
                     replace q226 := eq_true q226
                     refine start_ (n := 39) (S := fun w' => w'.cell? ad223 = some (.int .i64 (rd t215 0)) ∧ w'.cell? ⟨ad221.block, ad221.off + 1, none⟩ = some (.int .i64 (rd t198 1)) ∧ w'.cell? ⟨ad223.block, ad223.off + 1, none⟩ = some (.int .i64 (rd t215 1)) ∧ w'.cell? ad221 = some (.int .i64 (rd t198 0))) (ds := []) #[false, false, false, false, false, false, false, false, false, false, false, false, false, false, false, false, false, false, false, false, false, false, false, false, false, false, false, false, false, false, false, false, false, false, false, false, false, false, false] (by kernel_rfl) rfl rfl ⟨hx223_0, hx224_0, hx225_0, hx226_0⟩ (fun hHeld => ?_); refine with_tabW laws_FnLinesAndHeaps.tab16 laws_FnLinesAndHeaps.bits16 (fun HT_ HW_ => ?_)
                     generalize w77.drew = w79 at HO_7 HO218 HB hx223_0 hx224_0 hx225_0 hx226_0 hHeld ⊢
                     refine pu_ (i := 0) (N := some 143) (v := ?_) (a' := ?_) HT_.out rfl rfl (Or.inl ⟨by rfl, ?_⟩) ?_ ?_
                     rotate_left
                     ·intro w'
                      go_simp
                      with_reducible rfl
                     rotate_left
                     ·simp only [sp_]
                      rfl
                     refine pu_ (i := 1) (N := some 144) (v := ?_) (a' := ?_) HT_.out rfl rfl (Or.inl ⟨by rfl, ?_⟩) ?_ ?_
                     rotate_left
                     ·intro w'
                      go_simp
                      with_reducible rfl
                     rotate_left
                     ·simp only [sp_]
                      rfl
                     refine pu_ (i := 2) (N := some 145) (v := ?_) (a' := ?_) HT_.out rfl rfl (Or.inl ⟨by rfl, ?_⟩) ?_ ?_
                     rotate_left
                     ·intro w'
                      go_simp
                      with_reducible rfl
                     rotate_left
                     ·simp only [sp_]
                      rfl
                     refine pu_ (i := 3) (N := some 146) (v := ?_) (a' := ?_) HT_.out rfl rfl (Or.inl ⟨by rfl, ?_⟩) ?_ ?_
                     rotate_left
                     ·intro w'
                      go_simp
                      with_reducible rfl
                     rotate_left
                     ·simp only [sp_]
                      rfl
                     refine pu_ (i := 4) (N := some 147) (v := ?_) (a' := ?_) HT_.out rfl rfl (Or.inl ⟨by rfl, ?_⟩) ?_ ?_
                     rotate_left
                     ·intro w'
                      go_simp
                      with_reducible rfl
                     rotate_left
                     ·simp only [sp_]
                      rfl
                     refine pu_ (i := 6) (N := some 149) (v := ?_) (a' := ?_) HT_.out rfl rfl (Or.inl ⟨by rfl, ?_⟩) ?_ ?_
                     rotate_left
                     ·intro w'
                      go_simp
                      with_reducible rfl
                     rotate_left
                     ·simp only [sp_]
                      rfl
                     refine pu_ (i := 7) (N := some 150) (v := ?_) (a' := ?_) HT_.out rfl rfl (Or.inl ⟨by rfl, ?_⟩) ?_ ?_
                     rotate_left
                     ·intro w'
                      go_simp
                      with_reducible rfl
                     rotate_left
                     ·simp only [sp_]
                      rfl
                     refine tk_ (i := 5) (N := some 148) (v := ?_) (a' := ?_) HT_.out HW_.out rfl rfl (Or.inl ⟨by rfl, ?_⟩) hHeld ?_ ?_
                     rotate_left
                     ·rintro w' ⟨s0, s1, s2, s3⟩
                      go_simp
                      with_reducible rfl
                     rotate_left
                     ·simp only [sp_]
                      rfl
                     refine tk_ (i := 8) (N := some 151) (v := ?_) (a' := ?_) HT_.out HW_.out rfl rfl (Or.inl ⟨by rfl, ?_⟩) hHeld ?_ ?_
                     rotate_left
                     ·rintro w' ⟨s0, s1, s2, s3⟩
                      go_simp
                      with_reducible rfl
                     rotate_left
                     ·simp only [sp_]
                      rfl
                     refine pu_ (i := 9) (N := some 152) (v := ?_) (a' := ?_) HT_.out rfl rfl (Or.inl ⟨by rfl, ?_⟩) ?_ ?_
                     rotate_left
                     ·intro w'
                      go_simp
                      with_reducible rfl
                     rotate_left
                     ·simp only [sp_]
                      rfl
                     refine pu_ (i := 10) (N := some 153) (v := ?_) (a' := ?_) HT_.out rfl rfl (Or.inl ⟨by rfl, ?_⟩) ?_ ?_
                     rotate_left
                     ·intro w'
                      go_simp
                      with_reducible rfl
                     rotate_left
                     ·simp only [sp_]
                      rfl
                     refine pu_ (i := 11) (N := some 154) (v := ?_) (a' := ?_) HT_.out rfl rfl (Or.inl ⟨by rfl, ?_⟩) ?_ ?_
                     rotate_left
                     ·intro w'
                      go_simp
                      with_reducible rfl
                     rotate_left
                     ·simp only [sp_]
                      rfl
                     refine pu_ (i := 12) (N := some 155) (v := ?_) (a' := ?_) HT_.out rfl rfl (Or.inl ⟨by rfl, ?_⟩) ?_ ?_
                     rotate_left
                     ·intro w'
                      go_simp
                      with_reducible rfl
                     rotate_left
                     ·simp only [sp_]
                      rfl
                     refine pu_ (i := 13) (N := some 156) (v := ?_) (a' := ?_) HT_.out rfl rfl (Or.inl ⟨by rfl, ?_⟩) ?_ ?_
                     rotate_left
                     ·intro w'
                      go_simp
                      with_reducible rfl
                     rotate_left
                     ·simp only [sp_]
                      rfl
                     refine pu_ (i := 14) (N := some 157) (v := ?_) (a' := ?_) HT_.out rfl rfl (Or.inl ⟨by rfl, ?_⟩) ?_ ?_
                     rotate_left
                     ·intro w'
                      go_simp
                      with_reducible rfl
                     rotate_left
                     ·simp only [sp_]
                      rfl
                     refine pu_ (i := 16) (N := some 159) (v := ?_) (a' := ?_) HT_.out rfl rfl (Or.inl ⟨by rfl, ?_⟩) ?_ ?_
                     rotate_left
                     ·intro w'
                      go_simp
                      with_reducible rfl
                     rotate_left
                     ·simp only [sp_]
                      rfl
                     refine pu_ (i := 17) (N := some 160) (v := ?_) (a' := ?_) HT_.out rfl rfl (Or.inl ⟨by rfl, ?_⟩) ?_ ?_
                     rotate_left
                     ·intro w'
                      go_simp
                      with_reducible rfl
                     rotate_left
                     ·simp only [sp_]
                      rfl
                     refine tk_ (i := 15) (N := some 158) (v := ?_) (a' := ?_) HT_.out HW_.out rfl rfl (Or.inl ⟨by rfl, ?_⟩) hHeld ?_ ?_
                     rotate_left
                     ·rintro w' ⟨s0, s1, s2, s3⟩
                      go_simp
                      with_reducible rfl
                     rotate_left
                     ·simp only [sp_]
                      rfl
                     refine tk_ (i := 18) (N := some 161) (v := ?_) (a' := ?_) HT_.out HW_.out rfl rfl (Or.inl ⟨by rfl, ?_⟩) hHeld ?_ ?_
                     rotate_left
                     ·rintro w' ⟨s0, s1, s2, s3⟩
                      go_simp
                      with_reducible rfl
                     rotate_left
                     ·simp only [sp_]
                      rfl
                     refine pu_ (i := 19) (N := some 162) (v := ?_) (a' := ?_) HT_.out rfl rfl (Or.inl ⟨by rfl, ?_⟩) ?_ ?_
                     rotate_left
                     ·intro w'
                      go_simp
                      with_reducible rfl
                     rotate_left
                     ·simp only [sp_]
                      rfl
                     refine pu_ (i := 20) (N := some 163) (v := ?_) (a' := ?_) HT_.out rfl rfl (Or.inl ⟨by rfl, ?_⟩) ?_ ?_
                     rotate_left
                     ·intro w'
                      go_simp
                      with_reducible rfl
                     rotate_left
                     ·simp only [sp_]
                      rfl
                     refine pu_ (i := 21) (N := some 164) (v := ?_) (a' := ?_) HT_.out rfl rfl (Or.inl ⟨by rfl, ?_⟩) ?_ ?_
                     rotate_left
                     ·intro w'
                      go_simp
                      with_reducible rfl
                     rotate_left
                     ·simp only [sp_]
                      rfl
                     refine pu_ (i := 22) (N := some 165) (v := ?_) (a' := ?_) HT_.out rfl rfl (Or.inl ⟨by rfl, ?_⟩) ?_ ?_
                     rotate_left
                     ·intro w'
                      go_simp
                      with_reducible rfl
                     rotate_left
                     ·simp only [sp_]
                      rfl
                     refine pu_ (i := 23) (N := some 166) (v := ?_) (a' := ?_) HT_.out rfl rfl (Or.inl ⟨by rfl, ?_⟩) ?_ ?_
                     rotate_left
                     ·intro w'
                      go_simp
                      with_reducible rfl
                     rotate_left
                     ·simp only [sp_]
                      rfl
                     refine pu_ (i := 24) (N := some 167) (v := ?_) (a' := ?_) HT_.out rfl rfl (Or.inl ⟨by rfl, ?_⟩) ?_ ?_
                     rotate_left
                     ·intro w'
                      go_simp
                      with_reducible rfl
                     rotate_left
                     ·simp only [sp_]
                      rfl
                     refine pu_ (i := 25) (N := some 168) (v := ?_) (a' := ?_) HT_.out rfl rfl (Or.inl ⟨by rfl, ?_⟩) ?_ ?_
                     rotate_left
                     ·intro w'
                      go_simp
                      with_reducible rfl
                     rotate_left
                     ·simp only [sp_]
                      rfl
                     refine pu_ (i := 26) (N := some 169) (v := ?_) (a' := ?_) HT_.out rfl rfl (Or.inl ⟨by rfl, ?_⟩) ?_ ?_
                     rotate_left
                     ·intro w'
                      go_simp
                      with_reducible rfl
                     rotate_left
                     ·simp only [sp_]
                      rfl
                     refine pu_ (i := 27) (N := some 170) (v := ?_) (a' := ?_) HT_.out rfl rfl (Or.inl ⟨by rfl, ?_⟩) ?_ ?_
                     rotate_left
                     ·intro w'
                      go_simp
                      with_reducible rfl
                     rotate_left
                     ·simp only [sp_]
                      rfl
                     refine pu_ (i := 28) (N := some 171) (v := ?_) (a' := ?_) HT_.out rfl rfl (Or.inl ⟨by rfl, ?_⟩) ?_ ?_
                     rotate_left
                     ·intro w'
                      go_simp
                      with_reducible rfl
                     rotate_left
                     ·simp only [sp_]
                      rfl
                     refine pu_ (i := 29) (N := some 172) (v := ?_) (a' := ?_) HT_.out rfl rfl (Or.inl ⟨by rfl, ?_⟩) ?_ ?_
                     rotate_left
                     ·intro w'
                      go_simp
                      with_reducible rfl
                     rotate_left
                     ·simp only [sp_]
                      rfl
                     refine pu_ (i := 30) (N := some 173) (v := ?_) (a' := ?_) HT_.out rfl rfl (Or.inl ⟨by rfl, ?_⟩) ?_ ?_
                     rotate_left
                     ·intro w'
                      go_simp
                      with_reducible rfl
                     rotate_left
                     ·simp only [sp_]
                      rfl
                     refine pu_ (i := 31) (N := some 174) (v := ?_) (a' := ?_) HT_.out rfl rfl (Or.inl ⟨by rfl, ?_⟩) ?_ ?_
                     rotate_left
                     ·intro w'
                      go_simp
                      with_reducible rfl
                     rotate_left
                     ·simp only [sp_]
                      rfl
                     refine pu_ (i := 32) (N := some 175) (v := ?_) (a' := ?_) HT_.out rfl rfl (Or.inl ⟨by rfl, ?_⟩) ?_ ?_
                     rotate_left
                     ·intro w'
                      go_simp
                      with_reducible rfl
                     rotate_left
                     ·simp only [sp_]
                      rfl
                     refine pu_ (i := 33) (N := some 176) (v := ?_) (a' := ?_) HT_.out rfl rfl (Or.inl ⟨by rfl, ?_⟩) ?_ ?_
                     rotate_left
                     ·intro w'
                      go_simp
                      with_reducible rfl
                     rotate_left
                     ·simp only [sp_]
                      rfl
                     refine pu_ (i := 34) (N := some 177) (v := ?_) (a' := ?_) HT_.out rfl rfl (Or.inl ⟨by rfl, ?_⟩) ?_ ?_
                     rotate_left
                     ·intro w'
                      go_simp
                      with_reducible rfl
                     rotate_left
                     ·simp only [sp_]
                      rfl
                     refine pu_ (i := 35) (N := some 178) (v := ?_) (a' := ?_) HT_.out rfl rfl (Or.inl ⟨by rfl, ?_⟩) ?_ ?_
                     rotate_left
                     ·intro w'
                      go_simp
                      with_reducible rfl
                     rotate_left
                     ·simp only [sp_]
                      rfl
                     refine pu_ (i := 36) (N := some 179) (v := ?_) (a' := ?_) HT_.out rfl rfl (Or.inl ⟨by rfl, ?_⟩) ?_ ?_
                     rotate_left
                     ·intro w'
                      go_simp
                      with_reducible rfl
                     rotate_left
                     ·simp only [sp_]
                      rfl
                     refine pu_ (i := 37) (N := some 180) (v := ?_) (a' := ?_) HT_.out rfl rfl (Or.inl ⟨by rfl, ?_⟩) ?_ ?_
                     rotate_left
                     ·intro w'
                      go_simp
                      with_reducible rfl
                     rotate_left
                     ·simp only [sp_]
                      rfl
                     refine pu_ (i := 38) (N := some 181) (v := ?_) (a' := ?_) HT_.out rfl rfl (Or.inl ⟨by rfl, ?_⟩) ?_ ?_
                     rotate_left
                     ·intro w'
                      go_simp
                      with_reducible rfl
                     rotate_left
                     ·simp only [sp_]
                      rfl
                     refine done_ (done_of HT_.out (by kernel_rfl)) ?_
                     try go_wp2
                     refine Fc.meet (by assumption) ?same ?rel
                     case same => kernel_rfl
                     case rel => exact ⟨_, H', ⟨by have := HJ9.out; have := HJ34.out; first | omega | exact Nat.le_refl _⟩, ⟨by repeat (first | (with_reducible first | exact HB.out | apply bA_ | apply bN_ | apply bD_) | exact HB.out)⟩⟩
                  ·exact absurd (H8.m_steps A6.out A51.out A8.out) c60
                 ·exact absurd (H8.m_fine A6.out A51.out) c59
                ·exact absurd (H8.m_1 A6.out A50.out) c58
               ·rw [if_neg c57] at H
                exact absurd H (by simp)
              ·exact absurd (H8.m_0 A6.out A50.out) c56
             ·rw [if_neg c55] at H
              exact absurd H (by simp)
            ·exact absurd (H8.m_ok A6.out A50.out) c54
           ·rw [if_neg c53] at H
            exact absurd H (by simp)
          ·rw [if_neg c52] at H
           exact absurd H (by simp)
      ·replace c34 := Bool.eq_false_iff.mpr c34
       subst c34
       have H1 : (laws_FnLinesAndHeaps.j2 kj9 l1) = some r := by rw [if_neg (show ¬ (false = true) by decide)] at H; exact H
       clear H
       have H := H1
       clear H1
       have H' := Aside0.mk H
       clear H
       go_wp2
       refine Fc.meet (by assumption) ?same ?rel
       case same => kernel_rfl
       case rel => exact ⟨_, H', ⟨by have := HJ9.out; first | omega | exact Nat.le_refl _⟩, ⟨by repeat (first | (with_reducible first | exact HB.out | apply bA_ | apply bN_ | apply bD_) | exact HB.out)⟩⟩
     case rest =>
      intro u1_ wc hcut
      (try dsimp only at hcut)
      dsimp only [cm1, Fc.blend]
      clear HC33
      try clear c2
      try clear p2
      try clear q2
      try clear hx2
      try clear qi2
      try clear c3
      try clear c5
      try clear p6
      try clear c21
      try clear p22
      try clear q22
      try clear hx22
      try clear qi22
      try clear c34
      try clear c52
      try clear c53
      try clear c54
      try clear c55
      try clear p64
      try clear hx221_0
      try clear hx222_0
      try clear p221
      try clear p222
      try clear q221
      try clear q222
      obtain ⟨kq, HA, HJ32, HB⟩ := hcut
      cases kq with
      | zero => exact absurd HA.out (by simp [laws_FnLinesAndHeaps.j2])
      | succ kj32 =>
       have H := HA.out
       clear HA
       simp only [laws_FnLinesAndHeaps.j2] at H
       replace H := Option.bind_eq_some_iff.mp H
       obtain ⟨t227, A1100, H⟩ := H
       (try dsimp only at H)
       have A110 := Aside0.mk A1100
       clear A1100
       replace H := Option.bind_eq_some_iff.mp H
       obtain ⟨⟨t228, t229⟩, A1110, H⟩ := H
       (try dsimp only at H)
       have A111 := Aside0.mk A1110
       clear A1110
       replace H := Option.bind_eq_some_iff.mp H
       obtain ⟨⟨t232, t233⟩, A1120, H⟩ := H
       (try dsimp only at H)
       have A112 := Aside0.mk A1120
       clear A1120
       replace H := Option.bind_eq_some_iff.mp H
       obtain ⟨⟨t236, t237⟩, A1130, H⟩ := H
       (try dsimp only at H)
       have A113 := Aside0.mk A1130
       clear A1130
       replace H := Option.bind_eq_some_iff.mp H
       obtain ⟨⟨t238, t239⟩, A1140, H⟩ := H
       (try dsimp only at H)
       have A114 := Aside0.mk A1140
       clear A1140
       have HC115 := Aside0.mk H
       clear H
       go_upto_region 23 with (first | ((with_reducible refine gate_callee (f := 64) rfl ?_); refine goesL_ (some 183) rfl rfl Try.func64 (by kernel_rfl) rfl #[.slice A1 l1.length c1] rfl (by (try simp only [List.map_toArray, List.map_cons, List.map_nil]); first | done | rfl | (simp only [List.length_drop, List.length_take]; rfl)) ?_; (with_reducible refine (spec_DrawHeapCells.calls _ _ l1 t227 _ ?side1 ?side2 A110.out).mono ?_); (case side1 => repeat (first | exact (Kd.C_below HR1.out HB.out) | (with_reducible refine Kd.C_alloc ?_ _) | (with_reducible refine Kd.C_drewN ?_ _) | (with_reducible refine Kd.C_drew ?_))); (case side2 => exact HC1.out); rintro e w116 ⟨rfl, hb⟩; refine ⟨_, rfl, ?_⟩; have n0_ := Aside0.mk (bP_ (by repeat (first | (with_reducible first | exact HB.out | apply bA_ | apply bN_ | apply bD_) | exact HB.out)) hb); clear HB; have HB := n0_; clear n0_; (try clear hb); (try clear hb2); (try clear hk); (try clear hi)) | ((with_reducible refine gate_callee (f := 62) rfl ?_); refine goesL_ (some 186) rfl rfl Try.func62 (by kernel_rfl) rfl #[.int .i64 t227] rfl (by (try simp only [List.map_toArray, List.map_cons, List.map_nil]); first | done | rfl | (simp only [List.length_drop, List.length_take]; rfl)) ?_; (with_reducible refine (impl_HeapCells.calls t227 t228 t229 _ A111.out).mono ?_); rintro e w117 ⟨v230, rfl, ho0, hb⟩; refine ⟨_, rfl, ?_⟩; have n0_ := Aside0.mk (Kd.S_lower ho0 (bZ_ (by repeat (first | (with_reducible first | exact HB.out | apply bA_ | apply bN_ | apply bD_) | exact HB.out)))); have n1_ := Aside0.mk (bP_ (by repeat (first | (with_reducible first | exact HB.out | apply bA_ | apply bN_ | apply bD_) | exact HB.out)) hb); clear HB; have HO231 := n0_; have HB := n1_; clear n0_ n1_; (try clear hb); (try clear hb2); (try clear hk); (try clear hi); (try clear ho0)) | ((with_reducible refine gate_callee (f := 61) rfl ?_); refine goesL_ (some 191) rfl rfl Try.func61 (by kernel_rfl) rfl #[.int .i64 t227] rfl (by (try simp only [List.map_toArray, List.map_cons, List.map_nil]); first | done | rfl | (simp only [List.length_drop, List.length_take]; rfl)) ?_; (with_reducible refine (spec_HeapCells.calls t227 t232 t233 _ A112.out).mono ?_); rintro e w118 ⟨v234, rfl, ho0, hb⟩; refine ⟨_, rfl, ?_⟩; have n0_ := Aside0.mk (Kd.S_elder' (by (with_reducible repeat (first | apply Kd.S_alloc | apply Kd.S_drewN | apply Kd.S_drew)); exact HO231.out) (Kd.R_base ho0) hb); have n1_ := Aside0.mk (Kd.R_lower (Kd.R_new' ho0 (Kd.S_lt (by (with_reducible repeat (first | apply Kd.S_alloc | apply Kd.S_drewN | apply Kd.S_drew)); exact HO231.out))) (bZ_ (by repeat (first | (with_reducible first | exact HB.out | apply bA_ | apply bN_ | apply bD_) | exact HB.out)))); have n2_ := Aside0.mk (bP_ (by repeat (first | (with_reducible first | exact HB.out | apply bA_ | apply bN_ | apply bD_) | exact HB.out)) hb); clear HO231; clear HB; have HO231 := n0_; have HO235 := n1_; have HB := n2_; clear n0_ n1_ n2_; (try clear hb); (try clear hb2); (try clear hk); (try clear hi); (try clear ho0)) | ((with_reducible refine gate_callee (f := 36) rfl ?_); refine goesL_ (some 196) rfl rfl Try.func36 (by kernel_rfl) rfl #[.int .i64 t227] rfl (by (try simp only [List.map_toArray, List.map_cons, List.map_nil]); first | done | rfl | (simp only [List.length_drop, List.length_take]; rfl)) ?_; (with_reducible refine (impl_HeapSquare.calls t227 t236 t237 _ A113.out).mono ?_); rintro e w119 ⟨rfl, hb⟩; refine ⟨_, rfl, ?_⟩; have n0_ := Aside0.mk (Kd.S_below (by (with_reducible repeat (first | apply Kd.S_alloc | apply Kd.S_drewN | apply Kd.S_drew)); exact HO231.out) hb); have n1_ := Aside0.mk (Kd.R_below (by (with_reducible repeat (first | apply Kd.R_alloc | apply Kd.R_drewN | apply Kd.R_drew)); exact HO235.out) hb); have n2_ := Aside0.mk (bP_ (by repeat (first | (with_reducible first | exact HB.out | apply bA_ | apply bN_ | apply bD_) | exact HB.out)) hb); clear HO231; clear HO235; clear HB; have HO231 := n0_; have HO235 := n1_; have HB := n2_; clear n0_ n1_ n2_; (try clear hb); (try clear hb2); (try clear hk); (try clear hi)) | ((with_reducible refine gate_callee (f := 35) rfl ?_); refine goesL_ (some 201) rfl rfl Try.func35 (by kernel_rfl) rfl #[.int .i64 t227] rfl (by (try simp only [List.map_toArray, List.map_cons, List.map_nil]); first | done | rfl | (simp only [List.length_drop, List.length_take]; rfl)) ?_; (with_reducible refine (spec_HeapSquare.calls t227 t238 t239 _ A114.out).mono ?_); rintro e w120 ⟨rfl, hb⟩; refine ⟨_, rfl, ?_⟩; have n0_ := Aside0.mk (Kd.S_below (by (with_reducible repeat (first | apply Kd.S_alloc | apply Kd.S_drewN | apply Kd.S_drew)); exact HO231.out) hb); have n1_ := Aside0.mk (Kd.R_below (by (with_reducible repeat (first | apply Kd.R_alloc | apply Kd.R_drewN | apply Kd.R_drew)); exact HO235.out) hb); have n2_ := Aside0.mk (bP_ (by repeat (first | (with_reducible first | exact HB.out | apply bA_ | apply bN_ | apply bD_) | exact HB.out)) hb); clear HO231; clear HO235; clear HB; have HO231 := n0_; have HO235 := n1_; have HB := n2_; clear n0_ n1_ n2_; (try clear hb); (try clear hb2); (try clear hk); (try clear hi)))
       (try simp only [Act.put, List.setIfInBounds_toArray, List.set_cons_zero, List.set_cons_succ])
       apply Fc.cut cm0 cm0_ok (fun u_ wc => ∃ (kq : Nat) (x231_114 : Bool), (u_ 231) = .bool x231_114 ∧ Aside0 (laws_FnLinesAndHeaps.j3 kq t227 t228 t229 t236 x231_114 = some r) ∧ Aside0 (kq ≤ kj32) ∧ Aside0 (Kd.S (Kd.slice 3 (Kd.int .i64)) 29 wc w.heap.size (fun _ => True) v230 t228) ∧ Aside0 (Below w.heap.size w wc))
       case first =>
        intro _ _ _ _
        have H := HC115.out
        clear HC115
        by_cases c121 : (t229 != t233) = true
        ·rw [if_pos c121] at H
         have c121b0 : (t229 != t233) = true := c121
         (try (have c121b1 : decide (t229 = t233) = false := by simpa using c121))
         (try (have c121b2 : (t229 == t233) = false := by simpa using c121))
         (try (have c121b3 : ¬ (t229 = t233) := by simpa using c121))
         clear c121
         (first | rw [c121b0] | (simp only [i64_w, i32_w]; rw [c121b0]) | skip)
         have H' := Aside0.mk H
         clear H
         go_wp2
         refine Fc.meet (by assumption) ?same ?rel
         case same => kernel_rfl
         case rel => exact ⟨_, (true), (by first | rfl | (simp [Fc.nth]; done) | (simp [Fc.nth, *]; done)), H', ⟨by have := HJ9.out; have := HJ32.out; first | omega | exact Nat.le_refl _⟩, ⟨by (with_reducible repeat (first | apply Kd.S_alloc | apply Kd.S_drewN | apply Kd.S_drew)); exact Kd.S_mono HO231.out (fun _ hk => trivial)⟩, ⟨by repeat (first | (with_reducible first | exact HB.out | apply bA_ | apply bN_ | apply bD_) | exact HB.out)⟩⟩
        ·rw [if_neg c121] at H
         have c121b0 : (t229 != t233) = false := by simpa using c121
         (try (have c121b1 : decide (t229 = t233) = true := by simpa using c121))
         (try (have c121b2 : (t229 == t233) = true := by simpa using c121))
         clear c121
         (first | rw [c121b0] | (simp only [i64_w, i32_w]; rw [c121b0]) | skip)
         replace H := Option.bind_eq_some_iff.mp H
         obtain ⟨t240, A1220, H⟩ := H
         (try dsimp only at H)
         have A122 := Aside0.mk A1220
         clear A1220
         by_cases c123 : t240 = true
         ·subst c123
          have H1 : (if (t237 != t239) = true then (laws_FnLinesAndHeaps.j3 kj32 t227 t228 t229 t236 true) else (if t236 = t238 then (if t229 = true then (laws_FnLinesAndHeaps.j3 kj32 t227 t228 t229 t236 (t237 != (decide (t227 > 0)))) else (laws_FnLinesAndHeaps.j3 kj32 t227 t228 t229 t236 (t237 != false))) else (laws_FnLinesAndHeaps.j3 kj32 t227 t228 t229 t236 true))) = some r := by rw [if_pos rfl] at H; exact H
          clear H
          have H := H1
          clear H1
          by_cases c124 : (t237 != t239) = true
          ·rw [if_pos c124] at H
           have c124b0 : (t237 != t239) = true := c124
           (try (have c124b1 : decide (t237 = t239) = false := by simpa using c124))
           (try (have c124b2 : (t237 == t239) = false := by simpa using c124))
           (try (have c124b3 : ¬ (t237 = t239) := by simpa using c124))
           clear c124
           have H' := Aside0.mk H
           clear H
           obtain ⟨Ao125, co125, eo125⟩ := Kd.S_slice HO231.out
           subst eo125
           obtain ⟨Ao126, co126, eo126⟩ := Kd.R_slice HO235.out
           subst eo126
           go_wp2_with (first | (go_at_call 43; (with_reducible refine (laws_xRows.calls kj32 _ _ t228 _ _ t232 true _ ?side1 ?side2 ?side3 ?side4 A122.out).mono ?_); (case side1 => repeat (first | exact (Kd.S_reads' HO231.out).2.2 | (with_reducible refine Kd.C_alloc ?_ _) | (with_reducible refine Kd.C_drewN ?_ _) | (with_reducible refine Kd.C_drew ?_))); (case side2 => exact (Kd.S_reads' HO231.out).2.1); (case side3 => repeat (first | exact (Kd.R_reads' HO235.out).2.2 | (with_reducible refine Kd.C_alloc ?_ _) | (with_reducible refine Kd.C_drewN ?_ _) | (with_reducible refine Kd.C_drew ?_))); (case side4 => exact (Kd.R_reads' HO235.out).2.1); rintro e w' ⟨rfl, ⟨nd, rfl⟩⟩))
           refine Fc.meet (by assumption) ?same ?rel
           case same => kernel_rfl
           case rel => exact ⟨_, (true), (by first | rfl | (simp [Fc.nth]; done) | (simp [Fc.nth, *]; done)), H', ⟨by have := HJ9.out; have := HJ32.out; first | omega | exact Nat.le_refl _⟩, ⟨by (with_reducible repeat (first | apply Kd.S_alloc | apply Kd.S_drewN | apply Kd.S_drew)); exact Kd.S_mono HO231.out (fun _ hk => trivial)⟩, ⟨by repeat (first | (with_reducible first | exact HB.out | apply bA_ | apply bN_ | apply bD_) | exact HB.out)⟩⟩
          ·rw [if_neg c124] at H
           have c124b0 : (t237 != t239) = false := by simpa using c124
           (try (have c124b1 : decide (t237 = t239) = true := by simpa using c124))
           (try (have c124b2 : (t237 == t239) = true := by simpa using c124))
           clear c124
           by_cases c127 : t236 = t238
           ·rw [if_pos c127] at H
            have c127b0 : (t236 == t238) = true := beq_iff_eq.mpr c127
            have c127b1 : (t236 != t238) = false := bne_eq_false_iff_eq.mpr c127
            clear c127
            by_cases c128 : t229 = true
            ·subst c128
             have H1 : (laws_FnLinesAndHeaps.j3 kj32 t227 t228 true t236 (t237 != (decide (t227 > 0)))) = some r := by rw [if_pos rfl] at H; exact H
             clear H
             have H := H1
             clear H1
             have H' := Aside0.mk H
             clear H
             obtain ⟨Ao129, co129, eo129⟩ := Kd.S_slice HO231.out
             subst eo129
             obtain ⟨Ao130, co130, eo130⟩ := Kd.R_slice HO235.out
             subst eo130
             go_wp2_with (first | (go_at_call 43; (with_reducible refine (laws_xRows.calls kj32 _ _ t228 _ _ t232 true _ ?side1 ?side2 ?side3 ?side4 A122.out).mono ?_); (case side1 => repeat (first | exact (Kd.S_reads' HO231.out).2.2 | (with_reducible refine Kd.C_alloc ?_ _) | (with_reducible refine Kd.C_drewN ?_ _) | (with_reducible refine Kd.C_drew ?_))); (case side2 => exact (Kd.S_reads' HO231.out).2.1); (case side3 => repeat (first | exact (Kd.R_reads' HO235.out).2.2 | (with_reducible refine Kd.C_alloc ?_ _) | (with_reducible refine Kd.C_drewN ?_ _) | (with_reducible refine Kd.C_drew ?_))); (case side4 => exact (Kd.R_reads' HO235.out).2.1); rintro e w' ⟨rfl, ⟨nd, rfl⟩⟩))
             refine Fc.meet (by assumption) ?same ?rel
             case same => kernel_rfl
             case rel => exact ⟨_, ((t237 != (decide (t227 > 0)))), (by first | rfl | (simp [Fc.nth]; done) | (simp [Fc.nth, *]; done)), H', ⟨by have := HJ9.out; have := HJ32.out; first | omega | exact Nat.le_refl _⟩, ⟨by (with_reducible repeat (first | apply Kd.S_alloc | apply Kd.S_drewN | apply Kd.S_drew)); exact Kd.S_mono HO231.out (fun _ hk => trivial)⟩, ⟨by repeat (first | (with_reducible first | exact HB.out | apply bA_ | apply bN_ | apply bD_) | exact HB.out)⟩⟩
            ·replace c128 := Bool.eq_false_iff.mpr c128
             subst c128
             have H1 : (laws_FnLinesAndHeaps.j3 kj32 t227 t228 false t236 (t237 != false)) = some r := by rw [if_neg (show ¬ (false = true) by decide)] at H; exact H
             clear H
             have H := H1
             clear H1
             have H' := Aside0.mk H
             clear H
             obtain ⟨Ao131, co131, eo131⟩ := Kd.S_slice HO231.out
             subst eo131
             obtain ⟨Ao132, co132, eo132⟩ := Kd.R_slice HO235.out
             subst eo132
             go_wp2_with (first | (go_at_call 43; (with_reducible refine (laws_xRows.calls kj32 _ _ t228 _ _ t232 true _ ?side1 ?side2 ?side3 ?side4 A122.out).mono ?_); (case side1 => repeat (first | exact (Kd.S_reads' HO231.out).2.2 | (with_reducible refine Kd.C_alloc ?_ _) | (with_reducible refine Kd.C_drewN ?_ _) | (with_reducible refine Kd.C_drew ?_))); (case side2 => exact (Kd.S_reads' HO231.out).2.1); (case side3 => repeat (first | exact (Kd.R_reads' HO235.out).2.2 | (with_reducible refine Kd.C_alloc ?_ _) | (with_reducible refine Kd.C_drewN ?_ _) | (with_reducible refine Kd.C_drew ?_))); (case side4 => exact (Kd.R_reads' HO235.out).2.1); rintro e w' ⟨rfl, ⟨nd, rfl⟩⟩))
             refine Fc.meet (by assumption) ?same ?rel
             case same => kernel_rfl
             case rel => exact ⟨_, ((t237 != false)), (by first | rfl | (simp [Fc.nth]; done) | (simp [Fc.nth, *]; done)), H', ⟨by have := HJ9.out; have := HJ32.out; first | omega | exact Nat.le_refl _⟩, ⟨by (with_reducible repeat (first | apply Kd.S_alloc | apply Kd.S_drewN | apply Kd.S_drew)); exact Kd.S_mono HO231.out (fun _ hk => trivial)⟩, ⟨by repeat (first | (with_reducible first | exact HB.out | apply bA_ | apply bN_ | apply bD_) | exact HB.out)⟩⟩
           ·rw [if_neg c127] at H
            have c127b0 : (t236 == t238) = false := beq_eq_false_iff_ne.mpr c127
            have c127b1 : (t236 != t238) = true := bne_iff_ne.mpr c127
            have H' := Aside0.mk H
            clear H
            obtain ⟨Ao133, co133, eo133⟩ := Kd.S_slice HO231.out
            subst eo133
            obtain ⟨Ao134, co134, eo134⟩ := Kd.R_slice HO235.out
            subst eo134
            go_wp2_with (first | (go_at_call 43; (with_reducible refine (laws_xRows.calls kj32 _ _ t228 _ _ t232 true _ ?side1 ?side2 ?side3 ?side4 A122.out).mono ?_); (case side1 => repeat (first | exact (Kd.S_reads' HO231.out).2.2 | (with_reducible refine Kd.C_alloc ?_ _) | (with_reducible refine Kd.C_drewN ?_ _) | (with_reducible refine Kd.C_drew ?_))); (case side2 => exact (Kd.S_reads' HO231.out).2.1); (case side3 => repeat (first | exact (Kd.R_reads' HO235.out).2.2 | (with_reducible refine Kd.C_alloc ?_ _) | (with_reducible refine Kd.C_drewN ?_ _) | (with_reducible refine Kd.C_drew ?_))); (case side4 => exact (Kd.R_reads' HO235.out).2.1); rintro e w' ⟨rfl, ⟨nd, rfl⟩⟩))
            refine Fc.meet (by assumption) ?same ?rel
            case same => kernel_rfl
            case rel => exact ⟨_, (true), (by first | rfl | (simp [Fc.nth]; done) | (simp [Fc.nth, *]; done)), H', ⟨by have := HJ9.out; have := HJ32.out; first | omega | exact Nat.le_refl _⟩, ⟨by (with_reducible repeat (first | apply Kd.S_alloc | apply Kd.S_drewN | apply Kd.S_drew)); exact Kd.S_mono HO231.out (fun _ hk => trivial)⟩, ⟨by repeat (first | (with_reducible first | exact HB.out | apply bA_ | apply bN_ | apply bD_) | exact HB.out)⟩⟩
         ·replace c123 := Bool.eq_false_iff.mpr c123
          subst c123
          have H1 : (laws_FnLinesAndHeaps.j3 kj32 t227 t228 t229 t236 true) = some r := by rw [if_neg (show ¬ (false = true) by decide)] at H; exact H
          clear H
          have H := H1
          clear H1
          have H' := Aside0.mk H
          clear H
          obtain ⟨Ao135, co135, eo135⟩ := Kd.S_slice HO231.out
          subst eo135
          obtain ⟨Ao136, co136, eo136⟩ := Kd.R_slice HO235.out
          subst eo136
          go_wp2_with (first | (go_at_call 43; (with_reducible refine (laws_xRows.calls kj32 _ _ t228 _ _ t232 false _ ?side1 ?side2 ?side3 ?side4 A122.out).mono ?_); (case side1 => repeat (first | exact (Kd.S_reads' HO231.out).2.2 | (with_reducible refine Kd.C_alloc ?_ _) | (with_reducible refine Kd.C_drewN ?_ _) | (with_reducible refine Kd.C_drew ?_))); (case side2 => exact (Kd.S_reads' HO231.out).2.1); (case side3 => repeat (first | exact (Kd.R_reads' HO235.out).2.2 | (with_reducible refine Kd.C_alloc ?_ _) | (with_reducible refine Kd.C_drewN ?_ _) | (with_reducible refine Kd.C_drew ?_))); (case side4 => exact (Kd.R_reads' HO235.out).2.1); rintro e w' ⟨rfl, ⟨nd, rfl⟩⟩))
          refine Fc.meet (by assumption) ?same ?rel
          case same => kernel_rfl
          case rel => exact ⟨_, (true), (by first | rfl | (simp [Fc.nth]; done) | (simp [Fc.nth, *]; done)), H', ⟨by have := HJ9.out; have := HJ32.out; first | omega | exact Nat.le_refl _⟩, ⟨by (with_reducible repeat (first | apply Kd.S_alloc | apply Kd.S_drewN | apply Kd.S_drew)); exact Kd.S_mono HO231.out (fun _ hk => trivial)⟩, ⟨by repeat (first | (with_reducible first | exact HB.out | apply bA_ | apply bN_ | apply bD_) | exact HB.out)⟩⟩
       case rest =>
        intro u3_ wc hcut
        (try dsimp only at hcut)
        dsimp only [cm0, Fc.blend]
        generalize u3_ 231 = v231 at hcut ⊢
        clear HC115
        try clear c1
        try clear c2
        try clear p2
        try clear q2
        try clear hx2
        try clear qi2
        try clear c3
        try clear c5
        try clear c6
        try clear p6
        try clear c12
        try clear c21
        try clear p22
        try clear q22
        try clear hx22
        try clear qi22
        try clear c34
        try clear c35
        try clear c36
        try clear c52
        try clear c53
        try clear c54
        try clear c55
        try clear c61
        try clear c62
        try clear c64
        try clear p64
        try clear c121
        try clear c121b0
        try clear c121b1
        try clear c121b2
        try clear c123
        try clear c124
        try clear c124b0
        try clear c124b1
        try clear c124b2
        try clear c127
        try clear c127b0
        try clear c127b1
        try clear c128
        try clear hx221_0
        try clear hx222_0
        try clear p2
        try clear p22
        try clear p221
        try clear p222
        try clear p6
        try clear p64
        try clear q2
        try clear q22
        try clear q221
        try clear q222
        obtain ⟨kq, x231_114, rfl, HA, HJ114, HO_21, HB⟩ := hcut
        cases kq with
        | zero => exact absurd HA.out (by simp [laws_FnLinesAndHeaps.j3])
        | succ kj114 =>
         have H := HA.out
         clear HA
         simp only [laws_FnLinesAndHeaps.j3] at H
         by_cases c137 : x231_114 = true
         ·subst c137
          have H1 : (some false) = some r := by rw [if_pos rfl] at H; exact H
          clear H
          have H := H1
          clear H1
          obtain rfl := Option.some.inj H
          go_wp2
          go_ret
          exact ⟨by first | rfl | (simp [errW_none, errW_some] <;> rfl) | (simp [*, errW_none, errW_some] <;> rfl), by repeat (first | (with_reducible first | exact HB.out | apply bA_ | apply bN_ | apply bD_) | exact HB.out)⟩
         ·replace c137 := Bool.eq_false_iff.mpr c137
          subst c137
          have H1 : (if t229 = true then (laws_FnLinesAndHeaps.l0 kj114 t227 t228 t236 0 0 t228 (t228.length : Int) 0) else (some true)) = some r := by rw [if_neg (show ¬ (false = true) by decide)] at H; exact H
          clear H
          have H := H1
          clear H1
          by_cases c138 : t229 = true
          ·subst c138
           have H1 : (laws_FnLinesAndHeaps.l0 kj114 t227 t228 t236 0 0 t228 (t228.length : Int) 0) = some r := by rw [if_pos rfl] at H; exact H
           clear H
           have H := H1
           clear H1
           have H' := Aside0.mk H
           clear H
           obtain ⟨Ao139, co139, eo139⟩ := Kd.S_slice HO_21.out
           subst eo139
           go_wp2
           apply Fc.loop cm2 cm2_ok (fun kq u_ w' => ∃ (x29_4 : Int) (x30_4 : Int) (x235_4 : Int), (u_ 29) = .int .i64 x29_4 ∧ (u_ 30) = .int .i64 x30_4 ∧ (u_ 235) = .int .i64 x235_4 ∧ Aside0 (laws_FnLinesAndHeaps.l0 kq t227 t228 t236 x29_4 x30_4 t228 (t228.length : Int) x235_4 = some r) ∧ Aside0 (kq ≤ kj114) ∧ Aside0 (Kd.S (Kd.slice 3 (Kd.int .i64)) 29 w' w.heap.size (fun _ => True) (.slice Ao139 t228.length co139) t228) ∧ Aside0 (Kd.S (Kd.slice 3 (Kd.int .i64)) 29 w' w.heap.size (fun _ => True) (.slice Ao139 t228.length co139) t228) ∧ Aside0 (Below w.heap.size w w')) kj114
           case atStart => exact ⟨(0), (0), (0), (by first | rfl | (simp [Fc.nth]; done) | (simp [Fc.nth, *]; done)), (by first | rfl | (simp [Fc.nth]; done) | (simp [Fc.nth, *]; done)), (by first | rfl | (simp [Fc.nth]; done) | (simp [Fc.nth, *]; done)), H', ⟨Nat.le_refl _⟩, ⟨by (with_reducible repeat (first | apply Kd.S_alloc | apply Kd.S_drewN | apply Kd.S_drew)); exact HO_21.out⟩, ⟨by (with_reducible repeat (first | apply Kd.S_alloc | apply Kd.S_drewN | apply Kd.S_drew)); exact HO_21.out⟩, ⟨by repeat (first | (with_reducible first | exact HB.out | apply bA_ | apply bN_ | apply bD_) | exact HB.out)⟩⟩
           case round =>
            intro gk u4_ wr hrel _ _ _ _
            (try dsimp only at hrel)
            dsimp only [cm2, Fc.blend]
            generalize u4_ 29 = v29 at hrel ⊢
            generalize u4_ 30 = v30 at hrel ⊢
            generalize u4_ 235 = v235 at hrel ⊢
            clear H'
            try clear c1
            try clear c2
            try clear p2
            try clear q2
            try clear hx2
            try clear qi2
            try clear c3
            try clear c5
            try clear c6
            try clear p6
            try clear c12
            try clear c13
            try clear c21
            try clear p22
            try clear q22
            try clear hx22
            try clear qi22
            try clear c34
            try clear c35
            try clear c36
            try clear c52
            try clear c53
            try clear c54
            try clear c55
            try clear c61
            try clear c62
            try clear c64
            try clear p64
            try clear c121
            try clear c121b0
            try clear c121b1
            try clear c121b2
            try clear c123
            try clear c124
            try clear c124b0
            try clear c124b1
            try clear c124b2
            try clear c127
            try clear c127b0
            try clear c127b1
            try clear c128
            try clear c137
            try clear c138
            try clear hx221_0
            try clear hx222_0
            try clear p2
            try clear p22
            try clear p221
            try clear p222
            try clear p6
            try clear p64
            try clear q2
            try clear q22
            try clear q221
            try clear q222
            obtain ⟨x29_4, x30_4, x235_4, rfl, rfl, rfl, HA, HK4, HO_21, HO_233, HB⟩ := hrel
            cases gk with
            | zero => exact absurd HA.out (by simp [laws_FnLinesAndHeaps.l0])
            | succ k4 =>
             have H := HA.out
             clear HA
             simp only [laws_FnLinesAndHeaps.l0] at H
             by_cases c140 : x235_4 < (t228.length : Int)
             ·rw [if_pos c140] at H
              have c140b0 : decide (x235_4 < (t228.length : Int)) = true := decide_eq_true c140
              clear c140
              by_cases c141 : 0 ≤ x235_4
              ·rw [if_pos c141] at H
               have c141b0 : decide (0 ≤ x235_4) = true := decide_eq_true c141
               clear c141
               by_cases c142 : x235_4 < (t228.length : Int)
               ·rw [if_pos c142] at H
                have c142b0 : decide (x235_4 < (t228.length : Int)) = true := decide_eq_true c142
                clear c142
                by_cases c143 : ((rd_L4 t228 x235_4).length : Int) = 3
                ·rw [if_pos c143] at H
                 have c143b0 : (((rd_L4 t228 x235_4).length : Int) == 3) = true := beq_iff_eq.mpr c143
                 have c143b1 : (((rd_L4 t228 x235_4).length : Int) != 3) = false := bne_eq_false_iff_eq.mpr c143
                 clear c143
                 by_cases c144 : 2 < ((rd_L4 t228 x235_4).length : Int)
                 ·rw [if_pos c144] at H
                  have c144b0 : decide (2 < ((rd_L4 t228 x235_4).length : Int)) = true := decide_eq_true c144
                  have c144b1 : decide (2 < (rd_L4 t228 x235_4).length) = true := decide_eq_true (by omega)
                  clear c144
                  by_cases c145 : (rd (rd_L4 t228 x235_4) 2) < 0
                  ·exact absurd c145 (H8.h_low A111.out (of_decide_eq_true c141b0) (of_decide_eq_true c142b0))
                  ·rw [if_neg c145] at H
                   have c145b0 : decide ((rd (rd_L4 t228 x235_4) 2) < 0) = false := decide_eq_false c145
                   clear c145
                   by_cases c146 : (rd (rd_L4 t228 x235_4) 2) > 3
                   ·exact absurd c146 (H8.h_high A111.out (of_decide_eq_true c141b0) (of_decide_eq_true c142b0))
                   ·rw [if_neg c146] at H
                    have c146b0 : decide (3 < (rd (rd_L4 t228 x235_4) 2)) = false := decide_eq_false c146
                    clear c146
                    by_cases c147 : 0 < ((rd_L4 t228 x235_4).length : Int)
                    ·rw [if_pos c147] at H
                     have c147b0 : decide (0 < ((rd_L4 t228 x235_4).length : Int)) = true := decide_eq_true c147
                     have c147b1 : decide (0 < (rd_L4 t228 x235_4).length) = true := decide_eq_true (by omega)
                     clear c147
                     by_cases c148 : 1 < ((rd_L4 t228 x235_4).length : Int)
                     ·rw [if_pos c148] at H
                      have c148b0 : decide (1 < ((rd_L4 t228 x235_4).length : Int)) = true := decide_eq_true c148
                      have c148b1 : decide (1 < (rd_L4 t228 x235_4).length) = true := decide_eq_true (by omega)
                      clear c148
                      by_cases c149 : (wrap64 ((wrap64 ((rd (rd_L4 t228 x235_4) 0) * (rd (rd_L4 t228 x235_4) 0))) + (wrap64 ((rd (rd_L4 t228 x235_4) 1) * (rd (rd_L4 t228 x235_4) 1))))) > x30_4
                      ·rw [if_pos c149] at H
                       have c149b0 : decide (x30_4 < (wrap64 ((wrap64 ((rd (rd_L4 t228 x235_4) 0) * (rd (rd_L4 t228 x235_4) 0))) + (wrap64 ((rd (rd_L4 t228 x235_4) 1) * (rd (rd_L4 t228 x235_4) 1)))))) = true := decide_eq_true c149
                       clear c149
                       obtain ⟨y252, hy252⟩ : ∃ y_ : List Int, y_ = (([wrap64 (-(rd (rd_L4 t228 x235_4) 1)), rd (rd_L4 t228 x235_4) 0, rd (rd_L4 t228 x235_4) 2] : List Int)) := ⟨_, rfl⟩
                       replace H : ((laws_xPlace.f k4 t228 y252).bind fun t255 => (if t255 < 0 then (some false) else ((laws_xPlace.f k4 t228 (([rd (rd_L4 t228 x235_4) 1, rd (rd_L4 t228 x235_4) 0, rd (rd_L4 t228 x235_4) 2] : List Int))).bind fun t262 => (if t262 < 0 then (some false) else (laws_FnLinesAndHeaps.l0 k4 t227 t228 t236 (wrap64 (x29_4 + (rd (rd_L4 t228 x235_4) 2))) (wrap64 ((wrap64 ((rd (rd_L4 t228 x235_4) 0) * (rd (rd_L4 t228 x235_4) 0))) + (wrap64 ((rd (rd_L4 t228 x235_4) 1) * (rd (rd_L4 t228 x235_4) 1))))) t228 (t228.length : Int) (wrap64 (x235_4 + 1))))))) = some r := by first | (rw [hy252]; with_reducible exact H) | (have H2_ := (Option.bind_some _ _).symm.trans H; rw [hy252]; with_reducible exact H2_) | (have H2_ := (Option.bind_some _ _).symm.trans H; with_reducible exact H2_) | with_reducible exact H | (rw [hy252]; exact H) | exact H
                       have Ny252 := Aside0.mk hy252
                       clear hy252
                       replace H := Option.bind_eq_some_iff.mp H
                       obtain ⟨t255, A1500, H⟩ := H
                       (try dsimp only at H)
                       have A150 := Aside0.mk A1500
                       clear A1500
                       by_cases c151 : t255 < 0
                       ·exact absurd c151 (H8.h_turn A111.out (of_decide_eq_true c141b0) (of_decide_eq_true c142b0) Ny252.out A150.out)
                       ·rw [if_neg c151] at H
                        have c151b0 : decide (t255 < 0) = false := decide_eq_false c151
                        clear c151
                        obtain ⟨y259, hy259⟩ : ∃ y_ : List Int, y_ = (([rd (rd_L4 t228 x235_4) 1, rd (rd_L4 t228 x235_4) 0, rd (rd_L4 t228 x235_4) 2] : List Int)) := ⟨_, rfl⟩
                        replace H : ((laws_xPlace.f k4 t228 y259).bind fun t262 => (if t262 < 0 then (some false) else (laws_FnLinesAndHeaps.l0 k4 t227 t228 t236 (wrap64 (x29_4 + (rd (rd_L4 t228 x235_4) 2))) (wrap64 ((wrap64 ((rd (rd_L4 t228 x235_4) 0) * (rd (rd_L4 t228 x235_4) 0))) + (wrap64 ((rd (rd_L4 t228 x235_4) 1) * (rd (rd_L4 t228 x235_4) 1))))) t228 (t228.length : Int) (wrap64 (x235_4 + 1))))) = some r := by first | (rw [hy259]; with_reducible exact H) | (have H2_ := (Option.bind_some _ _).symm.trans H; rw [hy259]; with_reducible exact H2_) | (have H2_ := (Option.bind_some _ _).symm.trans H; with_reducible exact H2_) | with_reducible exact H | (rw [hy259]; exact H) | exact H
                        have Ny259 := Aside0.mk hy259
                        clear hy259
                        replace H := Option.bind_eq_some_iff.mp H
                        obtain ⟨t262, A1570, H⟩ := H
                        (try dsimp only at H)
                        have A157 := Aside0.mk A1570
                        clear A1570
                        by_cases c158 : t262 < 0
                        ·exact absurd c158 (H8.h_swap A111.out (of_decide_eq_true c141b0) (of_decide_eq_true c142b0) Ny259.out A157.out)
                        ·rw [if_neg c158] at H
                         have c158b0 : decide (t262 < 0) = false := decide_eq_false c158
                         clear c158
                         have H' := Aside0.mk H
                         clear H
                         have p241 : 0 ≤ (x235_4 : Int) := of_decide_eq_true (by first | (with_reducible assumption) | assumption)
                         have q241 : x235_4 < (t228.length : Int) := of_decide_eq_true (by first | (with_reducible assumption) | assumption)
                         obtain ⟨ad241, A241_0, c241_0, e241, hx241_0, hl241_0, hi241_0⟩ := at_L4 (Kd.S_reads' HO_233.out).2.2 x235_4 p241 q241
                         cases e241
                         obtain ⟨ce241, hce241, hMe241, hcc241⟩ := Kd.S_get HO_233.out [] x235_4 p241 (by first | exact q241 | exact of_decide_eq_true (by first | (with_reducible assumption) | assumption) | (have e_ := (Kd.S_reads' HO_233.out).1; omega))
                         obtain ⟨ve241_0, rfl, ge241_0⟩ := hMe241
                         have hv241_0 := hcc241 0 _ rfl
                         rw [Nat.add_zero, show ((Kd.slice 3 (Kd.int .i64))).sz = 1 from rfl, Nat.mul_one] at hv241_0
                         replace hv241_0 := Option.some.inj (hv241_0.symm.trans hx241_0)
                         rw [hv241_0] at ge241_0
                         have HL241_0 := Aside0.mk (show Kd.R (Kd.int .i64) 3 _ _ _ _ (rd_L4 t228 x235_4) from ge241_0)
                         clear hv241_0 ge241_0
                         clear hcc241 hce241
                         have HR241_0 := Aside0.mk hi241_0
                         have HC241_0 := Aside0.mk hl241_0
                         clear hi241_0 hl241_0
                         replace p241 := eq_true p241
                         replace q241 := eq_true q241
                         have p242 : 0 ≤ (2 : Int) := (by omega)
                         have q242 : 2 < ((rd_L4 t228 x235_4).length : Int) := of_decide_eq_true (by first | (with_reducible assumption) | assumption)
                         obtain ⟨ad242, e242, hx242_0⟩ := Kd.at_int (by repeat (first | (with_reducible exact HR241_0.out) | (with_reducible refine Kd.C_alloc ?_ _) | (with_reducible refine Kd.C_drewN ?_ _) | (with_reducible refine Kd.C_drew ?_) | exact HR241_0.out)) 2 p242 q242
                         cases e242
                         (try simp only [show (2 : Int).toNat = 2 from rfl, Nat.reduceMul, Nat.reduceEqDiff, Go.Addr.add, ↓reduceIte] at hx242_0)
                         have qi242 : (2 < (rd_L4 t228 x235_4).length) = True := eq_true (by omega)
                         (try rw [show ((2 : Int)).toNat = 2 from rfl] at hx242_0)
                         replace p242 := eq_true p242
                         replace q242 := eq_true q242
                         have p243 : 0 ≤ (2 : Int) := (by omega)
                         have q243 : 2 < ((rd_L4 t228 x235_4).length : Int) := of_decide_eq_true (by first | (with_reducible assumption) | assumption)
                         obtain ⟨ad243, e243, hx243_0⟩ := Kd.at_int (by repeat (first | (with_reducible exact HR241_0.out) | (with_reducible refine Kd.C_alloc ?_ _) | (with_reducible refine Kd.C_drewN ?_ _) | (with_reducible refine Kd.C_drew ?_) | exact HR241_0.out)) 2 p243 q243
                         obtain rfl : ad242 = ad243 := (by injection e243)
                         (try simp only [show (2 : Int).toNat = 2 from rfl, Nat.reduceMul, Nat.reduceEqDiff, Go.Addr.add, ↓reduceIte] at hx243_0)
                         have qi243 : (2 < (rd_L4 t228 x235_4).length) = True := eq_true (by omega)
                         (try rw [show ((2 : Int)).toNat = 2 from rfl] at hx243_0)
                         replace p243 := eq_true p243
                         replace q243 := eq_true q243
                         have p244 : 0 ≤ (2 : Int) := (by omega)
                         have q244 : 2 < ((rd_L4 t228 x235_4).length : Int) := of_decide_eq_true (by first | (with_reducible assumption) | assumption)
                         obtain ⟨ad244, e244, hx244_0⟩ := Kd.at_int (by repeat (first | (with_reducible exact HR241_0.out) | (with_reducible refine Kd.C_alloc ?_ _) | (with_reducible refine Kd.C_drewN ?_ _) | (with_reducible refine Kd.C_drew ?_) | exact HR241_0.out)) 2 p244 q244
                         obtain rfl : ad242 = ad244 := (by injection e244)
                         (try simp only [show (2 : Int).toNat = 2 from rfl, Nat.reduceMul, Nat.reduceEqDiff, Go.Addr.add, ↓reduceIte] at hx244_0)
                         have qi244 : (2 < (rd_L4 t228 x235_4).length) = True := eq_true (by omega)
                         (try rw [show ((2 : Int)).toNat = 2 from rfl] at hx244_0)
                         replace p244 := eq_true p244
                         replace q244 := eq_true q244
                         try go_wp2
                         have n0_ := Aside0.mk (Kd.S_drew HO_21.out)
                         have n1_ := Aside0.mk (Kd.S_drew HO_233.out)
                         have n2_ := Aside0.mk (Kd.R_drew HL241_0.out)
                         have n3_ := Aside0.mk (Kd.C_drew HR241_0.out)
                         have n4_ := Aside0.mk (bD_ HB.out)
                         clear HO_21
                         clear HO_233
                         clear HL241_0
                         clear HR241_0
                         clear HB
                         have HO_21 := n0_
                         have HO_233 := n1_
                         have HL241_0 := n2_
                         have HR241_0 := n3_
                         have HB := n4_
                         clear n0_ n1_ n2_ n3_ n4_
                         have p245 : 0 ≤ (0 : Int) := (by omega)
                         have q245 : 0 < ((rd_L4 t228 x235_4).length : Int) := of_decide_eq_true (by first | (with_reducible assumption) | assumption)
                         obtain ⟨ad245, e245, hx245_0⟩ := Kd.at_int (by repeat (first | (with_reducible exact HR241_0.out) | (with_reducible refine Kd.C_alloc ?_ _) | (with_reducible refine Kd.C_drewN ?_ _) | (with_reducible refine Kd.C_drew ?_) | exact HR241_0.out)) 0 p245 q245
                         obtain rfl : ad242 = ad245 := (by injection e245)
                         have qi245 : (0 < (rd_L4 t228 x235_4).length) = True := eq_true (by omega)
                         (try rw [show ((0 : Int)).toNat = 0 from rfl] at hx245_0)
                         (try rw [Addr.add_zero'] at hx245_0)
                         replace p245 := eq_true p245
                         replace q245 := eq_true q245
                         have p246 : 0 ≤ (0 : Int) := (by omega)
                         have q246 : 0 < ((rd_L4 t228 x235_4).length : Int) := of_decide_eq_true (by first | (with_reducible assumption) | assumption)
                         obtain ⟨ad246, e246, hx246_0⟩ := Kd.at_int (by repeat (first | (with_reducible exact HR241_0.out) | (with_reducible refine Kd.C_alloc ?_ _) | (with_reducible refine Kd.C_drewN ?_ _) | (with_reducible refine Kd.C_drew ?_) | exact HR241_0.out)) 0 p246 q246
                         obtain rfl : ad242 = ad246 := (by injection e246)
                         have qi246 : (0 < (rd_L4 t228 x235_4).length) = True := eq_true (by omega)
                         (try rw [show ((0 : Int)).toNat = 0 from rfl] at hx246_0)
                         (try rw [Addr.add_zero'] at hx246_0)
                         replace p246 := eq_true p246
                         replace q246 := eq_true q246
                         have p247 : 0 ≤ (1 : Int) := (by omega)
                         have q247 : 1 < ((rd_L4 t228 x235_4).length : Int) := of_decide_eq_true (by first | (with_reducible assumption) | assumption)
                         obtain ⟨ad247, e247, hx247_0⟩ := Kd.at_int (by repeat (first | (with_reducible exact HR241_0.out) | (with_reducible refine Kd.C_alloc ?_ _) | (with_reducible refine Kd.C_drewN ?_ _) | (with_reducible refine Kd.C_drew ?_) | exact HR241_0.out)) 1 p247 q247
                         obtain rfl : ad242 = ad247 := (by injection e247)
                         (try simp only [show (1 : Int).toNat = 1 from rfl, Nat.reduceMul, Nat.reduceEqDiff, Go.Addr.add, ↓reduceIte] at hx247_0)
                         have qi247 : (1 < (rd_L4 t228 x235_4).length) = True := eq_true (by omega)
                         (try rw [show ((1 : Int)).toNat = 1 from rfl] at hx247_0)
                         replace p247 := eq_true p247
                         replace q247 := eq_true q247
                         have p248 : 0 ≤ (1 : Int) := (by omega)
                         have q248 : 1 < ((rd_L4 t228 x235_4).length : Int) := of_decide_eq_true (by first | (with_reducible assumption) | assumption)
                         obtain ⟨ad248, e248, hx248_0⟩ := Kd.at_int (by repeat (first | (with_reducible exact HR241_0.out) | (with_reducible refine Kd.C_alloc ?_ _) | (with_reducible refine Kd.C_drewN ?_ _) | (with_reducible refine Kd.C_drew ?_) | exact HR241_0.out)) 1 p248 q248
                         obtain rfl : ad242 = ad248 := (by injection e248)
                         (try simp only [show (1 : Int).toNat = 1 from rfl, Nat.reduceMul, Nat.reduceEqDiff, Go.Addr.add, ↓reduceIte] at hx248_0)
                         have qi248 : (1 < (rd_L4 t228 x235_4).length) = True := eq_true (by omega)
                         (try rw [show ((1 : Int)).toNat = 1 from rfl] at hx248_0)
                         replace p248 := eq_true p248
                         replace q248 := eq_true q248
                         refine start_ (n := 16) (S := fun w' => w'.cell? ad242 = some (.int .i64 (rd (rd_L4 t228 x235_4) 0)) ∧ w'.cell? ad242 = some (.int .i64 (rd (rd_L4 t228 x235_4) 0)) ∧ w'.cell? ⟨ad242.block, ad242.off + 1, none⟩ = some (.int .i64 (rd (rd_L4 t228 x235_4) 1)) ∧ w'.cell? ⟨ad242.block, ad242.off + 1, none⟩ = some (.int .i64 (rd (rd_L4 t228 x235_4) 1))) (ds := []) #[false, false, false, false, false, false, false, false, false, false, false, false, false, false, false, false] (by kernel_rfl) rfl rfl ⟨hx245_0, hx246_0, hx247_0, hx248_0⟩ (fun hHeld => ?_); refine with_tabW laws_FnLinesAndHeaps.tab33 laws_FnLinesAndHeaps.bits33 (fun HT_ HW_ => ?_)
                         generalize wr.drew = w167 at HO_21 HO_233 HL241_0 HR241_0 HB hx245_0 hx246_0 hx247_0 hx248_0 hHeld ⊢
                         refine pu_ (i := 0) (N := some 259) (v := ?_) (a' := ?_) HT_.out rfl rfl (Or.inl ⟨by rfl, ?_⟩) ?_ ?_
                         rotate_left
                         ·intro w'
                          go_simp
                          with_reducible rfl
                         rotate_left
                         ·simp only [sp_]
                          rfl
                         refine pu_ (i := 1) (N := some 260) (v := ?_) (a' := ?_) HT_.out rfl rfl (Or.inl ⟨by rfl, ?_⟩) ?_ ?_
                         rotate_left
                         ·intro w'
                          go_simp
                          with_reducible rfl
                         rotate_left
                         ·simp only [sp_]
                          rfl
                         refine pu_ (i := 3) (N := some 262) (v := ?_) (a' := ?_) HT_.out rfl rfl (Or.inl ⟨by rfl, ?_⟩) ?_ ?_
                         rotate_left
                         ·intro w'
                          go_simp
                          with_reducible rfl
                         rotate_left
                         ·simp only [sp_]
                          rfl
                         refine pu_ (i := 4) (N := some 263) (v := ?_) (a' := ?_) HT_.out rfl rfl (Or.inl ⟨by rfl, ?_⟩) ?_ ?_
                         rotate_left
                         ·intro w'
                          go_simp
                          with_reducible rfl
                         rotate_left
                         ·simp only [sp_]
                          rfl
                         refine pu_ (i := 7) (N := some 266) (v := ?_) (a' := ?_) HT_.out rfl rfl (Or.inl ⟨by rfl, ?_⟩) ?_ ?_
                         rotate_left
                         ·intro w'
                          go_simp
                          with_reducible rfl
                         rotate_left
                         ·simp only [sp_]
                          rfl
                         refine pu_ (i := 8) (N := some 267) (v := ?_) (a' := ?_) HT_.out rfl rfl (Or.inl ⟨by rfl, ?_⟩) ?_ ?_
                         rotate_left
                         ·intro w'
                          go_simp
                          with_reducible rfl
                         rotate_left
                         ·simp only [sp_]
                          rfl
                         refine pu_ (i := 10) (N := some 269) (v := ?_) (a' := ?_) HT_.out rfl rfl (Or.inl ⟨by rfl, ?_⟩) ?_ ?_
                         rotate_left
                         ·intro w'
                          go_simp
                          with_reducible rfl
                         rotate_left
                         ·simp only [sp_]
                          rfl
                         refine pu_ (i := 11) (N := some 270) (v := ?_) (a' := ?_) HT_.out rfl rfl (Or.inl ⟨by rfl, ?_⟩) ?_ ?_
                         rotate_left
                         ·intro w'
                          go_simp
                          with_reducible rfl
                         rotate_left
                         ·simp only [sp_]
                          rfl
                         refine tk_ (i := 2) (N := some 261) (v := ?_) (a' := ?_) HT_.out HW_.out rfl rfl (Or.inl ⟨by rfl, ?_⟩) hHeld ?_ ?_
                         rotate_left
                         ·rintro w' ⟨s0, s1, s2, s3⟩
                          go_simp
                          with_reducible rfl
                         rotate_left
                         ·simp only [sp_]
                          rfl
                         refine tk_ (i := 5) (N := some 264) (v := ?_) (a' := ?_) HT_.out HW_.out rfl rfl (Or.inl ⟨by rfl, ?_⟩) hHeld ?_ ?_
                         rotate_left
                         ·rintro w' ⟨s0, s1, s2, s3⟩
                          go_simp
                          with_reducible rfl
                         rotate_left
                         ·simp only [sp_]
                          rfl
                         refine pu_ (i := 6) (N := some 265) (v := ?_) (a' := ?_) HT_.out rfl rfl (Or.inl ⟨by rfl, ?_⟩) ?_ ?_
                         rotate_left
                         ·intro w'
                          go_simp
                          with_reducible rfl
                         rotate_left
                         ·simp only [sp_]
                          rfl
                         refine tk_ (i := 9) (N := some 268) (v := ?_) (a' := ?_) HT_.out HW_.out rfl rfl (Or.inl ⟨by rfl, ?_⟩) hHeld ?_ ?_
                         rotate_left
                         ·rintro w' ⟨s0, s1, s2, s3⟩
                          go_simp
                          with_reducible rfl
                         rotate_left
                         ·simp only [sp_]
                          rfl
                         refine tk_ (i := 12) (N := some 271) (v := ?_) (a' := ?_) HT_.out HW_.out rfl rfl (Or.inl ⟨by rfl, ?_⟩) hHeld ?_ ?_
                         rotate_left
                         ·rintro w' ⟨s0, s1, s2, s3⟩
                          go_simp
                          with_reducible rfl
                         rotate_left
                         ·simp only [sp_]
                          rfl
                         refine pu_ (i := 13) (N := some 272) (v := ?_) (a' := ?_) HT_.out rfl rfl (Or.inl ⟨by rfl, ?_⟩) ?_ ?_
                         rotate_left
                         ·intro w'
                          go_simp
                          with_reducible rfl
                         rotate_left
                         ·simp only [sp_]
                          rfl
                         refine pu_ (i := 14) (N := some 273) (v := ?_) (a' := ?_) HT_.out rfl rfl (Or.inl ⟨by rfl, ?_⟩) ?_ ?_
                         rotate_left
                         ·intro w'
                          go_simp
                          with_reducible rfl
                         rotate_left
                         ·simp only [sp_]
                          rfl
                         refine pu_ (i := 15) (N := some 33) (v := ?_) (a' := ?_) HT_.out rfl rfl (Or.inl ⟨by rfl, ?_⟩) ?_ ?_
                         rotate_left
                         ·intro w'
                          go_simp
                          with_reducible rfl
                         rotate_left
                         ·simp only [sp_]
                          rfl
                         refine done_ (done_of HT_.out (by kernel_rfl)) ?_
                         try go_wp2
                         have n0_ := Aside0.mk (Kd.S_drew HO_21.out)
                         have n1_ := Aside0.mk (Kd.S_drew HO_233.out)
                         have n2_ := Aside0.mk (Kd.R_drew HL241_0.out)
                         have n3_ := Aside0.mk (Kd.C_drew HR241_0.out)
                         have n4_ := Aside0.mk (bD_ HB.out)
                         clear HO_21
                         clear HO_233
                         clear HL241_0
                         clear HR241_0
                         clear HB
                         have HO_21 := n0_
                         have HO_233 := n1_
                         have HL241_0 := n2_
                         have HR241_0 := n3_
                         have HB := n4_
                         clear n0_ n1_ n2_ n3_ n4_
                         have p249 : 0 ≤ (1 : Int) := (by omega)
                         have q249 : 1 < ((rd_L4 t228 x235_4).length : Int) := of_decide_eq_true (by first | (with_reducible assumption) | assumption)
                         obtain ⟨ad249, e249, hx249_0⟩ := Kd.at_int (by repeat (first | (with_reducible exact HR241_0.out) | (with_reducible refine Kd.C_alloc ?_ _) | (with_reducible refine Kd.C_drewN ?_ _) | (with_reducible refine Kd.C_drew ?_) | exact HR241_0.out)) 1 p249 q249
                         obtain rfl : ad242 = ad249 := (by injection e249)
                         (try simp only [show (1 : Int).toNat = 1 from rfl, Nat.reduceMul, Nat.reduceEqDiff, Go.Addr.add, ↓reduceIte] at hx249_0)
                         have qi249 : (1 < (rd_L4 t228 x235_4).length) = True := eq_true (by omega)
                         (try rw [show ((1 : Int)).toNat = 1 from rfl] at hx249_0)
                         replace p249 := eq_true p249
                         replace q249 := eq_true q249
                         have p250 : 0 ≤ (0 : Int) := (by omega)
                         have q250 : 0 < ((rd_L4 t228 x235_4).length : Int) := of_decide_eq_true (by first | (with_reducible assumption) | assumption)
                         obtain ⟨ad250, e250, hx250_0⟩ := Kd.at_int (by repeat (first | (with_reducible exact HR241_0.out) | (with_reducible refine Kd.C_alloc ?_ _) | (with_reducible refine Kd.C_drewN ?_ _) | (with_reducible refine Kd.C_drew ?_) | exact HR241_0.out)) 0 p250 q250
                         obtain rfl : ad242 = ad250 := (by injection e250)
                         have qi250 : (0 < (rd_L4 t228 x235_4).length) = True := eq_true (by omega)
                         (try rw [show ((0 : Int)).toNat = 0 from rfl] at hx250_0)
                         (try rw [Addr.add_zero'] at hx250_0)
                         replace p250 := eq_true p250
                         replace q250 := eq_true q250
                         have p251 : 0 ≤ (2 : Int) := (by omega)
                         have q251 : 2 < ((rd_L4 t228 x235_4).length : Int) := of_decide_eq_true (by first | (with_reducible assumption) | assumption)
                         obtain ⟨ad251, e251, hx251_0⟩ := Kd.at_int (by repeat (first | (with_reducible exact HR241_0.out) | (with_reducible refine Kd.C_alloc ?_ _) | (with_reducible refine Kd.C_drewN ?_ _) | (with_reducible refine Kd.C_drew ?_) | exact HR241_0.out)) 2 p251 q251
                         obtain rfl : ad242 = ad251 := (by injection e251)
                         (try simp only [show (2 : Int).toNat = 2 from rfl, Nat.reduceMul, Nat.reduceEqDiff, Go.Addr.add, ↓reduceIte] at hx251_0)
                         have qi251 : (2 < (rd_L4 t228 x235_4).length) = True := eq_true (by omega)
                         (try rw [show ((2 : Int)).toNat = 2 from rfl] at hx251_0)
                         replace p251 := eq_true p251
                         replace q251 := eq_true q251
                         refine start_ (n := 29) (S := fun w' => w'.cell? ⟨ad242.block, ad242.off + 1, none⟩ = some (.int .i64 (rd (rd_L4 t228 x235_4) 1)) ∧ w'.cell? ad242 = some (.int .i64 (rd (rd_L4 t228 x235_4) 0)) ∧ w'.cell? ⟨ad242.block, ad242.off + 2, none⟩ = some (.int .i64 (rd (rd_L4 t228 x235_4) 2)) ∧ w'.cell? ⟨ad242.block, ad242.off + 1, none⟩ = some (.int .i64 (rd (rd_L4 t228 x235_4) 1)) ∧ w'.cell? ad242 = some (.int .i64 (rd (rd_L4 t228 x235_4) 0)) ∧ w'.cell? ⟨ad242.block, ad242.off + 2, none⟩ = some (.int .i64 (rd (rd_L4 t228 x235_4) 2))) (ds := []) #[false, false, false, false, false, false, false, false, false, false, false, false, false, false, false, false, false, false, false, false, false, false, false, false, false, false, false, false, false] (by kernel_rfl) rfl rfl ⟨hx249_0, hx250_0, hx251_0, hx249_0, hx250_0, hx251_0⟩ (fun hHeld => ?_); refine with_tabW laws_FnLinesAndHeaps.tab36 laws_FnLinesAndHeaps.bits36 (fun HT_ HW_ => ?_)
                         generalize w167.drew = w168 at HO_21 HO_233 HL241_0 HR241_0 HB hx249_0 hx250_0 hx251_0 hHeld ⊢
                         refine pu_ (i := 0) (N := some 278) (v := ?_) (a' := ?_) HT_.out rfl rfl (Or.inl ⟨by rfl, ?_⟩) ?_ ?_
                         rotate_left
                         ·intro w'
                          go_simp
                          with_reducible rfl
                         rotate_left
                         ·simp only [sp_]
                          rfl
                         refine pu_ (i := 1) (N := some 279) (v := ?_) (a' := ?_) HT_.out rfl rfl (Or.inl ⟨by rfl, ?_⟩) ?_ ?_
                         rotate_left
                         ·intro w'
                          go_simp
                          with_reducible rfl
                         rotate_left
                         ·simp only [sp_]
                          rfl
                         refine pu_ (i := 2) (N := some 280) (v := ?_) (a' := ?_) HT_.out rfl rfl (Or.inl ⟨by rfl, ?_⟩) ?_ ?_
                         rotate_left
                         ·intro w'
                          go_simp
                          with_reducible rfl
                         rotate_left
                         ·simp only [sp_]
                          rfl
                         refine pu_ (i := 5) (N := some 283) (v := ?_) (a' := ?_) HT_.out rfl rfl (Or.inl ⟨by rfl, ?_⟩) ?_ ?_
                         rotate_left
                         ·intro w'
                          go_simp
                          with_reducible rfl
                         rotate_left
                         ·simp only [sp_]
                          rfl
                         refine pu_ (i := 6) (N := some 284) (v := ?_) (a' := ?_) HT_.out rfl rfl (Or.inl ⟨by rfl, ?_⟩) ?_ ?_
                         rotate_left
                         ·intro w'
                          go_simp
                          with_reducible rfl
                         rotate_left
                         ·simp only [sp_]
                          rfl
                         refine pu_ (i := 8) (N := some 286) (v := ?_) (a' := ?_) HT_.out rfl rfl (Or.inl ⟨by rfl, ?_⟩) ?_ ?_
                         rotate_left
                         ·intro w'
                          go_simp
                          with_reducible rfl
                         rotate_left
                         ·simp only [sp_]
                          rfl
                         refine pu_ (i := 9) (N := some 287) (v := ?_) (a' := ?_) HT_.out rfl rfl (Or.inl ⟨by rfl, ?_⟩) ?_ ?_
                         rotate_left
                         ·intro w'
                          go_simp
                          with_reducible rfl
                         rotate_left
                         ·simp only [sp_]
                          rfl
                         refine tk_ (i := 3) (N := some 281) (v := ?_) (a' := ?_) HT_.out HW_.out rfl rfl (Or.inl ⟨by rfl, ?_⟩) hHeld ?_ ?_
                         rotate_left
                         ·rintro w' ⟨s0, s1, s2, s3, s4, s5⟩
                          go_simp
                          with_reducible rfl
                         rotate_left
                         ·simp only [sp_]
                          rfl
                         refine pu_ (i := 4) (N := some 282) (v := ?_) (a' := ?_) HT_.out rfl rfl (Or.inl ⟨by rfl, ?_⟩) ?_ ?_
                         rotate_left
                         ·intro w'
                          go_simp
                          with_reducible rfl
                         rotate_left
                         ·simp only [sp_]
                          rfl
                         refine tk_ (i := 7) (N := some 285) (v := ?_) (a' := ?_) HT_.out HW_.out rfl rfl (Or.inl ⟨by rfl, ?_⟩) hHeld ?_ ?_
                         rotate_left
                         ·rintro w' ⟨s0, s1, s2, s3, s4, s5⟩
                          go_simp
                          with_reducible rfl
                         rotate_left
                         ·simp only [sp_]
                          rfl
                         refine tk_ (i := 10) (N := some 288) (v := ?_) (a' := ?_) HT_.out HW_.out rfl rfl (Or.inl ⟨by rfl, ?_⟩) hHeld ?_ ?_
                         rotate_left
                         ·rintro w' ⟨s0, s1, s2, s3, s4, s5⟩
                          go_simp
                          with_reducible rfl
                         rotate_left
                         ·simp only [sp_]
                          rfl
                         refine one_ (i := 11) (N := some 289) #[true, true, true, true, true, true, true, true, true, true, true, true, false, false, false, false, false, false, false, false, false, false, false, false, false, false, false, false, false] rfl rfl (one_of HT_.out (by kernel_rfl)) (by decide) (fun K hK => ?_)
                         refine Kd.R_lit_step (Kd.int .i64) _ 3 ?hg (N := 289) ?hd (xs := ([wrap64 (-(rd (rd_L4 t228 x235_4) 1)), rd (rd_L4 t228 x235_4) 0, rd (rd_L4 t228 x235_4) 2] : List Int)) (inner := [.int .i64 (wrap64 (-(rd (rd_L4 t228 x235_4) 1))), .int .i64 (rd (rd_L4 t228 x235_4) 0), .int .i64 (rd (rd_L4 t228 x235_4) 2)]) (ok := fun _ => True) (okp := fun _ => True) ?hr ?hp (fun _ hk => hk) trivial (Below.refl _ _) (Nat.le_refl _) (by simp) ?_; (case hd => rfl); (case hg => rfl); (case hr => first | (go_simp; done) | (go_simp; rfl)); (case hp => exact (Reps.one (show Kd.M (Kd.int .i64) _ _ _ (wrap64 (-(rd (rd_L4 t228 x235_4) 1))) [.int .i64 (wrap64 (-(rd (rd_L4 t228 x235_4) 1)))] from rfl) (Reps.one (show Kd.M (Kd.int .i64) _ _ _ (rd (rd_L4 t228 x235_4) 0) [.int .i64 (rd (rd_L4 t228 x235_4) 0)] from rfl) (Reps.one (show Kd.M (Kd.int .i64) _ _ _ (rd (rd_L4 t228 x235_4) 2) [.int .i64 (rd (rd_L4 t228 x235_4) 2)] from rfl) (Reps.none _ _)))))
                         intro v253 w169 ho170 hb hg_ hnew_
                         have HS0_ := (hb.cell (World.block_lt_of_cell? _ _ (hHeld.1))).trans (hHeld.1)
                         have HS1_ := (hb.cell (World.block_lt_of_cell? _ _ (hHeld.2.1))).trans (hHeld.2.1)
                         have HS2_ := (hb.cell (World.block_lt_of_cell? _ _ (hHeld.2.2.1))).trans (hHeld.2.2.1)
                         have HS3_ := (hb.cell (World.block_lt_of_cell? _ _ (hHeld.2.2.2.1))).trans (hHeld.2.2.2.1)
                         have HS4_ := (hb.cell (World.block_lt_of_cell? _ _ (hHeld.2.2.2.2.1))).trans (hHeld.2.2.2.2.1)
                         have HS5_ := (hb.cell (World.block_lt_of_cell? _ _ (hHeld.2.2.2.2.2))).trans (hHeld.2.2.2.2.2)
                         clear hg_ hnew_
                         (first | rw [← Ny252.out] at ho170 | (simp only [Int.reduceToNat] at ho170; rw [← Ny252.out] at ho170))
                         have n0_ := Aside0.mk (Kd.S_elder' (by (with_reducible repeat (first | apply Kd.S_alloc | apply Kd.S_drewN | apply Kd.S_drew)); exact HO_21.out) (Kd.R_base ho170) hb)
                         have n1_ := Aside0.mk (Kd.S_elder' (by (with_reducible repeat (first | apply Kd.S_alloc | apply Kd.S_drewN | apply Kd.S_drew)); exact HO_233.out) (Kd.R_base ho170) hb)
                         have n2_ := Aside0.mk (Kd.R_elder' (by (with_reducible repeat (first | apply Kd.R_alloc | apply Kd.R_drewN | apply Kd.R_drew)); exact HL241_0.out) (Kd.R_base ho170) hb)
                         have n3_ := Aside0.mk (Kd.R_lower (Kd.R_new' ho170 (Kd.R_lt (by (with_reducible repeat (first | apply Kd.R_alloc | apply Kd.R_drewN | apply Kd.R_drew)); exact HL241_0.out))) (bZ_ (by repeat (first | (with_reducible first | exact HB.out | apply bA_ | apply bN_ | apply bD_) | exact HB.out))))
                         have n4_ := Aside0.mk (Kd.C_below (by first | with_reducible exact HR241_0.out | with_reducible exact Kd.C_drewN HR241_0.out _ | with_reducible exact Kd.C_drew HR241_0.out | repeat (first | (with_reducible exact HR241_0.out) | (with_reducible refine Kd.C_alloc ?_ _) | (with_reducible refine Kd.C_drewN ?_ _) | (with_reducible refine Kd.C_drew ?_) | exact HR241_0.out)) hb)
                         have n5_ := Aside0.mk (bP_ (by repeat (first | (with_reducible first | exact HB.out | apply bA_ | apply bN_ | apply bD_) | exact HB.out)) hb)
                         clear HO_21
                         clear HO_233
                         clear HL241_0
                         clear HR241_0
                         clear HB
                         have HO_21 := n0_
                         have HO_233 := n1_
                         have HL241_0 := n2_
                         have HO254 := n3_
                         have HR241_0 := n4_
                         have HB := n5_
                         clear n0_ n1_ n2_ n3_ n4_ n5_
                         clear hb ho170
                         obtain ⟨Ao171, co171, eo171⟩ := Kd.R_slice HO254.out
                         (first | subst eo171 | (injection eo171 with f1_ f2_ f3_; have f4_ := f1_.symm; have f5_ := f3_.symm; clear f1_ f2_ f3_; subst f4_; subst f5_))
                         refine hK.out _ _ ⟨HS0_, HS1_, HS2_, HS3_, HS4_, HS5_⟩ (fun hHeld => ?_)
                         clear hK K
                         refine norm_ (a' := ?_) ?_ ?_
                         rotate_left
                         ·show Act.put _ (some 289) _ = _
                          simp only [sp_]
                          rfl
                         refine one_ (i := 12) (N := some 290) #[true, true, true, true, true, true, true, true, true, true, true, true, true, false, false, false, false, false, false, false, false, false, false, false, false, false, false, false, false] rfl rfl (one_of HT_.out (by kernel_rfl)) (by decide) (fun K hK => ?_)
                         refine goes_ Try.func46 (by kernel_rfl) rfl #[.slice (some ad241) t228.length co139, .slice Ao171 y252.length co171] (by rfl) rfl rfl (by (try simp only [List.map_toArray, List.map_cons, List.map_nil]); first | done | rfl | (simp only [List.length_drop, List.length_take]; rfl)) ?_
                         with_reducible refine (laws_xPlace.calls k4 _ _ t228 _ _ y252 t255 _ ?side1 ?side2 ?side3 ?side4 A150.out).mono ?_
                         (case side1 => repeat (first | exact (Kd.S_reads' HO_21.out).2.2 | (with_reducible refine Kd.C_alloc ?_ _) | (with_reducible refine Kd.C_drewN ?_ _) | (with_reducible refine Kd.C_drew ?_)))
                         (case side2 => exact (Kd.S_reads' HO_21.out).2.1)
                         (case side3 => repeat (first | exact (Kd.R_reads' HO254.out).2.2 | (with_reducible refine Kd.C_alloc ?_ _) | (with_reducible refine Kd.C_drewN ?_ _) | (with_reducible refine Kd.C_drew ?_)))
                         (case side4 => exact (Kd.R_reads' HO254.out).2.1)
                         rintro e w' ⟨rfl, ⟨nd, rfl⟩⟩
                         refine ⟨_, rfl, ?_⟩
                         have p256 : 0 ≤ (1 : Int) := (by omega)
                         have q256 : 1 < ((rd_L4 t228 x235_4).length : Int) := of_decide_eq_true (by first | (with_reducible assumption) | assumption)
                         obtain ⟨ad256, e256, hx256_0⟩ := Kd.at_int (by repeat (first | (with_reducible exact HR241_0.out) | (with_reducible refine Kd.C_alloc ?_ _) | (with_reducible refine Kd.C_drewN ?_ _) | (with_reducible refine Kd.C_drew ?_) | exact HR241_0.out)) 1 p256 q256
                         obtain rfl : ad242 = ad256 := (by injection e256)
                         (try simp only [show (1 : Int).toNat = 1 from rfl, Nat.reduceMul, Nat.reduceEqDiff, Go.Addr.add, ↓reduceIte] at hx256_0)
                         have qi256 : (1 < (rd_L4 t228 x235_4).length) = True := eq_true (by omega)
                         (try rw [show ((1 : Int)).toNat = 1 from rfl] at hx256_0)
                         replace p256 := eq_true p256
                         replace q256 := eq_true q256
                         have p257 : 0 ≤ (0 : Int) := (by omega)
                         have q257 : 0 < ((rd_L4 t228 x235_4).length : Int) := of_decide_eq_true (by first | (with_reducible assumption) | assumption)
                         obtain ⟨ad257, e257, hx257_0⟩ := Kd.at_int (by repeat (first | (with_reducible exact HR241_0.out) | (with_reducible refine Kd.C_alloc ?_ _) | (with_reducible refine Kd.C_drewN ?_ _) | (with_reducible refine Kd.C_drew ?_) | exact HR241_0.out)) 0 p257 q257
                         obtain rfl : ad242 = ad257 := (by injection e257)
                         have qi257 : (0 < (rd_L4 t228 x235_4).length) = True := eq_true (by omega)
                         (try rw [show ((0 : Int)).toNat = 0 from rfl] at hx257_0)
                         (try rw [Addr.add_zero'] at hx257_0)
                         replace p257 := eq_true p257
                         replace q257 := eq_true q257
                         have p258 : 0 ≤ (2 : Int) := (by omega)
                         have q258 : 2 < ((rd_L4 t228 x235_4).length : Int) := of_decide_eq_true (by first | (with_reducible assumption) | assumption)
                         obtain ⟨ad258, e258, hx258_0⟩ := Kd.at_int (by repeat (first | (with_reducible exact HR241_0.out) | (with_reducible refine Kd.C_alloc ?_ _) | (with_reducible refine Kd.C_drewN ?_ _) | (with_reducible refine Kd.C_drew ?_) | exact HR241_0.out)) 2 p258 q258
                         obtain rfl : ad242 = ad258 := (by injection e258)
                         (try simp only [show (2 : Int).toNat = 2 from rfl, Nat.reduceMul, Nat.reduceEqDiff, Go.Addr.add, ↓reduceIte] at hx258_0)
                         have qi258 : (2 < (rd_L4 t228 x235_4).length) = True := eq_true (by omega)
                         (try rw [show ((2 : Int)).toNat = 2 from rfl] at hx258_0)
                         replace p258 := eq_true p258
                         replace q258 := eq_true q258
                         refine hK.out _ _ ⟨hHeld.1, hHeld.2.1, hHeld.2.2.1, hHeld.2.2.2.1, hHeld.2.2.2.2.1, hHeld.2.2.2.2.2⟩ (fun hHeld => ?_)
                         clear hK K
                         refine norm_ (a' := ?_) ?_ ?_
                         rotate_left
                         ·show Act.put _ (some 290) _ = _
                          simp only [sp_]
                          rfl
                         refine pu_ (i := 13) (N := some 291) (v := ?_) (a' := ?_) HT_.out rfl rfl (Or.inl ⟨by rfl, ?_⟩) ?_ ?_
                         rotate_left
                         ·intro w'
                          go_simp
                          with_reducible rfl
                         rotate_left
                         ·simp only [sp_]
                          rfl
                         refine pu_ (i := 14) (N := some 292) (v := ?_) (a' := ?_) HT_.out rfl rfl (Or.inl ⟨by rfl, ?_⟩) ?_ ?_
                         rotate_left
                         ·intro w'
                          go_simp
                          with_reducible rfl
                         rotate_left
                         ·simp only [sp_]
                          rfl
                         refine pu_ (i := 15) (N := some 293) (v := ?_) (a' := ?_) HT_.out rfl rfl (Or.inl ⟨by rfl, ?_⟩) ?_ ?_
                         rotate_left
                         ·intro w'
                          go_simp
                          with_reducible rfl
                         rotate_left
                         ·simp only [sp_]
                          rfl
                         refine pu_ (i := 16) (N := some 294) (v := ?_) (a' := ?_) HT_.out rfl rfl (Or.inl ⟨by rfl, ?_⟩) ?_ ?_
                         rotate_left
                         ·intro w'
                          go_simp
                          with_reducible rfl
                         rotate_left
                         ·simp only [sp_]
                          rfl
                         refine pu_ (i := 17) (N := some 295) (v := ?_) (a' := ?_) HT_.out rfl rfl (Or.inl ⟨by rfl, ?_⟩) ?_ ?_
                         rotate_left
                         ·intro w'
                          go_simp
                          with_reducible rfl
                         rotate_left
                         ·simp only [sp_]
                          rfl
                         refine pu_ (i := 19) (N := some 297) (v := ?_) (a' := ?_) HT_.out rfl rfl (Or.inl ⟨by rfl, ?_⟩) ?_ ?_
                         rotate_left
                         ·intro w'
                          go_simp
                          with_reducible rfl
                         rotate_left
                         ·simp only [sp_]
                          rfl
                         refine pu_ (i := 20) (N := some 298) (v := ?_) (a' := ?_) HT_.out rfl rfl (Or.inl ⟨by rfl, ?_⟩) ?_ ?_
                         rotate_left
                         ·intro w'
                          go_simp
                          with_reducible rfl
                         rotate_left
                         ·simp only [sp_]
                          rfl
                         refine pu_ (i := 22) (N := some 300) (v := ?_) (a' := ?_) HT_.out rfl rfl (Or.inl ⟨by rfl, ?_⟩) ?_ ?_
                         rotate_left
                         ·intro w'
                          go_simp
                          with_reducible rfl
                         rotate_left
                         ·simp only [sp_]
                          rfl
                         refine pu_ (i := 23) (N := some 301) (v := ?_) (a' := ?_) HT_.out rfl rfl (Or.inl ⟨by rfl, ?_⟩) ?_ ?_
                         rotate_left
                         ·intro w'
                          go_simp
                          with_reducible rfl
                         rotate_left
                         ·simp only [sp_]
                          rfl
                         refine tk_ (i := 18) (N := some 296) (v := ?_) (a' := ?_) HT_.out HW_.out rfl rfl (Or.inl ⟨by rfl, ?_⟩) hHeld ?_ ?_
                         rotate_left
                         ·rintro w' ⟨s0, s1, s2, s3, s4, s5⟩
                          go_simp
                          with_reducible rfl
                         rotate_left
                         ·simp only [sp_]
                          rfl
                         refine tk_ (i := 21) (N := some 299) (v := ?_) (a' := ?_) HT_.out HW_.out rfl rfl (Or.inl ⟨by rfl, ?_⟩) hHeld ?_ ?_
                         rotate_left
                         ·rintro w' ⟨s0, s1, s2, s3, s4, s5⟩
                          go_simp
                          with_reducible rfl
                         rotate_left
                         ·simp only [sp_]
                          rfl
                         refine tk_ (i := 24) (N := some 302) (v := ?_) (a' := ?_) HT_.out HW_.out rfl rfl (Or.inl ⟨by rfl, ?_⟩) hHeld ?_ ?_
                         rotate_left
                         ·rintro w' ⟨s0, s1, s2, s3, s4, s5⟩
                          go_simp
                          with_reducible rfl
                         rotate_left
                         ·simp only [sp_]
                          rfl
                         refine one_ (i := 25) (N := some 303) #[true, true, true, true, true, true, true, true, true, true, true, true, true, true, true, true, true, true, true, true, true, true, true, true, true, true, false, false, false] rfl rfl (one_of HT_.out (by kernel_rfl)) (by decide) (fun K hK => ?_)
                         refine Kd.R_lit_step (Kd.int .i64) _ 3 ?hg (N := 303) ?hd (xs := ([rd (rd_L4 t228 x235_4) 1, rd (rd_L4 t228 x235_4) 0, rd (rd_L4 t228 x235_4) 2] : List Int)) (inner := [.int .i64 (rd (rd_L4 t228 x235_4) 1), .int .i64 (rd (rd_L4 t228 x235_4) 0), .int .i64 (rd (rd_L4 t228 x235_4) 2)]) (ok := fun _ => True) (okp := fun _ => True) ?hr ?hp (fun _ hk => hk) trivial (Below.refl _ _) (Nat.le_refl _) (by simp) ?_; (case hd => rfl); (case hg => rfl); (case hr => first | (go_simp; done) | (go_simp; rfl)); (case hp => exact (Reps.one (show Kd.M (Kd.int .i64) _ _ _ (rd (rd_L4 t228 x235_4) 1) [.int .i64 (rd (rd_L4 t228 x235_4) 1)] from rfl) (Reps.one (show Kd.M (Kd.int .i64) _ _ _ (rd (rd_L4 t228 x235_4) 0) [.int .i64 (rd (rd_L4 t228 x235_4) 0)] from rfl) (Reps.one (show Kd.M (Kd.int .i64) _ _ _ (rd (rd_L4 t228 x235_4) 2) [.int .i64 (rd (rd_L4 t228 x235_4) 2)] from rfl) (Reps.none _ _)))))
                         intro v260 w172 ho173 hb hg_ hnew_
                         have HS0_ := (hb.cell (World.block_lt_of_cell? _ _ (hHeld.1))).trans (hHeld.1)
                         have HS1_ := (hb.cell (World.block_lt_of_cell? _ _ (hHeld.2.1))).trans (hHeld.2.1)
                         have HS2_ := (hb.cell (World.block_lt_of_cell? _ _ (hHeld.2.2.1))).trans (hHeld.2.2.1)
                         have HS3_ := (hb.cell (World.block_lt_of_cell? _ _ (hHeld.2.2.2.1))).trans (hHeld.2.2.2.1)
                         have HS4_ := (hb.cell (World.block_lt_of_cell? _ _ (hHeld.2.2.2.2.1))).trans (hHeld.2.2.2.2.1)
                         have HS5_ := (hb.cell (World.block_lt_of_cell? _ _ (hHeld.2.2.2.2.2))).trans (hHeld.2.2.2.2.2)
                         clear hg_ hnew_
                         (first | rw [← Ny259.out] at ho173 | (simp only [Int.reduceToNat] at ho173; rw [← Ny259.out] at ho173))
                         have n0_ := Aside0.mk (Kd.S_elder' (by (with_reducible repeat (first | apply Kd.S_alloc | apply Kd.S_drewN | apply Kd.S_drew)); exact HO_21.out) (Kd.R_base ho173) hb)
                         have n1_ := Aside0.mk (Kd.S_elder' (by (with_reducible repeat (first | apply Kd.S_alloc | apply Kd.S_drewN | apply Kd.S_drew)); exact HO_233.out) (Kd.R_base ho173) hb)
                         have n2_ := Aside0.mk (Kd.R_elder' (by (with_reducible repeat (first | apply Kd.R_alloc | apply Kd.R_drewN | apply Kd.R_drew)); exact HL241_0.out) (Kd.R_base ho173) hb)
                         have n3_ := Aside0.mk (Kd.R_elder' (by (with_reducible repeat (first | apply Kd.R_alloc | apply Kd.R_drewN | apply Kd.R_drew)); exact HO254.out) (Kd.R_base ho173) hb)
                         have n4_ := Aside0.mk (Kd.R_lower (Kd.R_new' (Kd.R_new' ho173 (Kd.R_lt (by (with_reducible repeat (first | apply Kd.R_alloc | apply Kd.R_drewN | apply Kd.R_drew)); exact HL241_0.out))) (Kd.R_lt (by (with_reducible repeat (first | apply Kd.R_alloc | apply Kd.R_drewN | apply Kd.R_drew)); exact HO254.out))) (bZ_ (by repeat (first | (with_reducible first | exact HB.out | apply bA_ | apply bN_ | apply bD_) | exact HB.out))))
                         have n5_ := Aside0.mk (Kd.C_below (by first | with_reducible exact HR241_0.out | with_reducible exact Kd.C_drewN HR241_0.out _ | with_reducible exact Kd.C_drew HR241_0.out | repeat (first | (with_reducible exact HR241_0.out) | (with_reducible refine Kd.C_alloc ?_ _) | (with_reducible refine Kd.C_drewN ?_ _) | (with_reducible refine Kd.C_drew ?_) | exact HR241_0.out)) hb)
                         have n6_ := Aside0.mk (bP_ (by repeat (first | (with_reducible first | exact HB.out | apply bA_ | apply bN_ | apply bD_) | exact HB.out)) hb)
                         clear HO_21
                         clear HO_233
                         clear HL241_0
                         clear HO254
                         clear HR241_0
                         clear HB
                         have HO_21 := n0_
                         have HO_233 := n1_
                         have HL241_0 := n2_
                         have HO254 := n3_
                         have HO261 := n4_
                         have HR241_0 := n5_
                         have HB := n6_
                         clear n0_ n1_ n2_ n3_ n4_ n5_ n6_
                         clear hb ho173
                         obtain ⟨Ao174, co174, eo174⟩ := Kd.R_slice HO261.out
                         (first | subst eo174 | (injection eo174 with f1_ f2_ f3_; have f4_ := f1_.symm; have f5_ := f3_.symm; clear f1_ f2_ f3_; subst f4_; subst f5_))
                         refine hK.out _ _ ⟨HS0_, HS1_, HS2_, HS3_, HS4_, HS5_⟩ (fun hHeld => ?_)
                         clear hK K
                         refine norm_ (a' := ?_) ?_ ?_
                         rotate_left
                         ·show Act.put _ (some 303) _ = _
                          simp only [sp_]
                          rfl
                         refine one_ (i := 26) (N := some 304) #[true, true, true, true, true, true, true, true, true, true, true, true, true, true, true, true, true, true, true, true, true, true, true, true, true, true, true, false, false] rfl rfl (one_of HT_.out (by kernel_rfl)) (by decide) (fun K hK => ?_)
                         refine goes_ Try.func46 (by kernel_rfl) rfl #[.slice (some ad241) t228.length co139, .slice Ao174 y259.length co174] (by rfl) rfl rfl (by (try simp only [List.map_toArray, List.map_cons, List.map_nil]); first | done | rfl | (simp only [List.length_drop, List.length_take]; rfl)) ?_
                         with_reducible refine (laws_xPlace.calls k4 _ _ t228 _ _ y259 t262 _ ?side1 ?side2 ?side3 ?side4 A157.out).mono ?_
                         (case side1 => repeat (first | exact (Kd.S_reads' HO_21.out).2.2 | (with_reducible refine Kd.C_alloc ?_ _) | (with_reducible refine Kd.C_drewN ?_ _) | (with_reducible refine Kd.C_drew ?_)))
                         (case side2 => exact (Kd.S_reads' HO_21.out).2.1)
                         (case side3 => repeat (first | exact (Kd.R_reads' HO261.out).2.2 | (with_reducible refine Kd.C_alloc ?_ _) | (with_reducible refine Kd.C_drewN ?_ _) | (with_reducible refine Kd.C_drew ?_)))
                         (case side4 => exact (Kd.R_reads' HO261.out).2.1)
                         rintro e w' ⟨rfl, ⟨nd, rfl⟩⟩
                         refine ⟨_, rfl, ?_⟩
                         refine hK.out _ _ ⟨hHeld.1, hHeld.2.1, hHeld.2.2.1, hHeld.2.2.2.1, hHeld.2.2.2.2.1, hHeld.2.2.2.2.2⟩ (fun hHeld => ?_)
                         clear hK K
                         refine norm_ (a' := ?_) ?_ ?_
                         rotate_left
                         ·show Act.put _ (some 304) _ = _
                          simp only [sp_]
                          rfl
                         refine pu_ (i := 27) (N := some 305) (v := ?_) (a' := ?_) HT_.out rfl rfl (Or.inl ⟨by rfl, ?_⟩) ?_ ?_
                         rotate_left
                         ·intro w'
                          go_simp
                          with_reducible rfl
                         rotate_left
                         ·simp only [sp_]
                          rfl
                         refine pu_ (i := 28) (N := some 306) (v := ?_) (a' := ?_) HT_.out rfl rfl (Or.inl ⟨by rfl, ?_⟩) ?_ ?_
                         rotate_left
                         ·intro w'
                          go_simp
                          with_reducible rfl
                         rotate_left
                         ·simp only [sp_]
                          rfl
                         refine done_ (done_of HT_.out (by kernel_rfl)) ?_
                         try go_wp2
                         refine Fc.hand k4 (by assumption) ?same ?measure ?rel
                         case same => kernel_rfl
                         case measure => have := HJ9.out; have := HJ32.out; have := HJ114.out; have := HK4.out; omega
                         case rel => exact ⟨(wrap64 (x29_4 + (rd (rd_L4 t228 x235_4) 2))), (wrap64 ((wrap64 ((rd (rd_L4 t228 x235_4) 0) * (rd (rd_L4 t228 x235_4) 0))) + (wrap64 ((rd (rd_L4 t228 x235_4) 1) * (rd (rd_L4 t228 x235_4) 1))))), (wrap64 (x235_4 + 1)), (by first | rfl | (simp [Fc.nth]; done) | (simp [Fc.nth, *]; done)), (by first | rfl | (simp [Fc.nth]; done) | (simp [Fc.nth, *]; done)), (by first | rfl | (simp [Fc.nth]; done) | (simp [Fc.nth, *]; done)), H', ⟨by have := HJ9.out; have := HJ32.out; have := HJ114.out; have := HK4.out; omega⟩, ⟨by (with_reducible repeat (first | apply Kd.S_alloc | apply Kd.S_drewN | apply Kd.S_drew)); exact Kd.S_mono HO_21.out (fun _ hk => trivial)⟩, ⟨by (with_reducible repeat (first | apply Kd.S_alloc | apply Kd.S_drewN | apply Kd.S_drew)); exact Kd.S_mono HO_233.out (fun _ hk => trivial)⟩, ⟨by repeat (first | (with_reducible first | exact HB.out | apply bA_ | apply bN_ | apply bD_) | exact HB.out)⟩⟩
                      ·rw [if_neg c149] at H
                       have c149b0 : decide (x30_4 < (wrap64 ((wrap64 ((rd (rd_L4 t228 x235_4) 0) * (rd (rd_L4 t228 x235_4) 0))) + (wrap64 ((rd (rd_L4 t228 x235_4) 1) * (rd (rd_L4 t228 x235_4) 1)))))) = false := decide_eq_false c149
                       clear c149
                       obtain ⟨y266, hy266⟩ : ∃ y_ : List Int, y_ = (([wrap64 (-(rd (rd_L4 t228 x235_4) 1)), rd (rd_L4 t228 x235_4) 0, rd (rd_L4 t228 x235_4) 2] : List Int)) := ⟨_, rfl⟩
                       replace H : ((laws_xPlace.f k4 t228 y266).bind fun t269 => (if t269 < 0 then (some false) else ((laws_xPlace.f k4 t228 (([rd (rd_L4 t228 x235_4) 1, rd (rd_L4 t228 x235_4) 0, rd (rd_L4 t228 x235_4) 2] : List Int))).bind fun t276 => (if t276 < 0 then (some false) else (laws_FnLinesAndHeaps.l0 k4 t227 t228 t236 (wrap64 (x29_4 + (rd (rd_L4 t228 x235_4) 2))) x30_4 t228 (t228.length : Int) (wrap64 (x235_4 + 1))))))) = some r := by first | (rw [hy266]; with_reducible exact H) | (have H2_ := (Option.bind_some _ _).symm.trans H; rw [hy266]; with_reducible exact H2_) | (have H2_ := (Option.bind_some _ _).symm.trans H; with_reducible exact H2_) | with_reducible exact H | (rw [hy266]; exact H) | exact H
                       have Ny266 := Aside0.mk hy266
                       clear hy266
                       replace H := Option.bind_eq_some_iff.mp H
                       obtain ⟨t269, A1750, H⟩ := H
                       (try dsimp only at H)
                       have A175 := Aside0.mk A1750
                       clear A1750
                       by_cases c176 : t269 < 0
                       ·exact absurd c176 (H8.h_turn A111.out (of_decide_eq_true c141b0) (of_decide_eq_true c142b0) Ny266.out A175.out)
                       ·rw [if_neg c176] at H
                        have c176b0 : decide (t269 < 0) = false := decide_eq_false c176
                        clear c176
                        obtain ⟨y273, hy273⟩ : ∃ y_ : List Int, y_ = (([rd (rd_L4 t228 x235_4) 1, rd (rd_L4 t228 x235_4) 0, rd (rd_L4 t228 x235_4) 2] : List Int)) := ⟨_, rfl⟩
                        replace H : ((laws_xPlace.f k4 t228 y273).bind fun t276 => (if t276 < 0 then (some false) else (laws_FnLinesAndHeaps.l0 k4 t227 t228 t236 (wrap64 (x29_4 + (rd (rd_L4 t228 x235_4) 2))) x30_4 t228 (t228.length : Int) (wrap64 (x235_4 + 1))))) = some r := by first | (rw [hy273]; with_reducible exact H) | (have H2_ := (Option.bind_some _ _).symm.trans H; rw [hy273]; with_reducible exact H2_) | (have H2_ := (Option.bind_some _ _).symm.trans H; with_reducible exact H2_) | with_reducible exact H | (rw [hy273]; exact H) | exact H
                        have Ny273 := Aside0.mk hy273
                        clear hy273
                        replace H := Option.bind_eq_some_iff.mp H
                        obtain ⟨t276, A1820, H⟩ := H
                        (try dsimp only at H)
                        have A182 := Aside0.mk A1820
                        clear A1820
                        by_cases c183 : t276 < 0
                        ·exact absurd c183 (H8.h_swap A111.out (of_decide_eq_true c141b0) (of_decide_eq_true c142b0) Ny273.out A182.out)
                        ·rw [if_neg c183] at H
                         have c183b0 : decide (t276 < 0) = false := decide_eq_false c183
                         clear c183
                         have H' := Aside0.mk H
                         clear H
                         have p241 : 0 ≤ (x235_4 : Int) := of_decide_eq_true (by first | (with_reducible assumption) | assumption)
                         have q241 : x235_4 < (t228.length : Int) := of_decide_eq_true (by first | (with_reducible assumption) | assumption)
                         obtain ⟨ad241, A241_0, c241_0, e241, hx241_0, hl241_0, hi241_0⟩ := at_L4 (Kd.S_reads' HO_233.out).2.2 x235_4 p241 q241
                         cases e241
                         obtain ⟨ce241, hce241, hMe241, hcc241⟩ := Kd.S_get HO_233.out [] x235_4 p241 (by first | exact q241 | exact of_decide_eq_true (by first | (with_reducible assumption) | assumption) | (have e_ := (Kd.S_reads' HO_233.out).1; omega))
                         obtain ⟨ve241_0, rfl, ge241_0⟩ := hMe241
                         have hv241_0 := hcc241 0 _ rfl
                         rw [Nat.add_zero, show ((Kd.slice 3 (Kd.int .i64))).sz = 1 from rfl, Nat.mul_one] at hv241_0
                         replace hv241_0 := Option.some.inj (hv241_0.symm.trans hx241_0)
                         rw [hv241_0] at ge241_0
                         have HL241_0 := Aside0.mk (show Kd.R (Kd.int .i64) 3 _ _ _ _ (rd_L4 t228 x235_4) from ge241_0)
                         clear hv241_0 ge241_0
                         clear hcc241 hce241
                         have HR241_0 := Aside0.mk hi241_0
                         have HC241_0 := Aside0.mk hl241_0
                         clear hi241_0 hl241_0
                         replace p241 := eq_true p241
                         replace q241 := eq_true q241
                         have p242 : 0 ≤ (2 : Int) := (by omega)
                         have q242 : 2 < ((rd_L4 t228 x235_4).length : Int) := of_decide_eq_true (by first | (with_reducible assumption) | assumption)
                         obtain ⟨ad242, e242, hx242_0⟩ := Kd.at_int (by repeat (first | (with_reducible exact HR241_0.out) | (with_reducible refine Kd.C_alloc ?_ _) | (with_reducible refine Kd.C_drewN ?_ _) | (with_reducible refine Kd.C_drew ?_) | exact HR241_0.out)) 2 p242 q242
                         cases e242
                         (try simp only [show (2 : Int).toNat = 2 from rfl, Nat.reduceMul, Nat.reduceEqDiff, Go.Addr.add, ↓reduceIte] at hx242_0)
                         have qi242 : (2 < (rd_L4 t228 x235_4).length) = True := eq_true (by omega)
                         (try rw [show ((2 : Int)).toNat = 2 from rfl] at hx242_0)
                         replace p242 := eq_true p242
                         replace q242 := eq_true q242
                         have p243 : 0 ≤ (2 : Int) := (by omega)
                         have q243 : 2 < ((rd_L4 t228 x235_4).length : Int) := of_decide_eq_true (by first | (with_reducible assumption) | assumption)
                         obtain ⟨ad243, e243, hx243_0⟩ := Kd.at_int (by repeat (first | (with_reducible exact HR241_0.out) | (with_reducible refine Kd.C_alloc ?_ _) | (with_reducible refine Kd.C_drewN ?_ _) | (with_reducible refine Kd.C_drew ?_) | exact HR241_0.out)) 2 p243 q243
                         obtain rfl : ad242 = ad243 := (by injection e243)
                         (try simp only [show (2 : Int).toNat = 2 from rfl, Nat.reduceMul, Nat.reduceEqDiff, Go.Addr.add, ↓reduceIte] at hx243_0)
                         have qi243 : (2 < (rd_L4 t228 x235_4).length) = True := eq_true (by omega)
                         (try rw [show ((2 : Int)).toNat = 2 from rfl] at hx243_0)
                         replace p243 := eq_true p243
                         replace q243 := eq_true q243
                         have p244 : 0 ≤ (2 : Int) := (by omega)
                         have q244 : 2 < ((rd_L4 t228 x235_4).length : Int) := of_decide_eq_true (by first | (with_reducible assumption) | assumption)
                         obtain ⟨ad244, e244, hx244_0⟩ := Kd.at_int (by repeat (first | (with_reducible exact HR241_0.out) | (with_reducible refine Kd.C_alloc ?_ _) | (with_reducible refine Kd.C_drewN ?_ _) | (with_reducible refine Kd.C_drew ?_) | exact HR241_0.out)) 2 p244 q244
                         obtain rfl : ad242 = ad244 := (by injection e244)
                         (try simp only [show (2 : Int).toNat = 2 from rfl, Nat.reduceMul, Nat.reduceEqDiff, Go.Addr.add, ↓reduceIte] at hx244_0)
                         have qi244 : (2 < (rd_L4 t228 x235_4).length) = True := eq_true (by omega)
                         (try rw [show ((2 : Int)).toNat = 2 from rfl] at hx244_0)
                         replace p244 := eq_true p244
                         replace q244 := eq_true q244
                         try go_wp2
                         have n0_ := Aside0.mk (Kd.S_drew HO_21.out)
                         have n1_ := Aside0.mk (Kd.S_drew HO_233.out)
                         have n2_ := Aside0.mk (Kd.R_drew HL241_0.out)
                         have n3_ := Aside0.mk (Kd.C_drew HR241_0.out)
                         have n4_ := Aside0.mk (bD_ HB.out)
                         clear HO_21
                         clear HO_233
                         clear HL241_0
                         clear HR241_0
                         clear HB
                         have HO_21 := n0_
                         have HO_233 := n1_
                         have HL241_0 := n2_
                         have HR241_0 := n3_
                         have HB := n4_
                         clear n0_ n1_ n2_ n3_ n4_
                         have p245 : 0 ≤ (0 : Int) := (by omega)
                         have q245 : 0 < ((rd_L4 t228 x235_4).length : Int) := of_decide_eq_true (by first | (with_reducible assumption) | assumption)
                         obtain ⟨ad245, e245, hx245_0⟩ := Kd.at_int (by repeat (first | (with_reducible exact HR241_0.out) | (with_reducible refine Kd.C_alloc ?_ _) | (with_reducible refine Kd.C_drewN ?_ _) | (with_reducible refine Kd.C_drew ?_) | exact HR241_0.out)) 0 p245 q245
                         obtain rfl : ad242 = ad245 := (by injection e245)
                         have qi245 : (0 < (rd_L4 t228 x235_4).length) = True := eq_true (by omega)
                         (try rw [show ((0 : Int)).toNat = 0 from rfl] at hx245_0)
                         (try rw [Addr.add_zero'] at hx245_0)
                         replace p245 := eq_true p245
                         replace q245 := eq_true q245
                         have p246 : 0 ≤ (0 : Int) := (by omega)
                         have q246 : 0 < ((rd_L4 t228 x235_4).length : Int) := of_decide_eq_true (by first | (with_reducible assumption) | assumption)
                         obtain ⟨ad246, e246, hx246_0⟩ := Kd.at_int (by repeat (first | (with_reducible exact HR241_0.out) | (with_reducible refine Kd.C_alloc ?_ _) | (with_reducible refine Kd.C_drewN ?_ _) | (with_reducible refine Kd.C_drew ?_) | exact HR241_0.out)) 0 p246 q246
                         obtain rfl : ad242 = ad246 := (by injection e246)
                         have qi246 : (0 < (rd_L4 t228 x235_4).length) = True := eq_true (by omega)
                         (try rw [show ((0 : Int)).toNat = 0 from rfl] at hx246_0)
                         (try rw [Addr.add_zero'] at hx246_0)
                         replace p246 := eq_true p246
                         replace q246 := eq_true q246
                         have p247 : 0 ≤ (1 : Int) := (by omega)
                         have q247 : 1 < ((rd_L4 t228 x235_4).length : Int) := of_decide_eq_true (by first | (with_reducible assumption) | assumption)
                         obtain ⟨ad247, e247, hx247_0⟩ := Kd.at_int (by repeat (first | (with_reducible exact HR241_0.out) | (with_reducible refine Kd.C_alloc ?_ _) | (with_reducible refine Kd.C_drewN ?_ _) | (with_reducible refine Kd.C_drew ?_) | exact HR241_0.out)) 1 p247 q247
                         obtain rfl : ad242 = ad247 := (by injection e247)
                         (try simp only [show (1 : Int).toNat = 1 from rfl, Nat.reduceMul, Nat.reduceEqDiff, Go.Addr.add, ↓reduceIte] at hx247_0)
                         have qi247 : (1 < (rd_L4 t228 x235_4).length) = True := eq_true (by omega)
                         (try rw [show ((1 : Int)).toNat = 1 from rfl] at hx247_0)
                         replace p247 := eq_true p247
                         replace q247 := eq_true q247
                         have p248 : 0 ≤ (1 : Int) := (by omega)
                         have q248 : 1 < ((rd_L4 t228 x235_4).length : Int) := of_decide_eq_true (by first | (with_reducible assumption) | assumption)
                         obtain ⟨ad248, e248, hx248_0⟩ := Kd.at_int (by repeat (first | (with_reducible exact HR241_0.out) | (with_reducible refine Kd.C_alloc ?_ _) | (with_reducible refine Kd.C_drewN ?_ _) | (with_reducible refine Kd.C_drew ?_) | exact HR241_0.out)) 1 p248 q248
                         obtain rfl : ad242 = ad248 := (by injection e248)
                         (try simp only [show (1 : Int).toNat = 1 from rfl, Nat.reduceMul, Nat.reduceEqDiff, Go.Addr.add, ↓reduceIte] at hx248_0)
                         have qi248 : (1 < (rd_L4 t228 x235_4).length) = True := eq_true (by omega)
                         (try rw [show ((1 : Int)).toNat = 1 from rfl] at hx248_0)
                         replace p248 := eq_true p248
                         replace q248 := eq_true q248
                         refine start_ (n := 16) (S := fun w' => w'.cell? ad242 = some (.int .i64 (rd (rd_L4 t228 x235_4) 0)) ∧ w'.cell? ad242 = some (.int .i64 (rd (rd_L4 t228 x235_4) 0)) ∧ w'.cell? ⟨ad242.block, ad242.off + 1, none⟩ = some (.int .i64 (rd (rd_L4 t228 x235_4) 1)) ∧ w'.cell? ⟨ad242.block, ad242.off + 1, none⟩ = some (.int .i64 (rd (rd_L4 t228 x235_4) 1))) (ds := []) #[false, false, false, false, false, false, false, false, false, false, false, false, false, false, false, false] (by kernel_rfl) rfl rfl ⟨hx245_0, hx246_0, hx247_0, hx248_0⟩ (fun hHeld => ?_); refine with_tabW laws_FnLinesAndHeaps.tab33 laws_FnLinesAndHeaps.bits33 (fun HT_ HW_ => ?_)
                         generalize wr.drew = w192 at HO_21 HO_233 HL241_0 HR241_0 HB hx245_0 hx246_0 hx247_0 hx248_0 hHeld ⊢
                         refine pu_ (i := 0) (N := some 259) (v := ?_) (a' := ?_) HT_.out rfl rfl (Or.inl ⟨by rfl, ?_⟩) ?_ ?_
                         rotate_left
                         ·intro w'
                          go_simp
                          with_reducible rfl
                         rotate_left
                         ·simp only [sp_]
                          rfl
                         refine pu_ (i := 1) (N := some 260) (v := ?_) (a' := ?_) HT_.out rfl rfl (Or.inl ⟨by rfl, ?_⟩) ?_ ?_
                         rotate_left
                         ·intro w'
                          go_simp
                          with_reducible rfl
                         rotate_left
                         ·simp only [sp_]
                          rfl
                         refine pu_ (i := 3) (N := some 262) (v := ?_) (a' := ?_) HT_.out rfl rfl (Or.inl ⟨by rfl, ?_⟩) ?_ ?_
                         rotate_left
                         ·intro w'
                          go_simp
                          with_reducible rfl
                         rotate_left
                         ·simp only [sp_]
                          rfl
                         refine pu_ (i := 4) (N := some 263) (v := ?_) (a' := ?_) HT_.out rfl rfl (Or.inl ⟨by rfl, ?_⟩) ?_ ?_
                         rotate_left
                         ·intro w'
                          go_simp
                          with_reducible rfl
                         rotate_left
                         ·simp only [sp_]
                          rfl
                         refine pu_ (i := 7) (N := some 266) (v := ?_) (a' := ?_) HT_.out rfl rfl (Or.inl ⟨by rfl, ?_⟩) ?_ ?_
                         rotate_left
                         ·intro w'
                          go_simp
                          with_reducible rfl
                         rotate_left
                         ·simp only [sp_]
                          rfl
                         refine pu_ (i := 8) (N := some 267) (v := ?_) (a' := ?_) HT_.out rfl rfl (Or.inl ⟨by rfl, ?_⟩) ?_ ?_
                         rotate_left
                         ·intro w'
                          go_simp
                          with_reducible rfl
                         rotate_left
                         ·simp only [sp_]
                          rfl
                         refine pu_ (i := 10) (N := some 269) (v := ?_) (a' := ?_) HT_.out rfl rfl (Or.inl ⟨by rfl, ?_⟩) ?_ ?_
                         rotate_left
                         ·intro w'
                          go_simp
                          with_reducible rfl
                         rotate_left
                         ·simp only [sp_]
                          rfl
                         refine pu_ (i := 11) (N := some 270) (v := ?_) (a' := ?_) HT_.out rfl rfl (Or.inl ⟨by rfl, ?_⟩) ?_ ?_
                         rotate_left
                         ·intro w'
                          go_simp
                          with_reducible rfl
                         rotate_left
                         ·simp only [sp_]
                          rfl
                         refine tk_ (i := 2) (N := some 261) (v := ?_) (a' := ?_) HT_.out HW_.out rfl rfl (Or.inl ⟨by rfl, ?_⟩) hHeld ?_ ?_
                         rotate_left
                         ·rintro w' ⟨s0, s1, s2, s3⟩
                          go_simp
                          with_reducible rfl
                         rotate_left
                         ·simp only [sp_]
                          rfl
                         refine tk_ (i := 5) (N := some 264) (v := ?_) (a' := ?_) HT_.out HW_.out rfl rfl (Or.inl ⟨by rfl, ?_⟩) hHeld ?_ ?_
                         rotate_left
                         ·rintro w' ⟨s0, s1, s2, s3⟩
                          go_simp
                          with_reducible rfl
                         rotate_left
                         ·simp only [sp_]
                          rfl
                         refine pu_ (i := 6) (N := some 265) (v := ?_) (a' := ?_) HT_.out rfl rfl (Or.inl ⟨by rfl, ?_⟩) ?_ ?_
                         rotate_left
                         ·intro w'
                          go_simp
                          with_reducible rfl
                         rotate_left
                         ·simp only [sp_]
                          rfl
                         refine tk_ (i := 9) (N := some 268) (v := ?_) (a' := ?_) HT_.out HW_.out rfl rfl (Or.inl ⟨by rfl, ?_⟩) hHeld ?_ ?_
                         rotate_left
                         ·rintro w' ⟨s0, s1, s2, s3⟩
                          go_simp
                          with_reducible rfl
                         rotate_left
                         ·simp only [sp_]
                          rfl
                         refine tk_ (i := 12) (N := some 271) (v := ?_) (a' := ?_) HT_.out HW_.out rfl rfl (Or.inl ⟨by rfl, ?_⟩) hHeld ?_ ?_
                         rotate_left
                         ·rintro w' ⟨s0, s1, s2, s3⟩
                          go_simp
                          with_reducible rfl
                         rotate_left
                         ·simp only [sp_]
                          rfl
                         refine pu_ (i := 13) (N := some 272) (v := ?_) (a' := ?_) HT_.out rfl rfl (Or.inl ⟨by rfl, ?_⟩) ?_ ?_
                         rotate_left
                         ·intro w'
                          go_simp
                          with_reducible rfl
                         rotate_left
                         ·simp only [sp_]
                          rfl
                         refine pu_ (i := 14) (N := some 273) (v := ?_) (a' := ?_) HT_.out rfl rfl (Or.inl ⟨by rfl, ?_⟩) ?_ ?_
                         rotate_left
                         ·intro w'
                          go_simp
                          with_reducible rfl
                         rotate_left
                         ·simp only [sp_]
                          rfl
                         refine pu_ (i := 15) (N := some 33) (v := ?_) (a' := ?_) HT_.out rfl rfl (Or.inl ⟨by rfl, ?_⟩) ?_ ?_
                         rotate_left
                         ·intro w'
                          go_simp
                          with_reducible rfl
                         rotate_left
                         ·simp only [sp_]
                          rfl
                         refine done_ (done_of HT_.out (by kernel_rfl)) ?_
                         try go_wp2
                         have n0_ := Aside0.mk (Kd.S_drew HO_21.out)
                         have n1_ := Aside0.mk (Kd.S_drew HO_233.out)
                         have n2_ := Aside0.mk (Kd.R_drew HL241_0.out)
                         have n3_ := Aside0.mk (Kd.C_drew HR241_0.out)
                         have n4_ := Aside0.mk (bD_ HB.out)
                         clear HO_21
                         clear HO_233
                         clear HL241_0
                         clear HR241_0
                         clear HB
                         have HO_21 := n0_
                         have HO_233 := n1_
                         have HL241_0 := n2_
                         have HR241_0 := n3_
                         have HB := n4_
                         clear n0_ n1_ n2_ n3_ n4_
                         have p263 : 0 ≤ (1 : Int) := (by omega)
                         have q263 : 1 < ((rd_L4 t228 x235_4).length : Int) := of_decide_eq_true (by first | (with_reducible assumption) | assumption)
                         obtain ⟨ad263, e263, hx263_0⟩ := Kd.at_int (by repeat (first | (with_reducible exact HR241_0.out) | (with_reducible refine Kd.C_alloc ?_ _) | (with_reducible refine Kd.C_drewN ?_ _) | (with_reducible refine Kd.C_drew ?_) | exact HR241_0.out)) 1 p263 q263
                         obtain rfl : ad242 = ad263 := (by injection e263)
                         (try simp only [show (1 : Int).toNat = 1 from rfl, Nat.reduceMul, Nat.reduceEqDiff, Go.Addr.add, ↓reduceIte] at hx263_0)
                         have qi263 : (1 < (rd_L4 t228 x235_4).length) = True := eq_true (by omega)
                         (try rw [show ((1 : Int)).toNat = 1 from rfl] at hx263_0)
                         replace p263 := eq_true p263
                         replace q263 := eq_true q263
                         have p264 : 0 ≤ (0 : Int) := (by omega)
                         have q264 : 0 < ((rd_L4 t228 x235_4).length : Int) := of_decide_eq_true (by first | (with_reducible assumption) | assumption)
                         obtain ⟨ad264, e264, hx264_0⟩ := Kd.at_int (by repeat (first | (with_reducible exact HR241_0.out) | (with_reducible refine Kd.C_alloc ?_ _) | (with_reducible refine Kd.C_drewN ?_ _) | (with_reducible refine Kd.C_drew ?_) | exact HR241_0.out)) 0 p264 q264
                         obtain rfl : ad242 = ad264 := (by injection e264)
                         have qi264 : (0 < (rd_L4 t228 x235_4).length) = True := eq_true (by omega)
                         (try rw [show ((0 : Int)).toNat = 0 from rfl] at hx264_0)
                         (try rw [Addr.add_zero'] at hx264_0)
                         replace p264 := eq_true p264
                         replace q264 := eq_true q264
                         have p265 : 0 ≤ (2 : Int) := (by omega)
                         have q265 : 2 < ((rd_L4 t228 x235_4).length : Int) := of_decide_eq_true (by first | (with_reducible assumption) | assumption)
                         obtain ⟨ad265, e265, hx265_0⟩ := Kd.at_int (by repeat (first | (with_reducible exact HR241_0.out) | (with_reducible refine Kd.C_alloc ?_ _) | (with_reducible refine Kd.C_drewN ?_ _) | (with_reducible refine Kd.C_drew ?_) | exact HR241_0.out)) 2 p265 q265
                         obtain rfl : ad242 = ad265 := (by injection e265)
                         (try simp only [show (2 : Int).toNat = 2 from rfl, Nat.reduceMul, Nat.reduceEqDiff, Go.Addr.add, ↓reduceIte] at hx265_0)
                         have qi265 : (2 < (rd_L4 t228 x235_4).length) = True := eq_true (by omega)
                         (try rw [show ((2 : Int)).toNat = 2 from rfl] at hx265_0)
                         replace p265 := eq_true p265
                         replace q265 := eq_true q265
                         refine start_ (n := 29) (S := fun w' => w'.cell? ⟨ad242.block, ad242.off + 1, none⟩ = some (.int .i64 (rd (rd_L4 t228 x235_4) 1)) ∧ w'.cell? ad242 = some (.int .i64 (rd (rd_L4 t228 x235_4) 0)) ∧ w'.cell? ⟨ad242.block, ad242.off + 2, none⟩ = some (.int .i64 (rd (rd_L4 t228 x235_4) 2)) ∧ w'.cell? ⟨ad242.block, ad242.off + 1, none⟩ = some (.int .i64 (rd (rd_L4 t228 x235_4) 1)) ∧ w'.cell? ad242 = some (.int .i64 (rd (rd_L4 t228 x235_4) 0)) ∧ w'.cell? ⟨ad242.block, ad242.off + 2, none⟩ = some (.int .i64 (rd (rd_L4 t228 x235_4) 2))) (ds := []) #[false, false, false, false, false, false, false, false, false, false, false, false, false, false, false, false, false, false, false, false, false, false, false, false, false, false, false, false, false] (by kernel_rfl) rfl rfl ⟨hx263_0, hx264_0, hx265_0, hx263_0, hx264_0, hx265_0⟩ (fun hHeld => ?_); refine with_tabW laws_FnLinesAndHeaps.tab36 laws_FnLinesAndHeaps.bits36 (fun HT_ HW_ => ?_)
                         generalize w192.drew = w193 at HO_21 HO_233 HL241_0 HR241_0 HB hx263_0 hx264_0 hx265_0 hHeld ⊢
                         refine pu_ (i := 0) (N := some 278) (v := ?_) (a' := ?_) HT_.out rfl rfl (Or.inl ⟨by rfl, ?_⟩) ?_ ?_
                         rotate_left
                         ·intro w'
                          go_simp
                          with_reducible rfl
                         rotate_left
                         ·simp only [sp_]
                          rfl
                         refine pu_ (i := 1) (N := some 279) (v := ?_) (a' := ?_) HT_.out rfl rfl (Or.inl ⟨by rfl, ?_⟩) ?_ ?_
                         rotate_left
                         ·intro w'
                          go_simp
                          with_reducible rfl
                         rotate_left
                         ·simp only [sp_]
                          rfl
                         refine pu_ (i := 2) (N := some 280) (v := ?_) (a' := ?_) HT_.out rfl rfl (Or.inl ⟨by rfl, ?_⟩) ?_ ?_
                         rotate_left
                         ·intro w'
                          go_simp
                          with_reducible rfl
                         rotate_left
                         ·simp only [sp_]
                          rfl
                         refine pu_ (i := 5) (N := some 283) (v := ?_) (a' := ?_) HT_.out rfl rfl (Or.inl ⟨by rfl, ?_⟩) ?_ ?_
                         rotate_left
                         ·intro w'
                          go_simp
                          with_reducible rfl
                         rotate_left
                         ·simp only [sp_]
                          rfl
                         refine pu_ (i := 6) (N := some 284) (v := ?_) (a' := ?_) HT_.out rfl rfl (Or.inl ⟨by rfl, ?_⟩) ?_ ?_
                         rotate_left
                         ·intro w'
                          go_simp
                          with_reducible rfl
                         rotate_left
                         ·simp only [sp_]
                          rfl
                         refine pu_ (i := 8) (N := some 286) (v := ?_) (a' := ?_) HT_.out rfl rfl (Or.inl ⟨by rfl, ?_⟩) ?_ ?_
                         rotate_left
                         ·intro w'
                          go_simp
                          with_reducible rfl
                         rotate_left
                         ·simp only [sp_]
                          rfl
                         refine pu_ (i := 9) (N := some 287) (v := ?_) (a' := ?_) HT_.out rfl rfl (Or.inl ⟨by rfl, ?_⟩) ?_ ?_
                         rotate_left
                         ·intro w'
                          go_simp
                          with_reducible rfl
                         rotate_left
                         ·simp only [sp_]
                          rfl
                         refine tk_ (i := 3) (N := some 281) (v := ?_) (a' := ?_) HT_.out HW_.out rfl rfl (Or.inl ⟨by rfl, ?_⟩) hHeld ?_ ?_
                         rotate_left
                         ·rintro w' ⟨s0, s1, s2, s3, s4, s5⟩
                          go_simp
                          with_reducible rfl
                         rotate_left
                         ·simp only [sp_]
                          rfl
                         refine pu_ (i := 4) (N := some 282) (v := ?_) (a' := ?_) HT_.out rfl rfl (Or.inl ⟨by rfl, ?_⟩) ?_ ?_
                         rotate_left
                         ·intro w'
                          go_simp
                          with_reducible rfl
                         rotate_left
                         ·simp only [sp_]
                          rfl
                         refine tk_ (i := 7) (N := some 285) (v := ?_) (a' := ?_) HT_.out HW_.out rfl rfl (Or.inl ⟨by rfl, ?_⟩) hHeld ?_ ?_
                         rotate_left
                         ·rintro w' ⟨s0, s1, s2, s3, s4, s5⟩
                          go_simp
                          with_reducible rfl
                         rotate_left
                         ·simp only [sp_]
                          rfl
                         refine tk_ (i := 10) (N := some 288) (v := ?_) (a' := ?_) HT_.out HW_.out rfl rfl (Or.inl ⟨by rfl, ?_⟩) hHeld ?_ ?_
                         rotate_left
                         ·rintro w' ⟨s0, s1, s2, s3, s4, s5⟩
                          go_simp
                          with_reducible rfl
                         rotate_left
                         ·simp only [sp_]
                          rfl
                         refine one_ (i := 11) (N := some 289) #[true, true, true, true, true, true, true, true, true, true, true, true, false, false, false, false, false, false, false, false, false, false, false, false, false, false, false, false, false] rfl rfl (one_of HT_.out (by kernel_rfl)) (by decide) (fun K hK => ?_)
                         refine Kd.R_lit_step (Kd.int .i64) _ 3 ?hg (N := 289) ?hd (xs := ([wrap64 (-(rd (rd_L4 t228 x235_4) 1)), rd (rd_L4 t228 x235_4) 0, rd (rd_L4 t228 x235_4) 2] : List Int)) (inner := [.int .i64 (wrap64 (-(rd (rd_L4 t228 x235_4) 1))), .int .i64 (rd (rd_L4 t228 x235_4) 0), .int .i64 (rd (rd_L4 t228 x235_4) 2)]) (ok := fun _ => True) (okp := fun _ => True) ?hr ?hp (fun _ hk => hk) trivial (Below.refl _ _) (Nat.le_refl _) (by simp) ?_; (case hd => rfl); (case hg => rfl); (case hr => first | (go_simp; done) | (go_simp; rfl)); (case hp => exact (Reps.one (show Kd.M (Kd.int .i64) _ _ _ (wrap64 (-(rd (rd_L4 t228 x235_4) 1))) [.int .i64 (wrap64 (-(rd (rd_L4 t228 x235_4) 1)))] from rfl) (Reps.one (show Kd.M (Kd.int .i64) _ _ _ (rd (rd_L4 t228 x235_4) 0) [.int .i64 (rd (rd_L4 t228 x235_4) 0)] from rfl) (Reps.one (show Kd.M (Kd.int .i64) _ _ _ (rd (rd_L4 t228 x235_4) 2) [.int .i64 (rd (rd_L4 t228 x235_4) 2)] from rfl) (Reps.none _ _)))))
                         intro v267 w194 ho195 hb hg_ hnew_
                         have HS0_ := (hb.cell (World.block_lt_of_cell? _ _ (hHeld.1))).trans (hHeld.1)
                         have HS1_ := (hb.cell (World.block_lt_of_cell? _ _ (hHeld.2.1))).trans (hHeld.2.1)
                         have HS2_ := (hb.cell (World.block_lt_of_cell? _ _ (hHeld.2.2.1))).trans (hHeld.2.2.1)
                         have HS3_ := (hb.cell (World.block_lt_of_cell? _ _ (hHeld.2.2.2.1))).trans (hHeld.2.2.2.1)
                         have HS4_ := (hb.cell (World.block_lt_of_cell? _ _ (hHeld.2.2.2.2.1))).trans (hHeld.2.2.2.2.1)
                         have HS5_ := (hb.cell (World.block_lt_of_cell? _ _ (hHeld.2.2.2.2.2))).trans (hHeld.2.2.2.2.2)
                         clear hg_ hnew_
                         (first | rw [← Ny266.out] at ho195 | (simp only [Int.reduceToNat] at ho195; rw [← Ny266.out] at ho195))
                         have n0_ := Aside0.mk (Kd.S_elder' (by (with_reducible repeat (first | apply Kd.S_alloc | apply Kd.S_drewN | apply Kd.S_drew)); exact HO_21.out) (Kd.R_base ho195) hb)
                         have n1_ := Aside0.mk (Kd.S_elder' (by (with_reducible repeat (first | apply Kd.S_alloc | apply Kd.S_drewN | apply Kd.S_drew)); exact HO_233.out) (Kd.R_base ho195) hb)
                         have n2_ := Aside0.mk (Kd.R_elder' (by (with_reducible repeat (first | apply Kd.R_alloc | apply Kd.R_drewN | apply Kd.R_drew)); exact HL241_0.out) (Kd.R_base ho195) hb)
                         have n3_ := Aside0.mk (Kd.R_lower (Kd.R_new' ho195 (Kd.R_lt (by (with_reducible repeat (first | apply Kd.R_alloc | apply Kd.R_drewN | apply Kd.R_drew)); exact HL241_0.out))) (bZ_ (by repeat (first | (with_reducible first | exact HB.out | apply bA_ | apply bN_ | apply bD_) | exact HB.out))))
                         have n4_ := Aside0.mk (Kd.C_below (by first | with_reducible exact HR241_0.out | with_reducible exact Kd.C_drewN HR241_0.out _ | with_reducible exact Kd.C_drew HR241_0.out | repeat (first | (with_reducible exact HR241_0.out) | (with_reducible refine Kd.C_alloc ?_ _) | (with_reducible refine Kd.C_drewN ?_ _) | (with_reducible refine Kd.C_drew ?_) | exact HR241_0.out)) hb)
                         have n5_ := Aside0.mk (bP_ (by repeat (first | (with_reducible first | exact HB.out | apply bA_ | apply bN_ | apply bD_) | exact HB.out)) hb)
                         clear HO_21
                         clear HO_233
                         clear HL241_0
                         clear HR241_0
                         clear HB
                         have HO_21 := n0_
                         have HO_233 := n1_
                         have HL241_0 := n2_
                         have HO268 := n3_
                         have HR241_0 := n4_
                         have HB := n5_
                         clear n0_ n1_ n2_ n3_ n4_ n5_
                         clear hb ho195
                         obtain ⟨Ao196, co196, eo196⟩ := Kd.R_slice HO268.out
                         (first | subst eo196 | (injection eo196 with f1_ f2_ f3_; have f4_ := f1_.symm; have f5_ := f3_.symm; clear f1_ f2_ f3_; subst f4_; subst f5_))
                         refine hK.out _ _ ⟨HS0_, HS1_, HS2_, HS3_, HS4_, HS5_⟩ (fun hHeld => ?_)
                         clear hK K
                         refine norm_ (a' := ?_) ?_ ?_
                         rotate_left
                         ·show Act.put _ (some 289) _ = _
                          simp only [sp_]
                          rfl
                         refine one_ (i := 12) (N := some 290) #[true, true, true, true, true, true, true, true, true, true, true, true, true, false, false, false, false, false, false, false, false, false, false, false, false, false, false, false, false] rfl rfl (one_of HT_.out (by kernel_rfl)) (by decide) (fun K hK => ?_)
                         refine goes_ Try.func46 (by kernel_rfl) rfl #[.slice (some ad241) t228.length co139, .slice Ao196 y266.length co196] (by rfl) rfl rfl (by (try simp only [List.map_toArray, List.map_cons, List.map_nil]); first | done | rfl | (simp only [List.length_drop, List.length_take]; rfl)) ?_
                         with_reducible refine (laws_xPlace.calls k4 _ _ t228 _ _ y266 t269 _ ?side1 ?side2 ?side3 ?side4 A175.out).mono ?_
                         (case side1 => repeat (first | exact (Kd.S_reads' HO_21.out).2.2 | (with_reducible refine Kd.C_alloc ?_ _) | (with_reducible refine Kd.C_drewN ?_ _) | (with_reducible refine Kd.C_drew ?_)))
                         (case side2 => exact (Kd.S_reads' HO_21.out).2.1)
                         (case side3 => repeat (first | exact (Kd.R_reads' HO268.out).2.2 | (with_reducible refine Kd.C_alloc ?_ _) | (with_reducible refine Kd.C_drewN ?_ _) | (with_reducible refine Kd.C_drew ?_)))
                         (case side4 => exact (Kd.R_reads' HO268.out).2.1)
                         rintro e w' ⟨rfl, ⟨nd, rfl⟩⟩
                         refine ⟨_, rfl, ?_⟩
                         have p270 : 0 ≤ (1 : Int) := (by omega)
                         have q270 : 1 < ((rd_L4 t228 x235_4).length : Int) := of_decide_eq_true (by first | (with_reducible assumption) | assumption)
                         obtain ⟨ad270, e270, hx270_0⟩ := Kd.at_int (by repeat (first | (with_reducible exact HR241_0.out) | (with_reducible refine Kd.C_alloc ?_ _) | (with_reducible refine Kd.C_drewN ?_ _) | (with_reducible refine Kd.C_drew ?_) | exact HR241_0.out)) 1 p270 q270
                         obtain rfl : ad242 = ad270 := (by injection e270)
                         (try simp only [show (1 : Int).toNat = 1 from rfl, Nat.reduceMul, Nat.reduceEqDiff, Go.Addr.add, ↓reduceIte] at hx270_0)
                         have qi270 : (1 < (rd_L4 t228 x235_4).length) = True := eq_true (by omega)
                         (try rw [show ((1 : Int)).toNat = 1 from rfl] at hx270_0)
                         replace p270 := eq_true p270
                         replace q270 := eq_true q270
                         have p271 : 0 ≤ (0 : Int) := (by omega)
                         have q271 : 0 < ((rd_L4 t228 x235_4).length : Int) := of_decide_eq_true (by first | (with_reducible assumption) | assumption)
                         obtain ⟨ad271, e271, hx271_0⟩ := Kd.at_int (by repeat (first | (with_reducible exact HR241_0.out) | (with_reducible refine Kd.C_alloc ?_ _) | (with_reducible refine Kd.C_drewN ?_ _) | (with_reducible refine Kd.C_drew ?_) | exact HR241_0.out)) 0 p271 q271
                         obtain rfl : ad242 = ad271 := (by injection e271)
                         have qi271 : (0 < (rd_L4 t228 x235_4).length) = True := eq_true (by omega)
                         (try rw [show ((0 : Int)).toNat = 0 from rfl] at hx271_0)
                         (try rw [Addr.add_zero'] at hx271_0)
                         replace p271 := eq_true p271
                         replace q271 := eq_true q271
                         have p272 : 0 ≤ (2 : Int) := (by omega)
                         have q272 : 2 < ((rd_L4 t228 x235_4).length : Int) := of_decide_eq_true (by first | (with_reducible assumption) | assumption)
                         obtain ⟨ad272, e272, hx272_0⟩ := Kd.at_int (by repeat (first | (with_reducible exact HR241_0.out) | (with_reducible refine Kd.C_alloc ?_ _) | (with_reducible refine Kd.C_drewN ?_ _) | (with_reducible refine Kd.C_drew ?_) | exact HR241_0.out)) 2 p272 q272
                         obtain rfl : ad242 = ad272 := (by injection e272)
                         (try simp only [show (2 : Int).toNat = 2 from rfl, Nat.reduceMul, Nat.reduceEqDiff, Go.Addr.add, ↓reduceIte] at hx272_0)
                         have qi272 : (2 < (rd_L4 t228 x235_4).length) = True := eq_true (by omega)
                         (try rw [show ((2 : Int)).toNat = 2 from rfl] at hx272_0)
                         replace p272 := eq_true p272
                         replace q272 := eq_true q272
                         refine hK.out _ _ ⟨hHeld.1, hHeld.2.1, hHeld.2.2.1, hHeld.2.2.2.1, hHeld.2.2.2.2.1, hHeld.2.2.2.2.2⟩ (fun hHeld => ?_)
                         clear hK K
                         refine norm_ (a' := ?_) ?_ ?_
                         rotate_left
                         ·show Act.put _ (some 290) _ = _
                          simp only [sp_]
                          rfl
                         refine pu_ (i := 13) (N := some 291) (v := ?_) (a' := ?_) HT_.out rfl rfl (Or.inl ⟨by rfl, ?_⟩) ?_ ?_
                         rotate_left
                         ·intro w'
                          go_simp
                          with_reducible rfl
                         rotate_left
                         ·simp only [sp_]
                          rfl
                         refine pu_ (i := 14) (N := some 292) (v := ?_) (a' := ?_) HT_.out rfl rfl (Or.inl ⟨by rfl, ?_⟩) ?_ ?_
                         rotate_left
                         ·intro w'
                          go_simp
                          with_reducible rfl
                         rotate_left
                         ·simp only [sp_]
                          rfl
                         refine pu_ (i := 15) (N := some 293) (v := ?_) (a' := ?_) HT_.out rfl rfl (Or.inl ⟨by rfl, ?_⟩) ?_ ?_
                         rotate_left
                         ·intro w'
                          go_simp
                          with_reducible rfl
                         rotate_left
                         ·simp only [sp_]
                          rfl
                         refine pu_ (i := 16) (N := some 294) (v := ?_) (a' := ?_) HT_.out rfl rfl (Or.inl ⟨by rfl, ?_⟩) ?_ ?_
                         rotate_left
                         ·intro w'
                          go_simp
                          with_reducible rfl
                         rotate_left
                         ·simp only [sp_]
                          rfl
                         refine pu_ (i := 17) (N := some 295) (v := ?_) (a' := ?_) HT_.out rfl rfl (Or.inl ⟨by rfl, ?_⟩) ?_ ?_
                         rotate_left
                         ·intro w'
                          go_simp
                          with_reducible rfl
                         rotate_left
                         ·simp only [sp_]
                          rfl
                         refine pu_ (i := 19) (N := some 297) (v := ?_) (a' := ?_) HT_.out rfl rfl (Or.inl ⟨by rfl, ?_⟩) ?_ ?_
                         rotate_left
                         ·intro w'
                          go_simp
                          with_reducible rfl
                         rotate_left
                         ·simp only [sp_]
                          rfl
                         refine pu_ (i := 20) (N := some 298) (v := ?_) (a' := ?_) HT_.out rfl rfl (Or.inl ⟨by rfl, ?_⟩) ?_ ?_
                         rotate_left
                         ·intro w'
                          go_simp
                          with_reducible rfl
                         rotate_left
                         ·simp only [sp_]
                          rfl
                         refine pu_ (i := 22) (N := some 300) (v := ?_) (a' := ?_) HT_.out rfl rfl (Or.inl ⟨by rfl, ?_⟩) ?_ ?_
                         rotate_left
                         ·intro w'
                          go_simp
                          with_reducible rfl
                         rotate_left
                         ·simp only [sp_]
                          rfl
                         refine pu_ (i := 23) (N := some 301) (v := ?_) (a' := ?_) HT_.out rfl rfl (Or.inl ⟨by rfl, ?_⟩) ?_ ?_
                         rotate_left
                         ·intro w'
                          go_simp
                          with_reducible rfl
                         rotate_left
                         ·simp only [sp_]
                          rfl
                         refine tk_ (i := 18) (N := some 296) (v := ?_) (a' := ?_) HT_.out HW_.out rfl rfl (Or.inl ⟨by rfl, ?_⟩) hHeld ?_ ?_
                         rotate_left
                         ·rintro w' ⟨s0, s1, s2, s3, s4, s5⟩
                          go_simp
                          with_reducible rfl
                         rotate_left
                         ·simp only [sp_]
                          rfl
                         refine tk_ (i := 21) (N := some 299) (v := ?_) (a' := ?_) HT_.out HW_.out rfl rfl (Or.inl ⟨by rfl, ?_⟩) hHeld ?_ ?_
                         rotate_left
                         ·rintro w' ⟨s0, s1, s2, s3, s4, s5⟩
                          go_simp
                          with_reducible rfl
                         rotate_left
                         ·simp only [sp_]
                          rfl
                         refine tk_ (i := 24) (N := some 302) (v := ?_) (a' := ?_) HT_.out HW_.out rfl rfl (Or.inl ⟨by rfl, ?_⟩) hHeld ?_ ?_
                         rotate_left
                         ·rintro w' ⟨s0, s1, s2, s3, s4, s5⟩
                          go_simp
                          with_reducible rfl
                         rotate_left
                         ·simp only [sp_]
                          rfl
                         refine one_ (i := 25) (N := some 303) #[true, true, true, true, true, true, true, true, true, true, true, true, true, true, true, true, true, true, true, true, true, true, true, true, true, true, false, false, false] rfl rfl (one_of HT_.out (by kernel_rfl)) (by decide) (fun K hK => ?_)
                         refine Kd.R_lit_step (Kd.int .i64) _ 3 ?hg (N := 303) ?hd (xs := ([rd (rd_L4 t228 x235_4) 1, rd (rd_L4 t228 x235_4) 0, rd (rd_L4 t228 x235_4) 2] : List Int)) (inner := [.int .i64 (rd (rd_L4 t228 x235_4) 1), .int .i64 (rd (rd_L4 t228 x235_4) 0), .int .i64 (rd (rd_L4 t228 x235_4) 2)]) (ok := fun _ => True) (okp := fun _ => True) ?hr ?hp (fun _ hk => hk) trivial (Below.refl _ _) (Nat.le_refl _) (by simp) ?_; (case hd => rfl); (case hg => rfl); (case hr => first | (go_simp; done) | (go_simp; rfl)); (case hp => exact (Reps.one (show Kd.M (Kd.int .i64) _ _ _ (rd (rd_L4 t228 x235_4) 1) [.int .i64 (rd (rd_L4 t228 x235_4) 1)] from rfl) (Reps.one (show Kd.M (Kd.int .i64) _ _ _ (rd (rd_L4 t228 x235_4) 0) [.int .i64 (rd (rd_L4 t228 x235_4) 0)] from rfl) (Reps.one (show Kd.M (Kd.int .i64) _ _ _ (rd (rd_L4 t228 x235_4) 2) [.int .i64 (rd (rd_L4 t228 x235_4) 2)] from rfl) (Reps.none _ _)))))
                         intro v274 w197 ho198 hb hg_ hnew_
                         have HS0_ := (hb.cell (World.block_lt_of_cell? _ _ (hHeld.1))).trans (hHeld.1)
                         have HS1_ := (hb.cell (World.block_lt_of_cell? _ _ (hHeld.2.1))).trans (hHeld.2.1)
                         have HS2_ := (hb.cell (World.block_lt_of_cell? _ _ (hHeld.2.2.1))).trans (hHeld.2.2.1)
                         have HS3_ := (hb.cell (World.block_lt_of_cell? _ _ (hHeld.2.2.2.1))).trans (hHeld.2.2.2.1)
                         have HS4_ := (hb.cell (World.block_lt_of_cell? _ _ (hHeld.2.2.2.2.1))).trans (hHeld.2.2.2.2.1)
                         have HS5_ := (hb.cell (World.block_lt_of_cell? _ _ (hHeld.2.2.2.2.2))).trans (hHeld.2.2.2.2.2)
                         clear hg_ hnew_
                         (first | rw [← Ny273.out] at ho198 | (simp only [Int.reduceToNat] at ho198; rw [← Ny273.out] at ho198))
                         have n0_ := Aside0.mk (Kd.S_elder' (by (with_reducible repeat (first | apply Kd.S_alloc | apply Kd.S_drewN | apply Kd.S_drew)); exact HO_21.out) (Kd.R_base ho198) hb)
                         have n1_ := Aside0.mk (Kd.S_elder' (by (with_reducible repeat (first | apply Kd.S_alloc | apply Kd.S_drewN | apply Kd.S_drew)); exact HO_233.out) (Kd.R_base ho198) hb)
                         have n2_ := Aside0.mk (Kd.R_elder' (by (with_reducible repeat (first | apply Kd.R_alloc | apply Kd.R_drewN | apply Kd.R_drew)); exact HL241_0.out) (Kd.R_base ho198) hb)
                         have n3_ := Aside0.mk (Kd.R_elder' (by (with_reducible repeat (first | apply Kd.R_alloc | apply Kd.R_drewN | apply Kd.R_drew)); exact HO268.out) (Kd.R_base ho198) hb)
                         have n4_ := Aside0.mk (Kd.R_lower (Kd.R_new' (Kd.R_new' ho198 (Kd.R_lt (by (with_reducible repeat (first | apply Kd.R_alloc | apply Kd.R_drewN | apply Kd.R_drew)); exact HL241_0.out))) (Kd.R_lt (by (with_reducible repeat (first | apply Kd.R_alloc | apply Kd.R_drewN | apply Kd.R_drew)); exact HO268.out))) (bZ_ (by repeat (first | (with_reducible first | exact HB.out | apply bA_ | apply bN_ | apply bD_) | exact HB.out))))
                         have n5_ := Aside0.mk (Kd.C_below (by first | with_reducible exact HR241_0.out | with_reducible exact Kd.C_drewN HR241_0.out _ | with_reducible exact Kd.C_drew HR241_0.out | repeat (first | (with_reducible exact HR241_0.out) | (with_reducible refine Kd.C_alloc ?_ _) | (with_reducible refine Kd.C_drewN ?_ _) | (with_reducible refine Kd.C_drew ?_) | exact HR241_0.out)) hb)
                         have n6_ := Aside0.mk (bP_ (by repeat (first | (with_reducible first | exact HB.out | apply bA_ | apply bN_ | apply bD_) | exact HB.out)) hb)
                         clear HO_21
                         clear HO_233
                         clear HL241_0
                         clear HO268
                         clear HR241_0
                         clear HB
                         have HO_21 := n0_
                         have HO_233 := n1_
                         have HL241_0 := n2_
                         have HO268 := n3_
                         have HO275 := n4_
                         have HR241_0 := n5_
                         have HB := n6_
                         clear n0_ n1_ n2_ n3_ n4_ n5_ n6_
                         clear hb ho198
                         obtain ⟨Ao199, co199, eo199⟩ := Kd.R_slice HO275.out
                         (first | subst eo199 | (injection eo199 with f1_ f2_ f3_; have f4_ := f1_.symm; have f5_ := f3_.symm; clear f1_ f2_ f3_; subst f4_; subst f5_))
                         refine hK.out _ _ ⟨HS0_, HS1_, HS2_, HS3_, HS4_, HS5_⟩ (fun hHeld => ?_)
                         clear hK K
                         refine norm_ (a' := ?_) ?_ ?_
                         rotate_left
                         ·show Act.put _ (some 303) _ = _
                          simp only [sp_]
                          rfl
                         refine one_ (i := 26) (N := some 304) #[true, true, true, true, true, true, true, true, true, true, true, true, true, true, true, true, true, true, true, true, true, true, true, true, true, true, true, false, false] rfl rfl (one_of HT_.out (by kernel_rfl)) (by decide) (fun K hK => ?_)
                         refine goes_ Try.func46 (by kernel_rfl) rfl #[.slice (some ad241) t228.length co139, .slice Ao199 y273.length co199] (by rfl) rfl rfl (by (try simp only [List.map_toArray, List.map_cons, List.map_nil]); first | done | rfl | (simp only [List.length_drop, List.length_take]; rfl)) ?_
                         with_reducible refine (laws_xPlace.calls k4 _ _ t228 _ _ y273 t276 _ ?side1 ?side2 ?side3 ?side4 A182.out).mono ?_
                         (case side1 => repeat (first | exact (Kd.S_reads' HO_21.out).2.2 | (with_reducible refine Kd.C_alloc ?_ _) | (with_reducible refine Kd.C_drewN ?_ _) | (with_reducible refine Kd.C_drew ?_)))
                         (case side2 => exact (Kd.S_reads' HO_21.out).2.1)
                         (case side3 => repeat (first | exact (Kd.R_reads' HO275.out).2.2 | (with_reducible refine Kd.C_alloc ?_ _) | (with_reducible refine Kd.C_drewN ?_ _) | (with_reducible refine Kd.C_drew ?_)))
                         (case side4 => exact (Kd.R_reads' HO275.out).2.1)
                         rintro e w' ⟨rfl, ⟨nd, rfl⟩⟩
                         refine ⟨_, rfl, ?_⟩
                         refine hK.out _ _ ⟨hHeld.1, hHeld.2.1, hHeld.2.2.1, hHeld.2.2.2.1, hHeld.2.2.2.2.1, hHeld.2.2.2.2.2⟩ (fun hHeld => ?_)
                         clear hK K
                         refine norm_ (a' := ?_) ?_ ?_
                         rotate_left
                         ·show Act.put _ (some 304) _ = _
                          simp only [sp_]
                          rfl
                         refine pu_ (i := 27) (N := some 305) (v := ?_) (a' := ?_) HT_.out rfl rfl (Or.inl ⟨by rfl, ?_⟩) ?_ ?_
                         rotate_left
                         ·intro w'
                          go_simp
                          with_reducible rfl
                         rotate_left
                         ·simp only [sp_]
                          rfl
                         refine pu_ (i := 28) (N := some 306) (v := ?_) (a' := ?_) HT_.out rfl rfl (Or.inl ⟨by rfl, ?_⟩) ?_ ?_
                         rotate_left
                         ·intro w'
                          go_simp
                          with_reducible rfl
                         rotate_left
                         ·simp only [sp_]
                          rfl
                         refine done_ (done_of HT_.out (by kernel_rfl)) ?_
                         try go_wp2
                         refine Fc.hand k4 (by assumption) ?same ?measure ?rel
                         case same => kernel_rfl
                         case measure => have := HJ9.out; have := HJ32.out; have := HJ114.out; have := HK4.out; omega
                         case rel => exact ⟨(wrap64 (x29_4 + (rd (rd_L4 t228 x235_4) 2))), (x30_4), (wrap64 (x235_4 + 1)), (by first | rfl | (simp [Fc.nth]; done) | (simp [Fc.nth, *]; done)), (by first | rfl | (simp [Fc.nth]; done) | (simp [Fc.nth, *]; done)), (by first | rfl | (simp [Fc.nth]; done) | (simp [Fc.nth, *]; done)), H', ⟨by have := HJ9.out; have := HJ32.out; have := HJ114.out; have := HK4.out; omega⟩, ⟨by (with_reducible repeat (first | apply Kd.S_alloc | apply Kd.S_drewN | apply Kd.S_drew)); exact Kd.S_mono HO_21.out (fun _ hk => trivial)⟩, ⟨by (with_reducible repeat (first | apply Kd.S_alloc | apply Kd.S_drewN | apply Kd.S_drew)); exact Kd.S_mono HO_233.out (fun _ hk => trivial)⟩, ⟨by repeat (first | (with_reducible first | exact HB.out | apply bA_ | apply bN_ | apply bD_) | exact HB.out)⟩⟩
                     ·rw [if_neg c148] at H
                      exact absurd H (by simp)
                    ·rw [if_neg c147] at H
                     exact absurd H (by simp)
                 ·rw [if_neg c144] at H
                  exact absurd H (by simp)
                ·exact absurd (H8.h_len A111.out (of_decide_eq_true c141b0) (of_decide_eq_true c142b0)) c143
               ·rw [if_neg c142] at H
                exact absurd H (by simp)
              ·rw [if_neg c141] at H
               exact absurd H (by simp)
             ·rw [if_neg c140] at H
              have c140b0 : decide (x235_4 < (t228.length : Int)) = false := decide_eq_false c140
              clear c140
              by_cases c200 : x29_4 = t227
              ·rw [if_pos c200] at H
               have c200b0 : (x29_4 == t227) = true := beq_iff_eq.mpr c200
               have c200b1 : (x29_4 != t227) = false := bne_eq_false_iff_eq.mpr c200
               clear c200
               by_cases c201 : t227 = 0
               ·rw [if_pos c201] at H
                have c201b0 : (t227 == 0) = true := beq_iff_eq.mpr c201
                have c201b1 : (t227 != 0) = false := bne_eq_false_iff_eq.mpr c201
                clear c201
                obtain rfl := Option.some.inj H
                go_wp2
                go_ret
                exact ⟨by first | rfl | (simp [errW_none, errW_some] <;> rfl) | (simp [*, errW_none, errW_some] <;> rfl), by repeat (first | (with_reducible first | exact HB.out | apply bA_ | apply bN_ | apply bD_) | exact HB.out)⟩
               ·rw [if_neg c201] at H
                have c201b0 : (t227 == 0) = false := beq_eq_false_iff_ne.mpr c201
                have c201b1 : (t227 != 0) = true := bne_iff_ne.mpr c201
                obtain rfl := Option.some.inj H
                go_wp2
                go_ret
                exact ⟨by first | rfl | (simp [errW_none, errW_some] <;> rfl) | (simp [*, errW_none, errW_some] <;> rfl), by repeat (first | (with_reducible first | exact HB.out | apply bA_ | apply bN_ | apply bD_) | exact HB.out)⟩
              ·rw [if_neg c200] at H
               have c200b0 : (x29_4 == t227) = false := beq_eq_false_iff_ne.mpr c200
               have c200b1 : (x29_4 != t227) = true := bne_iff_ne.mpr c200
               obtain rfl := Option.some.inj H
               go_wp2
               go_ret
               exact ⟨by first | rfl | (simp [errW_none, errW_some] <;> rfl) | (simp [*, errW_none, errW_some] <;> rfl), by repeat (first | (with_reducible first | exact HB.out | apply bA_ | apply bN_ | apply bD_) | exact HB.out)⟩
          ·replace c138 := Bool.eq_false_iff.mpr c138
           subst c138
           have H1 : (some true) = some r := by rw [if_neg (show ¬ (false = true) by decide)] at H; exact H
           clear H
           have H := H1
           clear H1
           obtain rfl := Option.some.inj H
           go_wp2
           go_ret
           exact ⟨by first | rfl | (simp [errW_none, errW_some] <;> rfl) | (simp [*, errW_none, errW_some] <;> rfl), by repeat (first | (with_reducible first | exact HB.out | apply bA_ | apply bN_ | apply bD_) | exact HB.out)⟩
def laws_FnLinesAndHeaps.Pure : Prop := ∀ (l0 : List Int) (l1 : List Int), l0.length ≤ maxLen → l0.length * 1 ≤ 140737488351232 → (∀ x ∈ l0, (Lit.int .u8 x).wf = true) → l1.length ≤ maxLen → l1.length * 1 ≤ 140737488351232 → (∀ x ∈ l1, (Lit.int .u8 x).wf = true) → ∃ k, laws_FnLinesAndHeaps.f k l0 l1 = some true
theorem laws_FnLinesAndHeaps.walk (P : laws_FnLinesAndHeaps.Pure) (a0 : Option Addr) (len0 cap0 : Nat) (z0 : List Int) (a1 : Option Addr) (len1 cap1 : Nat) (z1 : List Int) (w : World) (w0 : (a0 = none ∧ len0 = 0 ∧ cap0 = 0 ∧ z0 = []) ∨ ∃ x, a0 = some x ∧ len0 ≤ cap0 ∧ cap0 ≤ maxLen ∧ z0.length = cap0 ∧ (∀ i, i < z0.length → w.cell? (x.add i) = some (.int .u8 (z0.getD i 0))) ∧ ∀ n ∈ z0, (Lit.int .u8 n).wf = true) (y0 : len0 * 1 ≤ 140737488351232) (w1 : (a1 = none ∧ len1 = 0 ∧ cap1 = 0 ∧ z1 = []) ∨ ∃ x, a1 = some x ∧ len1 ≤ cap1 ∧ cap1 ≤ maxLen ∧ z1.length = cap1 ∧ (∀ i, i < z1.length → w.cell? (x.add i) = some (.int .u8 (z1.getD i 0))) ∧ ∀ n ∈ z1, (Lit.int .u8 n).wf = true) (y1 : len1 * 1 ≤ 140737488351232) :
  Calls Try.prog 17 #[.slice a0 len0 cap0, .slice a1 len1 cap1] w fun e w' => e = .returned (.bool true) ∧ Below w.heap.size w w' := by
 obtain ⟨l0, rfl, hr0, hm0, hw0, hc0⟩ := ReadsInt.ofRowC w0
 obtain ⟨l1, rfl, hr1, hm1, hw1, hc1⟩ := ReadsInt.ofRowC w1
 obtain ⟨k, h⟩ := P l0 l1 hm0 y0 hw0 hm1 y1 hw1
 refine (laws_FnLinesAndHeaps.calls k _ _ l0 _ _ l1 true w (Kd.C_of_reads (d := (0 : Int)) (h1 := fun _ => rfl) hr0) hc0 (Kd.C_of_reads (d := (0 : Int)) (h1 := fun _ => rfl) hr1) hc1 h).mono ?_
 rintro e w' ⟨rfl, hd⟩
 exact ⟨rfl, hd⟩
end Go.Proofs.Ytjedhjeijpbobaa.GM
