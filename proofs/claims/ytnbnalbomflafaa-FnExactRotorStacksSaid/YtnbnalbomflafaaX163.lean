/-
  Texts of the seat, merged (part 3).
-/
import Derived.Test.YtnbnalbomflafaaWMore
import Derived.Test.YtnbnalbomflafaaProg
import Derived.Deep.Matrix
import Derived.Lib.SmallJoins
import Derived.WalkKit
import Derived.ProofKit
import Derived.OpenShut
import Derived.ChangeSame
import Derived.Test.YtnbnalbomflafaaX162
/-! ## Rf -/
namespace Go.Proofs.Ytnbnalbomflafaa.RA
open Go.RowKit Go.Proofs.YtnbnalbomflafaaW.PrintWords Go.Proofs.YtnbnalbomflafaaW.PrintLast Go.Proofs.YtnbnalbomflafaaW.PrintMore
set_option linter.unusedVariables false
set_option linter.unusedSimpArgs false
def T16_13 : Bool × List (List Nat × List Nat) := (true, [([], []), ([], []), ([1], [1]), ([0, 2, 2], [0, 2]), ([3], [3])])
def B16_13 : List Nat := [0, 0, 2, 7, 15]
theorem tabT16_13 : rtab .any (opsOf Try.f16 13) = T16_13 := by kernel_rfl
theorem bitsB16_13 : waitsOk T16_13.2 B16_13 = true := by kernel_rfl
set_option maxHeartbeats 4000000 in
set_option maxRecDepth 100000 in
theorem law_RotorStacks.walk (v0 : Value) (l0 : List (List Int)) (a1 : Int) (A_v2 : Option Addr) (c_v2 : Nat) (l2 : List Int) (a3 : Int) (w : World) (hv0 : RowsC w v0 l0) (hv2 : ListC w (.slice A_v2 l2.length c_v2) l2)  : Calls Try.prog 16 #[.agg #[v0], .int .i64 a1, (.slice A_v2 l2.length c_v2), .int .i64 a3] w fun e w' => e = .returned (.bool true) ∧ Below w.heap.size w w' := by
  have HS0 := Aside0.mk hv0
  have HS1 := Aside0.mk hv2
  clear hv0 hv2
  by_cases hl1 : (l2.length : Int) > 1048576
  · go_enter Try.func16, Try.ntmps16
    go_upto_region 1 with (fail)
    have HBw : Aside0 (Below w.heap.size w (w.alloc (.cells #[v0] 24))) := ⟨(Below.refl w.heap.size w).alloc (by simp) _⟩
    have hzb : w.heap.size + 1 ≤ (w.alloc (.cells #[v0] 24)).heap.size := by simp
    have cx_0 : (w.alloc (.cells #[v0] 24)).cell? ⟨w.heap.size, 0, none⟩ = some v0 := box_10 w v0 24
    generalize (w.alloc (.cells #[v0] 24)) = Wb at *
    go_wp2_with (fail)
    go_ret
    exact ⟨by first | rfl | trivial, HBw.out⟩
  have hs1 : SmallL l2 := by unfold SmallL; omega
  obtain ⟨z0, hz0⟩ : ∃ z, z = szZ l0 1048576 := ⟨_, rfl⟩
  rcases szZ_is l0 1048576 (by omega) with hq0 | ⟨hp0, hr0, hs0⟩
  · rw [← hz0] at hq0
    have hn0 : z0 < 0 := by omega
    replace hz0 := Aside0.mk hz0
    go_enter Try.func16, Try.ntmps16
    have HZ0 := Aside0.mk hz0.out
    go_upto_region 1 with (fail)
    have HBw : Aside0 (Below w.heap.size w (w.alloc (.cells #[v0] 24))) := ⟨(Below.refl w.heap.size w).alloc (by simp) _⟩
    have hzb : w.heap.size + 1 ≤ (w.alloc (.cells #[v0] 24)).heap.size := by simp
    have cx_0 : (w.alloc (.cells #[v0] 24)).cell? ⟨w.heap.size, 0, none⟩ = some v0 := box_10 w v0 24
    generalize (w.alloc (.cells #[v0] 24)) = Wb at *
    go_wp2_with (first | (go_at_call 19; refine (szG_c _ v0 l0 (HS0.out.below HBw.out) 1048576 (by omega)).mono ?_; rintro e W1 ⟨rfl, hB1⟩; rw [← HZ0.out]; have hz2 := hB1.size; have HB3 : Aside0 (Below w.heap.size w W1) := ⟨HBw.out.trans (hB1.mono (by omega))⟩; have HB4 : Aside0 (Below w.heap.size w W1) := ⟨HBw.out.trans (hB1.mono (by omega))⟩; have cx5 : W1.cell? ⟨w.heap.size, 0, none⟩ = some v0 := (hB1.cell (p := ⟨w.heap.size, 0, none⟩) (show w.heap.size < Wb.heap.size by omega)).trans cx_0; clear cx_0; clear HBw; clear hB1))
    go_ret
    exact ⟨by first | rfl | trivial, HB3.out⟩
  · rw [← hz0] at hp0 hr0
    have hg0 : ¬ (z0 < 0) := by omega
    have HM : Aside0 (Small l0 ∧ SmallL l2) := ⟨hs0, hs1⟩
    have ht0 : 0 ≤ tot l0 ∧ tot l0 ≤ 1048576 := ⟨tot_pos _, HM.out.1.2.1⟩
    have ht1 : 0 ≤ (l2.length : Int) ∧ (l2.length : Int) ≤ 1048576 := ⟨by omega, HM.out.2⟩
    have hk : ¬ (1 + tot l0 + (l2.length : Int) < 0) := by omega
    have HK0 : Aside0 (0 ≤ 1 + tot l0 ∧ 1 + tot l0 ≤ 100000000) := ⟨by omega⟩
    have HK1 : Aside0 (0 ≤ 1 + tot l0 + (l2.length : Int) ∧ 1 + tot l0 + (l2.length : Int) ≤ 100000000) := ⟨by omega⟩
    clear ht0 ht1
    obtain ⟨R, hR⟩ : ∃ R, R = (rotA l0 a1 l2 a3).1 := ⟨_, rfl⟩
    obtain ⟨ok, hok⟩ : ∃ ok, ok = (rotA l0 a1 l2 a3).2 := ⟨_, rfl⟩
    have hfit : Fits R := by rw [hR]; exact rotA_fits l0 a1 l2 a3
    have spec0 := fun W v u hv hu => spec_RotorStacks_c l0 a1 l2 a3 W v u hv hu
    have impl0 := fun W v u hv hu => impl_RotorStacks_c l0 a1 l2 a3 W v u hv hu
    rw [← hR, ← hok] at spec0 impl0
    have hq : ¬ (1 + tot R < 0) := by have := tot_pos R; omega
    have HF := Aside0.mk hfit
    have SP := Aside0.mk spec0
    have IM := Aside0.mk impl0
    clear hR hok hfit spec0 impl0
    have HZ0 := Aside0.mk hz0
    clear hz0
    clear hs0 hs1
    go_enter Try.func16, Try.ntmps16
    go_upto_region 1 with (fail)
    have HBw : Aside0 (Below w.heap.size w (w.alloc (.cells #[v0] 24))) := ⟨(Below.refl w.heap.size w).alloc (by simp) _⟩
    have hzb : w.heap.size + 1 ≤ (w.alloc (.cells #[v0] 24)).heap.size := by simp
    have cx_0 : (w.alloc (.cells #[v0] 24)).cell? ⟨w.heap.size, 0, none⟩ = some v0 := box_10 w v0 24
    generalize (w.alloc (.cells #[v0] 24)) = Wb at *
    go_upto_region 7 with (first | (go_at_call 19; refine (szG_c _ v0 l0 (HS0.out.below HBw.out) 1048576 (by omega)).mono ?_; rintro e W1 ⟨rfl, hB6⟩; rw [← HZ0.out]; have hz7 := hB6.size; have HB8 : Aside0 (Below w.heap.size w W1) := ⟨HBw.out.trans (hB6.mono (by omega))⟩; have HB9 : Aside0 (Below w.heap.size w W1) := ⟨HBw.out.trans (hB6.mono (by omega))⟩; have cx10 : W1.cell? ⟨w.heap.size, 0, none⟩ = some v0 := (hB6.cell (p := ⟨w.heap.size, 0, none⟩) (show w.heap.size < Wb.heap.size by omega)).trans cx_0; clear cx_0; clear HBw; clear hB6))
    clear HZ0
    go_upto_region 8 with (first | (go_at_call 21; refine (toG_c _ v0 l0 (HS0.out.below HB8.out) HM.out.1).mono ?_; rintro e W2 ⟨v11, rfl, hB12, hD13⟩; have hz14 := hB12.size; have HB15 : Aside0 (Below w.heap.size w W2) := ⟨HB8.out.trans (hB12.mono (by omega))⟩; have HB16 : Aside0 (Below w.heap.size w W2) := ⟨HB9.out.trans (hB12.mono (by omega))⟩; have cx17 : W2.cell? ⟨w.heap.size, 0, none⟩ = some v0 := (hB12.cell (p := ⟨w.heap.size, 0, none⟩) (show w.heap.size < W1.heap.size by omega)).trans cx10; clear cx10; clear HB8 HB9; have HD18 := Aside0.mk hD13.out.toU; clear hD13) | (go_at_call 28; refine (toL_c _ (.slice A_v2 l2.length c_v2) l2 (HS1.out.below HB16.out) HM.out.2).mono ?_; rintro e W3 ⟨v19, rfl, hB20, hD21⟩; have hz22 := hB20.size; have HB23 : Aside0 (Below w.heap.size w W3) := ⟨HB15.out.trans (hB20.mono (by omega))⟩; have HB24 : Aside0 (Below w.heap.size w W3) := ⟨HB16.out.trans (hB20.mono (by omega))⟩; have HD25 := Aside0.mk (HD18.out.below (by omega) hB20); have cx26 : W3.cell? ⟨w.heap.size, 0, none⟩ = some v0 := (hB20.cell (p := ⟨w.heap.size, 0, none⟩) (show w.heap.size < W2.heap.size by omega)).trans cx17; clear cx17; clear HB15 HB16 HD18; have HD27 := Aside0.mk hD21.out.toU; clear hD21) | (go_at_call 61; refine (SP.out _ v11 v19 HD25.out.reads HD27.out.reads).mono ?_; rintro e W4 ⟨v28, rfl, hB29, hD30⟩; obtain ⟨A31, c32, hv_, _⟩ := hD30.out; subst hv_; have hz33 := hB29.size; have HB34 : Aside0 (Below w.heap.size w W4) := ⟨HB23.out.trans (hB29.mono (by omega))⟩; have HB35 : Aside0 (Below w.heap.size w W4) := ⟨HB24.out.trans (hB29.mono (by omega))⟩; have HD36 := Aside0.mk (HD25.out.below (by omega) hB29); have HD37 := Aside0.mk (HD27.out.below (by omega) hB29); have cx38 : W4.cell? ⟨w.heap.size, 0, none⟩ = some v0 := (hB29.cell (p := ⟨w.heap.size, 0, none⟩) (show w.heap.size < W3.heap.size by omega)).trans cx26; clear cx26; clear HB23 HB24 HD25 HD27))
    have hB39 : Below W4.heap.size W4 (W4.alloc (.cells #[(.slice A31 R.length c32)] 59)) := (Below.refl _ _).alloc (Nat.le_refl _) _
    have cx40 : (W4.alloc (.cells #[(.slice A31 R.length c32)] 59)).cell? ⟨W4.heap.size, 0, none⟩ = some (.slice A31 R.length c32) := (blk_cell (blk_new _ _) 0).trans rfl
    have hz41 : W4.heap.size < (W4.alloc (.cells #[(.slice A31 R.length c32)] 59)).heap.size := by simp
    generalize (W4.alloc (.cells #[(.slice A31 R.length c32)] 59)) = W5 at *
    have hz42 := hB39.size
    have HB43 : Aside0 (Below w.heap.size w W5) := ⟨HB34.out.trans (hB39.mono (by omega))⟩
    have HB44 : Aside0 (Below w.heap.size w W5) := ⟨HB35.out.trans (hB39.mono (by omega))⟩
    have HB45 : Aside0 (Below W4.heap.size W4 W5) := ⟨hB39⟩
    have HD46 := Aside0.mk (HD36.out.below (by omega) hB39)
    have HD47 := Aside0.mk (HD37.out.below (by omega) hB39)
    have cx48 : W5.cell? ⟨w.heap.size, 0, none⟩ = some v0 := (hB39.cell (p := ⟨w.heap.size, 0, none⟩) (show w.heap.size < W4.heap.size by omega)).trans cx38
    clear cx38
    clear HB34 HB35 HD36 HD37
    clear HD46
    clear HD47
    go_upto_region 9 with (first | (go_at_call 21; refine (toG_c _ v0 l0 (HS0.out.below HB43.out) HM.out.1).mono ?_; rintro e W6 ⟨v49, rfl, hB50, hD51⟩; obtain ⟨A52, c53, hv_, _⟩ := hD51.out.slice; subst hv_; have hz54 := hB50.size; have HB55 : Aside0 (Below w.heap.size w W6) := ⟨HB43.out.trans (hB50.mono (by omega))⟩; have HB56 : Aside0 (Below w.heap.size w W6) := ⟨HB44.out.trans (hB50.mono (by omega))⟩; have HB57 : Aside0 (Below W4.heap.size W4 W6) := ⟨HB45.out.trans (hB50.mono (by omega))⟩; have cx58 : W6.cell? ⟨w.heap.size, 0, none⟩ = some v0 := (hB50.cell (p := ⟨w.heap.size, 0, none⟩) (show w.heap.size < W5.heap.size by omega)).trans cx48; have cx59 : W6.cell? ⟨W4.heap.size, 0, none⟩ = some (.slice A31 R.length c32) := (hB50.cell (p := ⟨W4.heap.size, 0, none⟩) (show W4.heap.size < W5.heap.size by omega)).trans cx40; clear cx48 cx40; clear HB43 HB44 HB45; have HD60 := Aside0.mk hD51.out.toU; clear hD51))
    have hB61 : Below W6.heap.size W6 (W6.alloc (.cells #[(.slice A52 l0.length c53)] 30)) := (Below.refl _ _).alloc (Nat.le_refl _) _
    have cx62 : (W6.alloc (.cells #[(.slice A52 l0.length c53)] 30)).cell? ⟨W6.heap.size, 0, none⟩ = some (.slice A52 l0.length c53) := (blk_cell (blk_new _ _) 0).trans rfl
    have hz63 : W6.heap.size < (W6.alloc (.cells #[(.slice A52 l0.length c53)] 30)).heap.size := by simp
    generalize (W6.alloc (.cells #[(.slice A52 l0.length c53)] 30)) = W7 at *
    have hz64 := hB61.size
    have HB65 : Aside0 (Below w.heap.size w W7) := ⟨HB55.out.trans (hB61.mono (by omega))⟩
    have HB66 : Aside0 (Below w.heap.size w W7) := ⟨HB56.out.trans (hB61.mono (by omega))⟩
    have HB67 : Aside0 (Below W4.heap.size W4 W7) := ⟨HB57.out.trans (hB61.mono (by omega))⟩
    have HD68 := Aside0.mk (HD60.out.below (by omega) hB61)
    have cx69 : W7.cell? ⟨w.heap.size, 0, none⟩ = some v0 := (hB61.cell (p := ⟨w.heap.size, 0, none⟩) (show w.heap.size < W6.heap.size by omega)).trans cx58
    have cx70 : W7.cell? ⟨W4.heap.size, 0, none⟩ = some (.slice A31 R.length c32) := (hB61.cell (p := ⟨W4.heap.size, 0, none⟩) (show W4.heap.size < W6.heap.size by omega)).trans cx59
    clear cx58 cx59
    clear HB55 HB56 HB57 HD60
    go_upto_region 10 with (first | (go_at_call 28; refine (toL_c _ (.slice A_v2 l2.length c_v2) l2 (HS1.out.below HB66.out) HM.out.2).mono ?_; rintro e W8 ⟨v71, rfl, hB72, hD73⟩; have hz74 := hB72.size; have HB75 : Aside0 (Below w.heap.size w W8) := ⟨HB65.out.trans (hB72.mono (by omega))⟩; have HB76 : Aside0 (Below w.heap.size w W8) := ⟨HB66.out.trans (hB72.mono (by omega))⟩; have HB77 : Aside0 (Below W4.heap.size W4 W8) := ⟨HB67.out.trans (hB72.mono (by omega))⟩; have HD78 := Aside0.mk (HD68.out.below (by omega) hB72); have cx79 : W8.cell? ⟨w.heap.size, 0, none⟩ = some v0 := (hB72.cell (p := ⟨w.heap.size, 0, none⟩) (show w.heap.size < W7.heap.size by omega)).trans cx69; have cx80 : W8.cell? ⟨W4.heap.size, 0, none⟩ = some (.slice A31 R.length c32) := (hB72.cell (p := ⟨W4.heap.size, 0, none⟩) (show W4.heap.size < W7.heap.size by omega)).trans cx70; have cx81 : W8.cell? ⟨W6.heap.size, 0, none⟩ = some (.slice A52 l0.length c53) := (hB72.cell (p := ⟨W6.heap.size, 0, none⟩) (show W6.heap.size < W7.heap.size by omega)).trans cx62; clear cx69 cx70 cx62; clear HB65 HB66 HB67 HD68; have HD82 := Aside0.mk hD73.out.toU; clear hD73))
    go_upto_region 11 with (first | (go_at_call 62; refine (IM.out _ (.slice A52 l0.length c53) v71 HD78.out.reads HD82.out.reads).mono ?_; rintro e W9 ⟨v83, rfl, hB84, hD85⟩; obtain ⟨A86, c87, hv_, _⟩ := hD85.out.slice; subst hv_; have hz88 := hB84.size; have HB89 : Aside0 (Below w.heap.size w W9) := ⟨HB75.out.trans (hB84.mono (by omega))⟩; have HB90 : Aside0 (Below w.heap.size w W9) := ⟨HB76.out.trans (hB84.mono (by omega))⟩; have HB91 : Aside0 (Below W4.heap.size W4 W9) := ⟨HB77.out.trans (hB84.mono (by omega))⟩; have HD92 := Aside0.mk (HD78.out.below (by omega) hB84); have HD93 := Aside0.mk (HD82.out.below (by omega) hB84); have cx94 : W9.cell? ⟨w.heap.size, 0, none⟩ = some v0 := (hB84.cell (p := ⟨w.heap.size, 0, none⟩) (show w.heap.size < W8.heap.size by omega)).trans cx79; have cx95 : W9.cell? ⟨W4.heap.size, 0, none⟩ = some (.slice A31 R.length c32) := (hB84.cell (p := ⟨W4.heap.size, 0, none⟩) (show W4.heap.size < W8.heap.size by omega)).trans cx80; have cx96 : W9.cell? ⟨W6.heap.size, 0, none⟩ = some (.slice A52 l0.length c53) := (hB84.cell (p := ⟨W6.heap.size, 0, none⟩) (show W6.heap.size < W8.heap.size by omega)).trans cx81; clear cx79 cx80 cx81; clear HB75 HB76 HB77 HD78 HD82; have HD97 := Aside0.mk hD85.out.toU; clear hD85))
    have hB98 : Below W9.heap.size W9 (W9.alloc (.cells #[(.slice A86 R.length c87)] 59)) := (Below.refl _ _).alloc (Nat.le_refl _) _
    have cx99 : (W9.alloc (.cells #[(.slice A86 R.length c87)] 59)).cell? ⟨W9.heap.size, 0, none⟩ = some (.slice A86 R.length c87) := (blk_cell (blk_new _ _) 0).trans rfl
    have hz100 : W9.heap.size < (W9.alloc (.cells #[(.slice A86 R.length c87)] 59)).heap.size := by simp
    generalize (W9.alloc (.cells #[(.slice A86 R.length c87)] 59)) = W10 at *
    have hz101 := hB98.size
    have HB102 : Aside0 (Below w.heap.size w W10) := ⟨HB89.out.trans (hB98.mono (by omega))⟩
    have HB103 : Aside0 (Below w.heap.size w W10) := ⟨HB90.out.trans (hB98.mono (by omega))⟩
    have HB104 : Aside0 (Below W4.heap.size W4 W10) := ⟨HB91.out.trans (hB98.mono (by omega))⟩
    have HD105 := Aside0.mk (HD92.out.below (by omega) hB98)
    have HD106 := Aside0.mk (HD93.out.below (by omega) hB98)
    have HD107 := Aside0.mk (HD97.out.below (by omega) hB98)
    have cx108 : W10.cell? ⟨w.heap.size, 0, none⟩ = some v0 := (hB98.cell (p := ⟨w.heap.size, 0, none⟩) (show w.heap.size < W9.heap.size by omega)).trans cx94
    have cx109 : W10.cell? ⟨W4.heap.size, 0, none⟩ = some (.slice A31 R.length c32) := (hB98.cell (p := ⟨W4.heap.size, 0, none⟩) (show W4.heap.size < W9.heap.size by omega)).trans cx95
    have cx110 : W10.cell? ⟨W6.heap.size, 0, none⟩ = some (.slice A52 l0.length c53) := (hB98.cell (p := ⟨W6.heap.size, 0, none⟩) (show W6.heap.size < W9.heap.size by omega)).trans cx96
    clear cx94 cx95 cx96
    clear HB89 HB90 HB91 HD92 HD93 HD97
    go_upto_region 13 with (first | (go_at_call 57; refine (eqT_c _ (.slice A86 R.length c87) (.slice A31 R.length c32) R HD107.out.reads (hD30.out.below HB104.out) HF.out).mono ?_; rintro e W11 ⟨rfl, hB111⟩; have hz112 := hB111.size; have HB113 : Aside0 (Below w.heap.size w W11) := ⟨HB102.out.trans (hB111.mono (by omega))⟩; have HB114 : Aside0 (Below w.heap.size w W11) := ⟨HB103.out.trans (hB111.mono (by omega))⟩; have HB115 : Aside0 (Below W4.heap.size W4 W11) := ⟨HB104.out.trans (hB111.mono (by omega))⟩; have HD116 := Aside0.mk (HD105.out.below (by omega) hB111); have HD117 := Aside0.mk (HD106.out.below (by omega) hB111); have HD118 := Aside0.mk (HD107.out.below (by omega) hB111); have cx119 : W11.cell? ⟨w.heap.size, 0, none⟩ = some v0 := (hB111.cell (p := ⟨w.heap.size, 0, none⟩) (show w.heap.size < W10.heap.size by omega)).trans cx108; have cx120 : W11.cell? ⟨W4.heap.size, 0, none⟩ = some (.slice A31 R.length c32) := (hB111.cell (p := ⟨W4.heap.size, 0, none⟩) (show W4.heap.size < W10.heap.size by omega)).trans cx109; have cx121 : W11.cell? ⟨W6.heap.size, 0, none⟩ = some (.slice A52 l0.length c53) := (hB111.cell (p := ⟨W6.heap.size, 0, none⟩) (show W6.heap.size < W10.heap.size by omega)).trans cx110; have cx122 : W11.cell? ⟨W9.heap.size, 0, none⟩ = some (.slice A86 R.length c87) := (hB111.cell (p := ⟨W9.heap.size, 0, none⟩) (show W9.heap.size < W10.heap.size by omega)).trans cx99; clear cx108 cx109 cx110 cx99; clear HB102 HB103 HB104 HD105 HD106 HD107; clear hB111))
    go_upto_region 13 with (fail)
    have HB123 : Aside0 (Below w.heap.size w W11.drew) := ⟨pw_below_drewN HB113.out 1⟩
    have HB124 : Aside0 (Below w.heap.size w W11.drew) := ⟨pw_below_drewN HB114.out 1⟩
    have HB125 : Aside0 (Below W4.heap.size W4 W11.drew) := ⟨pw_below_drewN HB115.out 1⟩
    have HD126 : Aside0 (RowsU W11.drew W5.heap.size W6.heap.size (.slice A52 l0.length c53) l0) := ⟨HD116.out.drewN 1⟩
    clear HD116
    have HD127 : Aside0 (ListU W11.drew W7.heap.size W8.heap.size v71 l2) := ⟨HD117.out.drewN 1⟩
    clear HD117
    have HD128 : Aside0 (RowsU W11.drew W8.heap.size W9.heap.size (.slice A86 R.length c87) R) := ⟨HD118.out.drewN 1⟩
    clear HD118
    have cx129 : W11.drew.cell? ⟨w.heap.size, 0, none⟩ = some v0 := cx119
    have cx130 : W11.drew.cell? ⟨W4.heap.size, 0, none⟩ = some (.slice A31 R.length c32) := cx120
    have cx131 : W11.drew.cell? ⟨W6.heap.size, 0, none⟩ = some (.slice A52 l0.length c53) := cx121
    have cx132 : W11.drew.cell? ⟨W9.heap.size, 0, none⟩ = some (.slice A86 R.length c87) := cx122
    clear cx119 cx120 cx121 cx122
    have hz133 : W11.heap.size ≤ W11.drew.heap.size := by simp
    refine start_ (n := 5) (S := fun w' => w'.cell? ⟨w.heap.size, 0, none⟩ = some v0 ∧ w'.cell? ⟨W4.heap.size, 0, none⟩ = some (.slice A31 R.length c32) ∧ w'.cell? ⟨W6.heap.size, 0, none⟩ = some (.slice A52 l0.length c53) ∧ w'.cell? ⟨W9.heap.size, 0, none⟩ = some (.slice A86 R.length c87)) (ds := []) #[false, false, false, false, false] (by kernel_rfl) rfl rfl ⟨cx129, cx130, cx131, cx132⟩ (fun hHeld => ?_)
    refine with_tabW tabT16_13 bitsB16_13 (fun HT_ HW_ => ?_)
    generalize W11.drew = W12 at *
    refine take_ (i := 0) (N := some 60) (v := ?_) (a' := ?_) #[true, false, false, false, false] rfl rfl (take_ofW HT_.out HW_.out (by kernel_rfl)) (fun _ _ _ h => h) (Or.inl ⟨by rfl, ?_⟩) hHeld ?_ ?_
    rotate_left
    · rintro w' ⟨s0, s1, s2, s3⟩
      go_simp
      with_reducible rfl
    rotate_left
    · simp only [Act.put, List.setIfInBounds_toArray, List.set_cons_zero, List.set_cons_succ, i64_w, i32_w]
      rfl
    refine take_ (i := 1) (N := some 61) (v := ?_) (a' := ?_) #[true, true, false, false, false] rfl rfl (take_ofW HT_.out HW_.out (by kernel_rfl)) (fun _ _ _ h => h) (Or.inl ⟨by rfl, ?_⟩) hHeld ?_ ?_
    rotate_left
    · rintro w' ⟨s0, s1, s2, s3⟩
      go_simp
      with_reducible rfl
    rotate_left
    · simp only [Act.put, List.setIfInBounds_toArray, List.set_cons_zero, List.set_cons_succ, i64_w, i32_w]
      rfl
    refine one_ (i := 2) (N := some 62) #[true, true, true, false, false] rfl rfl (one_of HT_.out (by kernel_rfl)) (by decide) (fun K hK => ?_)
    refine goes_ Try.func21 (by kernel_rfl) rfl #[.agg #[v0]] (by rfl) rfl rfl (by (try simp only [List.map_toArray, List.map_cons, List.map_nil]); first | done | rfl) ?_
    (with_reducible refine (toG_c _ v0 l0 (HS0.out.below HB123.out) HM.out.1).mono ?_; rintro e W13 ⟨v134, rfl, hB135, hD136⟩; have hz137 := hB135.size; have HB138 : Aside0 (Below w.heap.size w W13) := ⟨HB123.out.trans (hB135.mono (by omega))⟩; have HB139 : Aside0 (Below w.heap.size w W13) := ⟨HB124.out.trans (hB135.mono (by omega))⟩; have HB140 : Aside0 (Below W4.heap.size W4 W13) := ⟨HB125.out.trans (hB135.mono (by omega))⟩; have HD141 := Aside0.mk (HD126.out.below (by omega) hB135); have HD142 := Aside0.mk (HD127.out.below (by omega) hB135); have HD143 := Aside0.mk (HD128.out.below (by omega) hB135); have cx144 : W13.cell? ⟨w.heap.size, 0, none⟩ = some v0 := (hB135.cell (p := ⟨w.heap.size, 0, none⟩) (show w.heap.size < W12.heap.size by omega)).trans cx129; have cx145 : W13.cell? ⟨W4.heap.size, 0, none⟩ = some (.slice A31 R.length c32) := (hB135.cell (p := ⟨W4.heap.size, 0, none⟩) (show W4.heap.size < W12.heap.size by omega)).trans cx130; have cx146 : W13.cell? ⟨W6.heap.size, 0, none⟩ = some (.slice A52 l0.length c53) := (hB135.cell (p := ⟨W6.heap.size, 0, none⟩) (show W6.heap.size < W12.heap.size by omega)).trans cx131; have cx147 : W13.cell? ⟨W9.heap.size, 0, none⟩ = some (.slice A86 R.length c87) := (hB135.cell (p := ⟨W9.heap.size, 0, none⟩) (show W9.heap.size < W12.heap.size by omega)).trans cx132; clear cx129 cx130 cx131 cx132; clear HB123 HB124 HB125 HD126 HD127 HD128; have HD148 := Aside0.mk hD136.out.toU; clear hD136)
    refine ⟨_, rfl, ?_⟩
    refine hK.out _ _ ⟨cx144, cx145, cx146, cx147⟩ (fun hHeld => ?_)
    clear hK K
    refine norm_ (a' := ?_) ?_ ?_
    rotate_left
    · show Act.put _ (some 62) _ = _
      simp only [Act.put, List.setIfInBounds_toArray, List.set_cons_zero, List.set_cons_succ, i64_w, i32_w]
      rfl
    refine one_ (i := 3) (N := some 63) #[true, true, true, true, false] rfl rfl (one_of HT_.out (by kernel_rfl)) (by decide) (fun K hK => ?_)
    refine goes_ Try.func24 (by kernel_rfl) rfl #[.agg #[(.slice A52 l0.length c53)], .agg #[v134]] (by rfl) rfl rfl (by (try simp only [List.map_toArray, List.map_cons, List.map_nil]); first | done | rfl) ?_
    (with_reducible refine (eqG_c _ (.slice A52 l0.length c53) v134 l0 HD141.out.reads HD148.out.reads HM.out.1).mono ?_; rintro e W14 ⟨rfl, hB149⟩; have hz150 := hB149.size; have HB151 : Aside0 (Below w.heap.size w W14) := ⟨HB138.out.trans (hB149.mono (by omega))⟩; have HB152 : Aside0 (Below w.heap.size w W14) := ⟨HB139.out.trans (hB149.mono (by omega))⟩; have HB153 : Aside0 (Below W4.heap.size W4 W14) := ⟨HB140.out.trans (hB149.mono (by omega))⟩; have HD154 := Aside0.mk (HD141.out.below (by omega) hB149); have HD155 := Aside0.mk (HD142.out.below (by omega) hB149); have HD156 := Aside0.mk (HD143.out.below (by omega) hB149); have HD157 := Aside0.mk (HD148.out.below (by omega) hB149); have cx158 : W14.cell? ⟨w.heap.size, 0, none⟩ = some v0 := (hB149.cell (p := ⟨w.heap.size, 0, none⟩) (show w.heap.size < W13.heap.size by omega)).trans cx144; have cx159 : W14.cell? ⟨W4.heap.size, 0, none⟩ = some (.slice A31 R.length c32) := (hB149.cell (p := ⟨W4.heap.size, 0, none⟩) (show W4.heap.size < W13.heap.size by omega)).trans cx145; have cx160 : W14.cell? ⟨W6.heap.size, 0, none⟩ = some (.slice A52 l0.length c53) := (hB149.cell (p := ⟨W6.heap.size, 0, none⟩) (show W6.heap.size < W13.heap.size by omega)).trans cx146; have cx161 : W14.cell? ⟨W9.heap.size, 0, none⟩ = some (.slice A86 R.length c87) := (hB149.cell (p := ⟨W9.heap.size, 0, none⟩) (show W9.heap.size < W13.heap.size by omega)).trans cx147; clear cx144 cx145 cx146 cx147; clear HB138 HB139 HB140 HD141 HD142 HD143 HD148; clear hB149)
    refine ⟨_, rfl, ?_⟩
    refine hK.out _ _ ⟨cx158, cx159, cx160, cx161⟩ (fun hHeld => ?_)
    clear hK K
    refine norm_ (a' := ?_) ?_ ?_
    rotate_left
    · show Act.put _ (some 63) _ = _
      simp only [Act.put, List.setIfInBounds_toArray, List.set_cons_zero, List.set_cons_succ, i64_w, i32_w]
      rfl
    refine pure_ (i := 4) (N := some 64) (v := ?_) (a' := ?_) #[true, true, true, true, true] rfl rfl (any_of HT_.out (by kernel_rfl)) (fun _ _ _ h => h) (Or.inl ⟨by rfl, ?_⟩) ?_ ?_
    rotate_left
    · intro w'
      go_simp
      with_reducible rfl
    rotate_left
    · simp only [Act.put, List.setIfInBounds_toArray, List.set_cons_zero, List.set_cons_succ, i64_w, i32_w]
      rfl
    refine done_ (done_of HT_.out (by kernel_rfl)) ?_
    clear HT_ HW_ hHeld
    clear HD157
    go_upto_region 18 with (first | (go_at_call 28; refine (toL_c _ (.slice A_v2 l2.length c_v2) l2 (HS1.out.below HB152.out) HM.out.2).mono ?_; rintro e W15 ⟨v162, rfl, hB163, hD164⟩; have hz165 := hB163.size; have HB166 : Aside0 (Below w.heap.size w W15) := ⟨HB151.out.trans (hB163.mono (by omega))⟩; have HB167 : Aside0 (Below w.heap.size w W15) := ⟨HB152.out.trans (hB163.mono (by omega))⟩; have HB168 : Aside0 (Below W4.heap.size W4 W15) := ⟨HB153.out.trans (hB163.mono (by omega))⟩; have HD169 := Aside0.mk (HD154.out.below (by omega) hB163); have HD170 := Aside0.mk (HD155.out.below (by omega) hB163); have HD171 := Aside0.mk (HD156.out.below (by omega) hB163); have cx172 : W15.cell? ⟨w.heap.size, 0, none⟩ = some v0 := (hB163.cell (p := ⟨w.heap.size, 0, none⟩) (show w.heap.size < W14.heap.size by omega)).trans cx158; have cx173 : W15.cell? ⟨W4.heap.size, 0, none⟩ = some (.slice A31 R.length c32) := (hB163.cell (p := ⟨W4.heap.size, 0, none⟩) (show W4.heap.size < W14.heap.size by omega)).trans cx159; have cx174 : W15.cell? ⟨W6.heap.size, 0, none⟩ = some (.slice A52 l0.length c53) := (hB163.cell (p := ⟨W6.heap.size, 0, none⟩) (show W6.heap.size < W14.heap.size by omega)).trans cx160; have cx175 : W15.cell? ⟨W9.heap.size, 0, none⟩ = some (.slice A86 R.length c87) := (hB163.cell (p := ⟨W9.heap.size, 0, none⟩) (show W9.heap.size < W14.heap.size by omega)).trans cx161; clear cx158 cx159 cx160 cx161; clear HB151 HB152 HB153 HD154 HD155 HD156; have HD176 := Aside0.mk hD164.out.toU; clear hD164) | (go_at_call 30; refine (eqL_c _ v71 v162 l2 HD170.out.reads HD176.out.reads HM.out.2).mono ?_; rintro e w_ ⟨rfl, ⟨nd177, rfl⟩⟩; have HB178 : Aside0 (Below w.heap.size w (W15.drewN nd177)) := ⟨pw_below_drewN HB166.out nd177⟩; have HB179 : Aside0 (Below w.heap.size w (W15.drewN nd177)) := ⟨pw_below_drewN HB167.out nd177⟩; have HB180 : Aside0 (Below W4.heap.size W4 (W15.drewN nd177)) := ⟨pw_below_drewN HB168.out nd177⟩; have HD181 := Aside0.mk (HD169.out.drewN nd177); have HD182 := Aside0.mk (HD170.out.drewN nd177); have HD183 := Aside0.mk (HD171.out.drewN nd177); have HD184 := Aside0.mk (HD176.out.drewN nd177); have cx185 : (W15.drewN nd177).cell? ⟨w.heap.size, 0, none⟩ = some v0 := cx172; have cx186 : (W15.drewN nd177).cell? ⟨W4.heap.size, 0, none⟩ = some (.slice A31 R.length c32) := cx173; have cx187 : (W15.drewN nd177).cell? ⟨W6.heap.size, 0, none⟩ = some (.slice A52 l0.length c53) := cx174; have cx188 : (W15.drewN nd177).cell? ⟨W9.heap.size, 0, none⟩ = some (.slice A86 R.length c87) := cx175; clear cx172 cx173 cx174 cx175; have hz189 : W15.heap.size ≤ (W15.drewN nd177).heap.size := (by simp); clear HB166 HB167 HB168 HD169 HD170 HD171 HD176; generalize W15.drewN nd177 = W16 at *))
    clear HD184
    go_upto_region 19 with (first | (go_at_call 35; refine (markG_U W5.heap.size W6.heap.size _ (by omega) (.slice A52 l0.length c53) l0 1 HD181.out HM.out.1 HK0.out (by omega)).mono ?_; rintro e W17 ⟨rfl, hB190, HD191, hK192⟩; have hz193 := hB190.size; have HB194 : Aside0 (Below w.heap.size w W17) := ⟨HB178.out.trans (hB190.mono (by omega))⟩; have HB195 : Aside0 (Below w.heap.size w W17) := ⟨HB179.out.trans (hB190.mono (by omega))⟩; have HB196 : Aside0 (Below W4.heap.size W4 W17) := ⟨HB180.out.trans (hB190.mono (by omega))⟩; have HD197 := Aside0.mk (HD182.out.moveIn fun b h1 h2 => hK192.out b (by omega) (by omega)); have HD198 := Aside0.mk (HD183.out.moveIn fun b h1 h2 => hK192.out b (by omega) (by omega)); have cx199 : W17.cell? ⟨w.heap.size, 0, none⟩ = some v0 := (hB190.cell (p := ⟨w.heap.size, 0, none⟩) (show w.heap.size < W5.heap.size by omega)).trans cx185; have cx200 : W17.cell? ⟨W4.heap.size, 0, none⟩ = some (.slice A31 R.length c32) := (hB190.cell (p := ⟨W4.heap.size, 0, none⟩) (show W4.heap.size < W5.heap.size by omega)).trans cx186; have cx201 : W17.cell? ⟨W6.heap.size, 0, none⟩ = some (.slice A52 l0.length c53) := (cell_same (hK192.out (W6.heap.size) (by omega) (by omega)) 0).trans cx187; have cx202 : W17.cell? ⟨W9.heap.size, 0, none⟩ = some (.slice A86 R.length c87) := (cell_same (hK192.out (W9.heap.size) (by omega) (by omega)) 0).trans cx188; clear cx185 cx186 cx187 cx188; clear HB178 HB179 HB180 HD182 HD183; clear HD181 hB190 hK192))
    clear HD191
    go_upto_region 20 with (first | (go_at_call 36; refine (markL_U W7.heap.size W8.heap.size _ (by omega) v71 l2 (1 + tot l0) HD197.out HM.out.2 HK1.out HK0.out.1).mono ?_; rintro e W18 ⟨rfl, hB203, HD204, hK205⟩; have hz206 := hB203.size; have HB207 : Aside0 (Below w.heap.size w W18) := ⟨HB194.out.trans (hB203.mono (by omega))⟩; have HB208 : Aside0 (Below w.heap.size w W18) := ⟨HB195.out.trans (hB203.mono (by omega))⟩; have HB209 : Aside0 (Below W4.heap.size W4 W18) := ⟨HB196.out.trans (hB203.mono (by omega))⟩; have HD210 := Aside0.mk (HD198.out.moveIn fun b h1 h2 => hK205.out b (by omega) (by omega)); have cx211 : W18.cell? ⟨w.heap.size, 0, none⟩ = some v0 := (hB203.cell (p := ⟨w.heap.size, 0, none⟩) (show w.heap.size < W7.heap.size by omega)).trans cx199; have cx212 : W18.cell? ⟨W4.heap.size, 0, none⟩ = some (.slice A31 R.length c32) := (hB203.cell (p := ⟨W4.heap.size, 0, none⟩) (show W4.heap.size < W7.heap.size by omega)).trans cx200; have cx213 : W18.cell? ⟨W6.heap.size, 0, none⟩ = some (.slice A52 l0.length c53) := (hB203.cell (p := ⟨W6.heap.size, 0, none⟩) (show W6.heap.size < W7.heap.size by omega)).trans cx201; have cx214 : W18.cell? ⟨W9.heap.size, 0, none⟩ = some (.slice A86 R.length c87) := (cell_same (hK205.out (W9.heap.size) (by omega) (by omega)) 0).trans cx202; clear cx199 cx200 cx201 cx202; clear HB194 HB195 HB196 HD198; clear HD197 hB203 hK205))
    clear HD204
    go_upto_region 23 with (first | (go_at_call 57; refine (eqT_c _ (.slice A86 R.length c87) (.slice A31 R.length c32) R HD210.out.reads (hD30.out.below HB209.out) HF.out).mono ?_; rintro e W19 ⟨rfl, hB215⟩; have hz216 := hB215.size; have HB217 : Aside0 (Below w.heap.size w W19) := ⟨HB207.out.trans (hB215.mono (by omega))⟩; have HB218 : Aside0 (Below w.heap.size w W19) := ⟨HB208.out.trans (hB215.mono (by omega))⟩; have HB219 : Aside0 (Below W4.heap.size W4 W19) := ⟨HB209.out.trans (hB215.mono (by omega))⟩; have HD220 := Aside0.mk (HD210.out.below (by omega) hB215); have cx221 : W19.cell? ⟨w.heap.size, 0, none⟩ = some v0 := (hB215.cell (p := ⟨w.heap.size, 0, none⟩) (show w.heap.size < W18.heap.size by omega)).trans cx211; have cx222 : W19.cell? ⟨W4.heap.size, 0, none⟩ = some (.slice A31 R.length c32) := (hB215.cell (p := ⟨W4.heap.size, 0, none⟩) (show W4.heap.size < W18.heap.size by omega)).trans cx212; have cx223 : W19.cell? ⟨W6.heap.size, 0, none⟩ = some (.slice A52 l0.length c53) := (hB215.cell (p := ⟨W6.heap.size, 0, none⟩) (show W6.heap.size < W18.heap.size by omega)).trans cx213; have cx224 : W19.cell? ⟨W9.heap.size, 0, none⟩ = some (.slice A86 R.length c87) := (hB215.cell (p := ⟨W9.heap.size, 0, none⟩) (show W9.heap.size < W18.heap.size by omega)).trans cx214; clear cx211 cx212 cx213 cx214; clear HB207 HB208 HB209 HD210; clear hB215))
    go_upto_region 25 with (first | (go_at_call 60; refine (markT_U W8.heap.size W9.heap.size _ (by omega) (.slice A86 R.length c87) R 1 rfl HD220.out HF.out).mono ?_; rintro e W20 ⟨rfl, hB225, HD226, hK227⟩; have hz228 := hB225.size; have HB229 : Aside0 (Below w.heap.size w W20) := ⟨HB217.out.trans (hB225.mono (by omega))⟩; have HB230 : Aside0 (Below w.heap.size w W20) := ⟨HB218.out.trans (hB225.mono (by omega))⟩; have HB231 : Aside0 (Below W4.heap.size W4 W20) := ⟨HB219.out.trans (hB225.mono (by omega))⟩; have cx232 : W20.cell? ⟨w.heap.size, 0, none⟩ = some v0 := (hB225.cell (p := ⟨w.heap.size, 0, none⟩) (show w.heap.size < W8.heap.size by omega)).trans cx221; have cx233 : W20.cell? ⟨W4.heap.size, 0, none⟩ = some (.slice A31 R.length c32) := (hB225.cell (p := ⟨W4.heap.size, 0, none⟩) (show W4.heap.size < W8.heap.size by omega)).trans cx222; have cx234 : W20.cell? ⟨W6.heap.size, 0, none⟩ = some (.slice A52 l0.length c53) := (hB225.cell (p := ⟨W6.heap.size, 0, none⟩) (show W6.heap.size < W8.heap.size by omega)).trans cx223; have cx235 : W20.cell? ⟨W9.heap.size, 0, none⟩ = some (.slice A86 R.length c87) := (cell_same (hK227.out (W9.heap.size) (by omega) (by omega)) 0).trans cx224; clear cx221 cx222 cx223 cx224; clear HB217 HB218 HB219; clear HD220 hB225 hK227))
    go_upto_region 30 with (first | (go_at_call 63; refine (heldT_c _ (.slice A86 R.length c87) R HD226.out.reads HF.out).mono ?_; rintro e W21 ⟨rfl, hB236⟩; have hz237 := hB236.size; have HB238 : Aside0 (Below w.heap.size w W21) := ⟨HB229.out.trans (hB236.mono (by omega))⟩; have HB239 : Aside0 (Below w.heap.size w W21) := ⟨HB230.out.trans (hB236.mono (by omega))⟩; have HB240 : Aside0 (Below W4.heap.size W4 W21) := ⟨HB231.out.trans (hB236.mono (by omega))⟩; have HD241 := Aside0.mk (HD226.out.below (by omega) hB236); have cx242 : W21.cell? ⟨w.heap.size, 0, none⟩ = some v0 := (hB236.cell (p := ⟨w.heap.size, 0, none⟩) (show w.heap.size < W20.heap.size by omega)).trans cx232; have cx243 : W21.cell? ⟨W4.heap.size, 0, none⟩ = some (.slice A31 R.length c32) := (hB236.cell (p := ⟨W4.heap.size, 0, none⟩) (show W4.heap.size < W20.heap.size by omega)).trans cx233; have cx244 : W21.cell? ⟨W6.heap.size, 0, none⟩ = some (.slice A52 l0.length c53) := (hB236.cell (p := ⟨W6.heap.size, 0, none⟩) (show W6.heap.size < W20.heap.size by omega)).trans cx234; have cx245 : W21.cell? ⟨W9.heap.size, 0, none⟩ = some (.slice A86 R.length c87) := (hB236.cell (p := ⟨W9.heap.size, 0, none⟩) (show W9.heap.size < W20.heap.size by omega)).trans cx235; clear cx232 cx233 cx234 cx235; clear HB229 HB230 HB231 HD226; clear hB236))
    go_upto_region 31 with (first | (go_at_call 21; refine (toG_c _ v0 l0 (HS0.out.below HB238.out) HM.out.1).mono ?_; rintro e W22 ⟨v246, rfl, hB247, hD248⟩; have hz249 := hB247.size; have HB250 : Aside0 (Below w.heap.size w W22) := ⟨HB238.out.trans (hB247.mono (by omega))⟩; have HB251 : Aside0 (Below w.heap.size w W22) := ⟨HB239.out.trans (hB247.mono (by omega))⟩; have HB252 : Aside0 (Below W4.heap.size W4 W22) := ⟨HB240.out.trans (hB247.mono (by omega))⟩; have HD253 := Aside0.mk (HD241.out.below (by omega) hB247); have cx254 : W22.cell? ⟨w.heap.size, 0, none⟩ = some v0 := (hB247.cell (p := ⟨w.heap.size, 0, none⟩) (show w.heap.size < W21.heap.size by omega)).trans cx242; have cx255 : W22.cell? ⟨W4.heap.size, 0, none⟩ = some (.slice A31 R.length c32) := (hB247.cell (p := ⟨W4.heap.size, 0, none⟩) (show W4.heap.size < W21.heap.size by omega)).trans cx243; have cx256 : W22.cell? ⟨W6.heap.size, 0, none⟩ = some (.slice A52 l0.length c53) := (hB247.cell (p := ⟨W6.heap.size, 0, none⟩) (show W6.heap.size < W21.heap.size by omega)).trans cx244; have cx257 : W22.cell? ⟨W9.heap.size, 0, none⟩ = some (.slice A86 R.length c87) := (hB247.cell (p := ⟨W9.heap.size, 0, none⟩) (show W9.heap.size < W21.heap.size by omega)).trans cx245; clear cx242 cx243 cx244 cx245; clear HB238 HB239 HB240 HD241; have HD258 := Aside0.mk hD248.out.toU; clear hD248) | (go_at_call 28; refine (toL_c _ (.slice A_v2 l2.length c_v2) l2 (HS1.out.below HB251.out) HM.out.2).mono ?_; rintro e W23 ⟨v259, rfl, hB260, hD261⟩; have hz262 := hB260.size; have HB263 : Aside0 (Below w.heap.size w W23) := ⟨HB250.out.trans (hB260.mono (by omega))⟩; have HB264 : Aside0 (Below w.heap.size w W23) := ⟨HB251.out.trans (hB260.mono (by omega))⟩; have HB265 : Aside0 (Below W4.heap.size W4 W23) := ⟨HB252.out.trans (hB260.mono (by omega))⟩; have HD266 := Aside0.mk (HD253.out.below (by omega) hB260); have HD267 := Aside0.mk (HD258.out.below (by omega) hB260); have cx268 : W23.cell? ⟨w.heap.size, 0, none⟩ = some v0 := (hB260.cell (p := ⟨w.heap.size, 0, none⟩) (show w.heap.size < W22.heap.size by omega)).trans cx254; have cx269 : W23.cell? ⟨W4.heap.size, 0, none⟩ = some (.slice A31 R.length c32) := (hB260.cell (p := ⟨W4.heap.size, 0, none⟩) (show W4.heap.size < W22.heap.size by omega)).trans cx255; have cx270 : W23.cell? ⟨W6.heap.size, 0, none⟩ = some (.slice A52 l0.length c53) := (hB260.cell (p := ⟨W6.heap.size, 0, none⟩) (show W6.heap.size < W22.heap.size by omega)).trans cx256; have cx271 : W23.cell? ⟨W9.heap.size, 0, none⟩ = some (.slice A86 R.length c87) := (hB260.cell (p := ⟨W9.heap.size, 0, none⟩) (show W9.heap.size < W22.heap.size by omega)).trans cx257; clear cx254 cx255 cx256 cx257; clear HB250 HB251 HB252 HD253 HD258; have HD272 := Aside0.mk hD261.out.toU; clear hD261) | (go_at_call 62; refine (IM.out _ v246 v259 HD267.out.reads HD272.out.reads).mono ?_; rintro e W24 ⟨v273, rfl, hB274, hD275⟩; obtain ⟨A276, c277, hv_, _⟩ := hD275.out.slice; subst hv_; have hz278 := hB274.size; have HB279 : Aside0 (Below w.heap.size w W24) := ⟨HB263.out.trans (hB274.mono (by omega))⟩; have HB280 : Aside0 (Below w.heap.size w W24) := ⟨HB264.out.trans (hB274.mono (by omega))⟩; have HB281 : Aside0 (Below W4.heap.size W4 W24) := ⟨HB265.out.trans (hB274.mono (by omega))⟩; have HD282 := Aside0.mk (HD266.out.below (by omega) hB274); have HD283 := Aside0.mk (HD267.out.below (by omega) hB274); have HD284 := Aside0.mk (HD272.out.below (by omega) hB274); have cx285 : W24.cell? ⟨w.heap.size, 0, none⟩ = some v0 := (hB274.cell (p := ⟨w.heap.size, 0, none⟩) (show w.heap.size < W23.heap.size by omega)).trans cx268; have cx286 : W24.cell? ⟨W4.heap.size, 0, none⟩ = some (.slice A31 R.length c32) := (hB274.cell (p := ⟨W4.heap.size, 0, none⟩) (show W4.heap.size < W23.heap.size by omega)).trans cx269; have cx287 : W24.cell? ⟨W6.heap.size, 0, none⟩ = some (.slice A52 l0.length c53) := (hB274.cell (p := ⟨W6.heap.size, 0, none⟩) (show W6.heap.size < W23.heap.size by omega)).trans cx270; have cx288 : W24.cell? ⟨W9.heap.size, 0, none⟩ = some (.slice A86 R.length c87) := (hB274.cell (p := ⟨W9.heap.size, 0, none⟩) (show W9.heap.size < W23.heap.size by omega)).trans cx271; clear cx268 cx269 cx270 cx271; clear HB263 HB264 HB265 HD266 HD267 HD272; have HD289 := Aside0.mk hD275.out.toU; clear hD275))
    have hB290 : Below W24.heap.size W24 (W24.alloc (.cells #[(.slice A276 R.length c277)] 59)) := (Below.refl _ _).alloc (Nat.le_refl _) _
    have cx291 : (W24.alloc (.cells #[(.slice A276 R.length c277)] 59)).cell? ⟨W24.heap.size, 0, none⟩ = some (.slice A276 R.length c277) := (blk_cell (blk_new _ _) 0).trans rfl
    have hz292 : W24.heap.size < (W24.alloc (.cells #[(.slice A276 R.length c277)] 59)).heap.size := by simp
    generalize (W24.alloc (.cells #[(.slice A276 R.length c277)] 59)) = W25 at *
    have hz293 := hB290.size
    have HB294 : Aside0 (Below w.heap.size w W25) := ⟨HB279.out.trans (hB290.mono (by omega))⟩
    have HB295 : Aside0 (Below w.heap.size w W25) := ⟨HB280.out.trans (hB290.mono (by omega))⟩
    have HB296 : Aside0 (Below W4.heap.size W4 W25) := ⟨HB281.out.trans (hB290.mono (by omega))⟩
    have HD297 := Aside0.mk (HD282.out.below (by omega) hB290)
    have HD298 := Aside0.mk (HD283.out.below (by omega) hB290)
    have HD299 := Aside0.mk (HD284.out.below (by omega) hB290)
    have HD300 := Aside0.mk (HD289.out.below (by omega) hB290)
    have cx301 : W25.cell? ⟨w.heap.size, 0, none⟩ = some v0 := (hB290.cell (p := ⟨w.heap.size, 0, none⟩) (show w.heap.size < W24.heap.size by omega)).trans cx285
    have cx302 : W25.cell? ⟨W4.heap.size, 0, none⟩ = some (.slice A31 R.length c32) := (hB290.cell (p := ⟨W4.heap.size, 0, none⟩) (show W4.heap.size < W24.heap.size by omega)).trans cx286
    have cx303 : W25.cell? ⟨W6.heap.size, 0, none⟩ = some (.slice A52 l0.length c53) := (hB290.cell (p := ⟨W6.heap.size, 0, none⟩) (show W6.heap.size < W24.heap.size by omega)).trans cx287
    have cx304 : W25.cell? ⟨W9.heap.size, 0, none⟩ = some (.slice A86 R.length c87) := (hB290.cell (p := ⟨W9.heap.size, 0, none⟩) (show W9.heap.size < W24.heap.size by omega)).trans cx288
    clear cx285 cx286 cx287 cx288
    clear HB279 HB280 HB281 HD282 HD283 HD284 HD289
    clear HD298
    clear HD299
    go_upto_region 34 with (first | (go_at_call 57; refine (eqT_c _ (.slice A276 R.length c277) (.slice A31 R.length c32) R HD300.out.reads (hD30.out.below HB296.out) HF.out).mono ?_; rintro e W26 ⟨rfl, hB305⟩; have hz306 := hB305.size; have HB307 : Aside0 (Below w.heap.size w W26) := ⟨HB294.out.trans (hB305.mono (by omega))⟩; have HB308 : Aside0 (Below w.heap.size w W26) := ⟨HB295.out.trans (hB305.mono (by omega))⟩; have HB309 : Aside0 (Below W4.heap.size W4 W26) := ⟨HB296.out.trans (hB305.mono (by omega))⟩; have HD310 := Aside0.mk (HD297.out.below (by omega) hB305); have HD311 := Aside0.mk (HD300.out.below (by omega) hB305); have cx312 : W26.cell? ⟨w.heap.size, 0, none⟩ = some v0 := (hB305.cell (p := ⟨w.heap.size, 0, none⟩) (show w.heap.size < W25.heap.size by omega)).trans cx301; have cx313 : W26.cell? ⟨W4.heap.size, 0, none⟩ = some (.slice A31 R.length c32) := (hB305.cell (p := ⟨W4.heap.size, 0, none⟩) (show W4.heap.size < W25.heap.size by omega)).trans cx302; have cx314 : W26.cell? ⟨W6.heap.size, 0, none⟩ = some (.slice A52 l0.length c53) := (hB305.cell (p := ⟨W6.heap.size, 0, none⟩) (show W6.heap.size < W25.heap.size by omega)).trans cx303; have cx315 : W26.cell? ⟨W9.heap.size, 0, none⟩ = some (.slice A86 R.length c87) := (hB305.cell (p := ⟨W9.heap.size, 0, none⟩) (show W9.heap.size < W25.heap.size by omega)).trans cx304; have cx316 : W26.cell? ⟨W24.heap.size, 0, none⟩ = some (.slice A276 R.length c277) := (hB305.cell (p := ⟨W24.heap.size, 0, none⟩) (show W24.heap.size < W25.heap.size by omega)).trans cx291; clear cx301 cx302 cx303 cx304 cx291; clear HB294 HB295 HB296 HD297 HD300; clear hB305))
    clear HD311
    go_wp2_with (first | (go_at_call 63; refine (heldT_c _ (.slice A86 R.length c87) R HD310.out.reads HF.out).mono ?_; rintro e W27 ⟨rfl, hB317⟩; have hz318 := hB317.size; have HB319 : Aside0 (Below w.heap.size w W27) := ⟨HB307.out.trans (hB317.mono (by omega))⟩; have HB320 : Aside0 (Below w.heap.size w W27) := ⟨HB308.out.trans (hB317.mono (by omega))⟩; have HB321 : Aside0 (Below W4.heap.size W4 W27) := ⟨HB309.out.trans (hB317.mono (by omega))⟩; have HD322 := Aside0.mk (HD310.out.below (by omega) hB317); have cx323 : W27.cell? ⟨w.heap.size, 0, none⟩ = some v0 := (hB317.cell (p := ⟨w.heap.size, 0, none⟩) (show w.heap.size < W26.heap.size by omega)).trans cx312; have cx324 : W27.cell? ⟨W4.heap.size, 0, none⟩ = some (.slice A31 R.length c32) := (hB317.cell (p := ⟨W4.heap.size, 0, none⟩) (show W4.heap.size < W26.heap.size by omega)).trans cx313; have cx325 : W27.cell? ⟨W6.heap.size, 0, none⟩ = some (.slice A52 l0.length c53) := (hB317.cell (p := ⟨W6.heap.size, 0, none⟩) (show W6.heap.size < W26.heap.size by omega)).trans cx314; have cx326 : W27.cell? ⟨W9.heap.size, 0, none⟩ = some (.slice A86 R.length c87) := (hB317.cell (p := ⟨W9.heap.size, 0, none⟩) (show W9.heap.size < W26.heap.size by omega)).trans cx315; have cx327 : W27.cell? ⟨W24.heap.size, 0, none⟩ = some (.slice A276 R.length c277) := (hB317.cell (p := ⟨W24.heap.size, 0, none⟩) (show W24.heap.size < W26.heap.size by omega)).trans cx316; clear cx312 cx313 cx314 cx315 cx316; clear HB307 HB308 HB309 HD310; clear hB317))
    go_ret
    exact ⟨by first | rfl | trivial, HB319.out⟩
end Go.Proofs.Ytnbnalbomflafaa.RA
/-! ## Kr -/
namespace Go.Proofs.Ytnbnalbomflafaa.KR
open Go.RowKit Go.Proofs.YtnbnalbomflafaaW.PrintWords
open Go.ChangeShapes Go.WideShapes Go.Deep
set_option linter.unusedVariables false
/-- What a list that came in reads as. -/
structure ListIn (W : World) (A : Option Addr) (n c : Nat) (l : List Int) : Prop where
  len : n = l.length
  le : l.length ≤ c
  reads : Kd.C (Kd.int .i64) W A l.length l
  wf : ∀ x ∈ l, (Lit.int .i64 x).wf = true
structure RowsIn (W : World) (A : Option Addr) (n c : Nat) (l : List (List Int)) : Prop where
  len : n = l.length
  le : l.length ≤ c
  reads : Kd.C (Kd.slice 3 (Kd.int .i64)) W A l.length l
  wf : ∀ r ∈ l, ∀ x ∈ r, (Lit.int .i64 x).wf = true
  small : ∀ r ∈ l, r.length ≤ 9223372036854775807
theorem reads_of {W : World} {a' : Option Addr} {n c : Nat} {zs : List Int} (hl : n ≤ c) (hm : c ≤ maxLen) (hz : zs.length = c) (hn : a' = none → c = 0)
    (hc : ∀ ad, a' = some ad → ∀ j, j < c → W.cell? (ad.add j) = some (.int .i64 (zs.getD j 0))) : Kd.C (Kd.int .i64) W a' (zs.take n).length (zs.take n) := by
  have hln : (zs.take n).length = n := by rw [List.length_take]; omega
  rw [hln]
  refine Kd.C_of_reads (d := 0) ⟨hln, by unfold maxLen at hm; omega, fun h0 => ?_⟩
  cases a' with
  | none => have := hn rfl; omega
  | some ad =>
    refine ⟨ad, rfl, fun j hj => ?_⟩
    rw [hc ad rfl j (by omega)]
    simp [List.getD_eq_getElem?_getD, hj]
theorem array1 {α : Type} {cs : Array α} (h : cs.size = 1) : ∃ c0, cs = #[c0] := by
  obtain ⟨l⟩ := cs
  match l, h with
  | [c0], _ => exact ⟨c0, rfl⟩
section
variable {H : Type} {enc : TypeId × Value → H} {W : World} {base : Nat} {held : Bool}
theorem open_list {a : Option Addr} {len cap : Nat} {d : DataW H} {p : List MemPlace} (h : DataW.Trod enc Try.prog W base (fun _ => true) held 37 (.slice a len cap) d p) : ∃ l, ListIn W a len cap l := by
  obtain ⟨fuel, hf⟩ := h
  rcases open_ints Try.underlying37 Try.underlying3 (by kernel_rfl) hf with ⟨hcs, _⟩ | ⟨x, l, c, zs, hcs, _, hl, hm, hz, _, hcell, hwz⟩
  · simp [Value.cells] at hcs
    obtain ⟨rfl, rfl, rfl⟩ := hcs
    exact ⟨[], rfl, Nat.le_refl _, Kd.C_nil _ _, by simp⟩
  · simp [Value.cells] at hcs
    obtain ⟨rfl, rfl, rfl⟩ := hcs
    have hz' : zs.length = cap := by simpa using hz
    have hln : (zs.take len).length = len := by rw [List.length_take]; omega
    refine ⟨zs.take len, hln.symm, by omega, ?_, fun x hx => hwz x (List.mem_of_mem_take hx)⟩
    refine reads_of hl hm hz' (fun h => by cases h) (fun ad e j hj => ?_)
    injection e with e
    subst e
    exact hcell j (by omega)
theorem rows_of {fuel : Nat} {cs : List Value} {x : DataW H × List MemPlace} (h : DataW.trod enc Try.prog W base (fun _ => true) held fuel 22 cs = some x) : ∃ A n c l, cs = [.slice A n c] ∧ RowsIn W A n c l := by
  rcases open_int_rows Try.underlying22 Try.underlying37 Try.underlying3 (by kernel_rfl) (by kernel_rfl) h with ⟨rfl, _⟩ | ⟨a, len, cap, A, L, C, Z, rfl, hb, hl, hm, hx, hr⟩
  · exact ⟨none, 0, 0, [], rfl, rfl, Nat.le_refl _, Kd.C_nil _ _, by simp, by simp⟩
  · refine ⟨some a, len, cap, (List.range len).map fun r => (Z r).take (L r), rfl, by simp, by simpa using hl, ?_, ?_, ?_⟩
    · refine ⟨by simp, by simp; unfold maxLen at hm; omega, fun h0 => ⟨a, rfl, fun j p hj => ?_⟩⟩
      have hjl : j < len := by
        have := (List.getElem?_eq_some_iff.1 hj).1
        simpa using this
      obtain ⟨hc, h1, h2, h3, h4, h5, h6⟩ := hr j (by omega)
      have hp : p = (Z j).take (L j) := by
        rw [List.getElem?_map, List.getElem?_range hjl] at hj
        exact (Option.some.inj hj).symm
      have hpl : p.length = L j := by rw [hp, List.length_take]; omega
      refine ⟨[.slice (A j) p.length (C j)], rfl, ⟨A j, C j, rfl, by omega, ?_⟩, fun i u hu => ?_⟩
      · rw [hp]
        exact reads_of h1 h2 h3 h5 (fun ad e i hi => (h6 ad e).2 i hi)
      · have hi : i = 0 := by
          have := (List.getElem?_eq_some_iff.1 hu).1
          simp at this
          exact this
        subst hi
        simp at hu
        rw [← hu, hpl]
        have e : j * (Kd.slice 3 (Kd.int .i64)).sz + 0 = j := by show j * 1 + 0 = j; omega
        rw [e]
        exact hc
    · intro r hr' x hx'
      obtain ⟨j, hj, rfl⟩ := List.mem_map.1 hr'
      have := List.mem_range.1 hj
      exact (hr j (by omega)).2.2.2.2.1 x (List.mem_of_mem_take hx')
    · intro r hr'
      obtain ⟨j, hj, rfl⟩ := List.mem_map.1 hr'
      have hj := List.mem_range.1 hj
      have h1 := (hr j (by omega)).2.1
      have h2 := (hr j (by omega)).2.2.1
      unfold maxLen at h2
      rw [List.length_take]
      omega
set_option maxRecDepth 100000 in
theorem open_graph {r : Reach} {b0 t : Nat} {f0 : Field} {v : Value} {d : DataW H} {p : List MemPlace} (hs : Try.prog.underlying t = some (.struct #[f0])) (hC : Try.prog.cellsOf t = 1) (hf : f0.type = 22) (ho : f0.offset = 0)
    (hv : Value.okWide Try.prog W r b0 t v) (h : DataW.Trod enc Try.prog W base (fun _ => true) held t v d p) : ∃ A n c l, v = .agg #[.slice A n c] ∧ RowsIn W A n c l := by
  obtain ⟨cs, rfl, hsz⟩ := okWide_struct hs hv
  obtain ⟨c0, rfl⟩ := array1 (hsz.trans hC)
  obtain ⟨fuel, hfu⟩ := h
  obtain ⟨y0, n, hx, _, h0⟩ := trod_struct1 hs hfu
  have hc22 : Try.prog.cellsOf 22 = 1 := by kernel_rfl
  rw [hf, ho, hc22] at h0
  obtain ⟨A, m, c, l, hcs, hR⟩ := rows_of h0
  have e : c0 = .slice A m c := by simpa [Value.cells] using hcs
  subst e
  exact ⟨A, m, c, l, rfl, hR⟩
end
end Go.Proofs.Ytnbnalbomflafaa.KR
