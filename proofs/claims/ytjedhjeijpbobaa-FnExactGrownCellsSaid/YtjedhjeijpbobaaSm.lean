/-
  The law of the grown cells: walked.
-/
import Derived.Test.YtjedhjeijpbobaaZi
namespace Go.Proofs.Ytjedhjeijpbobaa.G8
open Go.RowKit Go.Maps Go.Proofs.YtjedhjeijpbobaaW.PrintWords Go.Proofs.YtjedhjeijpbobaaW.PrintLast Go.Proofs.YtjedhjeijpbobaaW.PrintMore
open Go.Proofs.Ytjedhjeijpbobaa.GA
set_option linter.unusedVariables false
set_option linter.unusedSimpArgs false
set_option maxHeartbeats 4000000 in
set_option maxRecDepth 100000 in
theorem law_GrownCells.walk (n k : Int) (w : World) : Calls Try.prog 16 #[.int .i64 n, .int .i64 k] w fun e w' => e = .returned (.bool true) ∧ Below w.heap.size w w' := by
  obtain ⟨R, hR⟩ : ∃ R, R = grownV n k := ⟨_, rfl⟩
  obtain ⟨ok, hok⟩ : ∃ ok, ok = okGrid n k := ⟨_, rfl⟩
  have hl : R.length ≤ 250 := by rw [hR]; exact grownV_len n k
  have h2 : ∀ r ∈ R, r.length ≤ 2 := by rw [hR]; exact grownV_two n k
  have hS := fun W => spec_GrownCells_calls n k W
  have hI := fun W => impl_GrownCells_calls n k W
  rw [← hR, ← hok] at hS hI
  clear hR hok
  have ht := tot_bound R 2 h2
  have ht0 := tot_pos R
  have HL : Aside0 (R.length ≤ 10000000 ∧ (0 ≤ (1 : Int) ∧ 1 + tot R ≤ 1000000000) ∧ ∀ r ∈ R, r.length ≤ 2) := ⟨by omega, ⟨by omega, by omega⟩, h2⟩
  have HS := Aside0.mk hS
  have HI := Aside0.mk hI
  have hq : ¬ (1 + tot R < 0) := by omega
  clear hl h2 hS hI ht ht0
  go_enter Try.func16, Try.ntmps16
  go_upto_region 3 with (first | (go_at_call 40; refine (HS.out _).mono ?_; rintro e w1 ⟨vs, rfl, hB1, hC1⟩) | (go_at_call 39; refine (HI.out _).mono ?_; rintro e w2 ⟨vg, rfl, hB2, hD2⟩))
  have HB1 := Aside0.mk hB1
  have HB2 := Aside0.mk hB2
  clear hB1 hB2
  go_upto_region 5 with (first | (go_at_call 58; refine (eqIntSS_calls _ _ _ R hD2.out.reads (hC1.out.below HB2.out) HL.out.1 2 HL.out.2.2 (by decide)).mono ?_; rintro e w3 ⟨rfl, ⟨nd, rfl⟩⟩))
  have HB3 : Aside0 (Below w1.heap.size w1 (w2.drewN nd)) := ⟨pw_below_drewN HB2.out nd⟩
  have HD3 : Aside0 (RowsD (w2.drewN nd) w1.heap.size vg R) := ⟨hD2.out.drewN nd⟩
  clear hD2 HB2
  generalize w2.drewN nd = w3 at *
  go_upto_region 7 with (first | (go_at_call 59; refine (markIntSS_calls w1 _ HB3.out _ R 1 HD3.out HL.out.2.1 HL.out.1).mono ?_; rintro e w4 ⟨rfl, hB4, hD4⟩))
  have HB4 := Aside0.mk hB4
  clear hB4 HB3 HD3
  go_upto_region 9 with (first | (go_at_call 60; refine (heldIntSS_calls _ _ R 1 hD4.out.reads HL.out.1 HL.out.2.1 2 HL.out.2.2).mono ?_; rintro e w5 ⟨rfl, ⟨nd, rfl⟩⟩))
  have HB5 : Aside0 (Below w1.heap.size w1 (w4.drewN nd)) := ⟨pw_below_drewN HB4.out nd⟩
  have HD5 : Aside0 (RowsD (w4.drewN nd) w1.heap.size vg (markRows R 1)) := ⟨hD4.out.drewN nd⟩
  clear hD4 HB4
  generalize w4.drewN nd = w5 at *
  go_upto_region 14 with (first | (go_at_call 39; refine (HI.out _).mono ?_; rintro e w6 ⟨vh, rfl, hB6, hD6⟩))
  have HB6 := Aside0.mk hB6
  have HC6 : Aside0 (RowsC w6 vs R) := ⟨hC1.out.below (HB5.out.trans (hB6.mono HB5.out.size))⟩
  have HD7 : Aside0 (RowsD w6 w1.heap.size vg (markRows R 1)) := ⟨HD5.out.below hB6⟩
  have HB7 : Aside0 (Below w1.heap.size w1 w6) := ⟨HB5.out.trans (hB6.mono HB5.out.size)⟩
  clear hB6 HB6 HD5 HB5 hC1
  go_upto_region 16 with (first | (go_at_call 58; refine (eqIntSS_calls _ _ _ R hD6.out.reads HC6.out HL.out.1 2 HL.out.2.2 (by decide)).mono ?_; rintro e w7 ⟨rfl, ⟨nd, rfl⟩⟩))
  have HB8 : Aside0 (Below w1.heap.size w1 (w6.drewN nd)) := ⟨pw_below_drewN HB7.out nd⟩
  have HD8 : Aside0 (RowsD (w6.drewN nd) w1.heap.size vg (markRows R 1)) := ⟨HD7.out.drewN nd⟩
  clear hD6 HB7 HD7 HC6
  generalize w6.drewN nd = w8 at *
  go_wp2_with (first | (go_at_call 60; refine (heldIntSS_calls _ _ R 1 HD8.out.reads HL.out.1 HL.out.2.1 2 HL.out.2.2).mono ?_; rintro e w9 ⟨rfl, ⟨nd, rfl⟩⟩))
  go_ret
  exact ⟨by first | rfl | trivial, pw_below_drewN (HB1.out.trans (HB8.out.mono HB1.out.size)) nd⟩
end Go.Proofs.Ytjedhjeijpbobaa.G8
