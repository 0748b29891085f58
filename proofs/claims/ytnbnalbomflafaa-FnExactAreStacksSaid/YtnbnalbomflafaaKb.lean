/-
  The program's tests on places and on stacks, by contracts in the print's own form.
-/
import Derived.Test.YtnbnalbomflafaaKa
namespace Go.Proofs.Ytnbnalbomflafaa.KA
open Go.RowKit Go.Proofs.YtnbnalbomflafaaW.PrintWords Go.Proofs.YtnbnalbomflafaaW.PrintLast Go.Proofs.YtnbnalbomflafaaW.PrintMore
open Go.Proofs.Ytnbnalbomflafaa.GA
open Go.Shelf Go.Lib
set_option linter.unusedVariables false
set_option linter.unusedSimpArgs false

theorem pred109 (A : Option Addr) (n c : Nat) (B : Nat) (w : World) (hB : B < w.heap.size) (hcell : w.cell? ⟨B, 0, none⟩ = some (.slice A n c)) (h1 : n ≤ 100) :
    PredAt Try.prog 109 #[.pointer (some ⟨B, 0, none⟩)] (Value.int .i64) (fun q => !inB q 0 ((n : Int) - 1)) w := fun W x hb => by
  have hc : W.cell? ⟨B, 0, none⟩ = some (.slice A n c) := (hb.cell (p := ⟨B, 0, none⟩) hB).trans hcell
  have HI := in_eq x 0 ((n : Int) - 1)
  show Calls Try.prog 109 #[.int .i64 x, .pointer (some ⟨B, 0, none⟩)] W _
  obtain ⟨b, hbb⟩ : ∃ b, b = inB x 0 ((n : Int) - 1) := ⟨_, rfl⟩
  rw [← hbb] at HI
  replace HI := Aside0.mk HI
  replace hbb := Aside0.mk hbb
  cases b
  all_goals go_enter Try.func109, Try.ntmps109
  all_goals go_wp2_with (go_at_call 77; (with_reducible refine (impl_in.calls x 0 ((n : Int) - 1) _ _ HI.out).mono ?_); rintro e w' ⟨rfl, ⟨nd, rfl⟩⟩)
  all_goals (go_ret; exact ⟨by rw [← hbb.out]; rfl, nd, rfl⟩)
theorem enters109 : ∀ args w, (callFunc 109 args).run Try.prog w = .ok (.enter 109 args) w := enters_of Try.func109 (by kernel_rfl) rfl
def hasB (l0 : List (List Int)) (l1 : List Int) : Bool := isGraphB l0 && !(l1.any fun q => !inB q 0 ((l0.length : Int) - 1))
def impl_has.f (l0_0 : List (List Int)) (l1 : List Int) : Option Bool := some (hasB l0_0 l1)
theorem graph_len {l : List (List Int)} (h : isGraphB l = true) : 1 ≤ l.length ∧ l.length ≤ 8 := by
  unfold isGraphB at h
  simp only [Bool.and_eq_true, decide_eq_true_eq] at h
  exact h.1
set_option maxHeartbeats 4000000 in
set_option maxRecDepth 100000 in
theorem impl_has.walk (A0 : Option Addr) (c0 : Nat) (l : List (List Int)) (A1 : Option Addr) (c1 : Nat) (ps : List Int) (w : World) (hr0 : Kd.C (Kd.slice 3 (Kd.int .i64)) w A0 l.length l) (hr1 : Kd.C (Kd.int .i64) w A1 ps.length ps) :
    Calls Try.prog 76 #[.agg #[.slice A0 l.length c0], .slice A1 ps.length c1] w fun e w' => e = .returned (.bool (hasB l ps)) ∧ Below w.heap.size w w' := by
  have HR0 := Aside0.mk (Kd.C_alloc hr0 (.cells #[.slice A0 l.length c0] 30))
  have HR1 := Aside0.mk (Kd.C_alloc hr1 (.cells #[.slice A0 l.length c0] 30))
  clear hr0 hr1
  have hu30 := Try.underlying30
  have hbx : (w.alloc (.cells #[.slice A0 l.length c0] 30)).cell? ⟨w.heap.size, 0, none⟩ = some (.slice A0 l.length c0) := (blk_cell (blk_new w (.cells #[.slice A0 l.length c0] 30)) 0).trans rfl
  cases hg : isGraphB l with
  | false =>
    have h0 : hasB l ps = false := by unfold hasB; rw [hg]; rfl
    rw [h0]
    replace hg := Aside0.mk hg
    go_enter Try.func76, Try.ntmps76
    go_wp2_with (go_at_call 107; refine (impl_isGraph.walk A0 c0 l _ HR0.out).mono ?_; rw [hg.out]; rintro e w1 ⟨rfl, hB⟩; have HB := Aside0.mk hB; clear hB)
    go_ret
    exact ⟨rfl, below_then (below_alloc (Below.refl _ _) _) (by simp) HB.out⟩
  | true =>
    have h8 := (graph_len hg).2
    have h0 : hasB l ps = !(ps.any fun q => !inB q 0 ((l.length : Int) - 1)) := by unfold hasB; rw [hg]; rfl
    rw [h0]
    obtain ⟨b, hb⟩ : ∃ b, b = ps.any (fun q => !inB q 0 ((l.length : Int) - 1)) := ⟨_, rfl⟩
    rw [← hb]
    replace hb := Aside0.mk hb
    replace hg := Aside0.mk hg
    clear h0
    go_enter Try.func76, Try.ntmps76
    go_wp2_with (first | (go_at_call 107; refine (impl_isGraph.walk A0 c0 l _ HR0.out).mono ?_; rw [hg.out]; rintro e w1 ⟨rfl, hB⟩; have HB := Aside0.mk hB; have HC := Aside0.mk (Kd.C_below HR1.out hB); have HP := Aside0.mk (pred109 A0 l.length c0 w.heap.size w1 (by have := hB.size; simp at this; omega) ((hB.cell (p := ⟨w.heap.size, 0, none⟩) (by simp)).trans hbx) (by omega)); clear hB) | (go_at_call 108; refine (contains_calls _ 109 _ enters109 A1 c1 ps _ HP.out HC.out).mono ?_; rw [← hb.out]; rintro e w' ⟨rfl, ⟨nd2, rfl⟩⟩))
    go_ret
    exact ⟨by cases b <;> rfl, pw_below_drewN (below_then (below_alloc (Below.refl _ _) _) (by simp) HB.out) _⟩
theorem impl_has.calls (A0_0 : Option Addr) (c0_0 : Nat) (l0_0 : List (List Int)) (A1 : Option Addr) (c1 : Nat) (l1 : List Int) (r : Bool) (w : World) (hr0_0 : Kd.C (Kd.slice 3 (Kd.int .i64)) w A0_0 l0_0.length l0_0) (hc0_0 : l0_0.length ≤ c0_0) (hr1 : Kd.C (Kd.int .i64) w A1 l1.length l1) (hc1 : l1.length ≤ c1) (h : impl_has.f l0_0 l1 = some r) :
    Calls Try.prog 76 #[.agg #[.slice A0_0 l0_0.length c0_0], .slice A1 l1.length c1] w fun e w' => e = .returned (.bool r) ∧ Below w.heap.size w w' := by
  obtain rfl := Option.some.inj h
  exact impl_has.walk A0_0 c0_0 l0_0 A1 c1 l1 w hr0_0 hr1
end Go.Proofs.Ytnbnalbomflafaa.KA
