/-
  The program's AreAsBefore, by a contract in the print's own form.
-/
import Derived.Test.YtmechelmnpoddaaHh
namespace Go.Proofs.Ytmechelmnpoddaa.H7
open Go.RowKit Go.Proofs.YtmechelmnpoddaaW.PrintWords Go.Proofs.YtmechelmnpoddaaW.PrintLast Go.Proofs.YtmechelmnpoddaaW.PrintMore
open Go.Proofs.Ytmechelmnpoddaa.A7
open Go.Shelf Go.Lib
open Es (nth)
set_option linter.unusedVariables false
set_option linter.unusedSimpArgs false

theorem forest_all (a0 a1 a2 a3 : Int) (h : asked a0 a1 a2 a3 = true) : ∃ b1 d1, 0 < Es.inner b1 d1 ∧ Es.inner b1 d1 ≤ 130 ∧ ∀ w, Calls Try.prog 66 #[.int .i64 a0, .int .i64 a1, .int .i64 a2, .int .i64 a3] w (FoOut w b1 d1 (Es.inner b1 d1) (outS a0 a1 a2 a3)) := by
  have hb : branch a0 a1 := by
    have : branch a0 a1 ∧ 0 ≤ a2 ∧ a2 ≤ a0 ∧ 0 ≤ a3 ∧ a3 ≤ 200 := by simpa [asked] using h
    exact this.1
  obtain ⟨b1, d1, k1, n1, N, p, rfl, rfl, rfl, rfl, ht, hk, hn, hT, hc⟩ := asked_tree h
  obtain ⟨N', _, _, h3⟩ := nodes_of (b1 : Int) (d1 : Int)
  rw [decide_eq_true hb] at h3
  exact ⟨b1, d1, hT.i0, by have := hT.few; have := hT.sum; omega, fun w => forest_yes b1 d1 _ k1 n1 _ w h3 hT.first (by have := hT.d6; omega) hk hT.b3 hT.b2 (by have := hT.few; have := hT.sum; omega) hT.i0 hn hc⟩
theorem pred68 (lim : Int) (B : Nat) (w : World) (hB : B < w.heap.size) (hcell : w.cell? ⟨B, 0, none⟩ = some (.int .i64 lim)) :
    PredAt Try.prog 68 #[.pointer (some ⟨B, 0, none⟩)] (Value.int .i64) (fun x => decide (x ≠ lim)) w := fun W x hb => by
  have hc : W.cell? ⟨B, 0, none⟩ = some (.int .i64 lim) := (hb.cell (p := ⟨B, 0, none⟩) hB).trans hcell
  show Calls Try.prog 68 #[.int .i64 x, .pointer (some ⟨B, 0, none⟩)] W _
  go_enter Try.func68, Try.ntmps68
  go_wp2
  all_goals (go_ret; exact ⟨by (by_cases hx : x = lim <;> simp [hx]), 0, rfl⟩)
theorem not_any_ne (c : Int) (l : List Int) : (!(l.any fun x => !decide (x = c))) = l.all fun x => decide (x = c) := by
  induction l with
  | nil => rfl
  | cons x t ih =>
    rw [List.any_cons, List.all_cons, Bool.not_or, ih]
    by_cases h : x = c <;> simp [h]
theorem ints_get (l : List Nat) (j : Nat) (h : j < l.length) : (ints l)[j]! = (nth l j : Int) := by
  rw [getElem!_pos (ints l) j (by simpa [ints] using h)]
  simp [ints, nth, h]

def impl_AreAsBefore.f (a0 a1 a2 a3 : Int) : Option (Bool × Bool) := some (if asked a0 a1 a2 a3 = true then same a0 a1 a2 a3 else false, asked a0 a1 a2 a3)
set_option maxHeartbeats 4000000 in
set_option maxRecDepth 100000 in
theorem impl_AreAsBefore.walk (a0 a1 a2 a3 : Int) (w : World) : Calls Try.prog 27 #[.int .i64 a0, .int .i64 a1, .int .i64 a2, .int .i64 a3] w fun e w' => e = .returned (.tuple #[.bool (if asked a0 a1 a2 a3 = true then same a0 a1 a2 a3 else false), .bool (asked a0 a1 a2 a3)]) ∧ Below w.heap.size w w' := by
  cases hq : asked a0 a1 a2 a3 with
  | false =>
    have HA := fun W => forest_not a0 a1 a2 a3 W hq
    have HA := Aside0.mk HA
    rw [if_neg (by decide)]
    clear hq
    go_enter Try.func27, Try.ntmps27
    go_wp2_with (go_at_call 66; refine (HA.out _).mono ?_; rintro e w' ⟨rfl, hB⟩; have HB := Aside0.mk hB; clear hB)
    go_ret2
    exact ⟨rfl, below_weaken (below_alloc (Below.refl _ _) _) (by simp) HB.out⟩
  | true =>
    obtain ⟨b1, d1, hi0, hi9, HB⟩ := forest_all a0 a1 a2 a3 hq
    have HB := Aside0.mk HB
    have HBi := Aside0.mk hi9
    have eg : ∀ args w, (callFunc 68 args).run Try.prog w = .ok (.enter 68 args) w := enters_of Try.func68 (by kernel_rfl) rfl
    have EG := Aside0.mk eg
    have hsame := not_any_ne a2 (ints (outS a0 a1 a2 a3).rot)
    have hs2 : ((ints (outS a0 a1 a2 a3).rot).all fun x => decide (x = a2)) = same a0 a1 a2 a3 := rfl
    rw [hs2] at hsame
    have HSM := Aside0.mk hsame
    rw [if_pos rfl]
    clear hq eg hs2 hsame
    generalize same a0 a1 a2 a3 = sm at *
    go_enter Try.func27, Try.ntmps27
    go_wp2_with (first | (go_at_call 66; refine (HB.out _).mono ?_; rintro e w1 ⟨g, vr, ve, vt, vv, rfl, hB, hF⟩; obtain ⟨gr, cr, rfl, hgr, hcr⟩ := hF.r.form hi0; have HF := Aside0.mk hF; have HL := Aside0.mk hB; have HP := Aside0.mk (pred68 a2 w.heap.size w1 (by have := hB.size; simp at this; omega) ((hB.cell (p := ⟨w.heap.size, 0, none⟩) (by simp)).trans (box_new w _))); have HCc := Aside0.mk (fun (j : Nat) (hj : j < (ints (outS a0 a1 a2 a3).rot).length) => (by rw [Nat.zero_add, ints_get _ _ (by simpa [ints] using hj)]; exact (row_at hF.r j (by rw [← row_len hF.r]; simpa [ints] using hj)).1 : w1.cell? ⟨gr, 0 + j, none⟩ = some (Value.int .i64 (ints (outS a0 a1 a2 a3).rot)[j]!))); have HRl := Aside0.mk (row_len hF.r); clear hB hF; have c := blk_cell HF.out.blk 2; simp at c) | (go_at_call 67; refine (Try.slices_ContainsFunc (Value.int .i64) (fun x => decide (x ≠ a2)) 68 #[.pointer (some ⟨w.heap.size, 0, none⟩)] EG.out gr 0 _ cr (ints (outS a0 a1 a2 a3).rot) w1 HP.out (by rw [ints_len, HRl.out]; exact Nat.le_refl _) (by have := HBi.out; omega) HCc.out).mono ?_; rintro e w' ⟨rfl, q, rfl⟩; rw [List.take_of_length_le (by rw [ints_len, HRl.out]; exact Nat.le_refl _)]))
    rw [HSM.out]
    go_ret2
    exact ⟨rfl, pw_below_drewN (below_weaken (below_alloc (Below.refl _ _) _) (by simp) HL.out) _⟩
theorem impl_AreAsBefore.calls (a0 a1 a2 a3 : Int) (r1 r2 : Bool) (w : World) (h : impl_AreAsBefore.f a0 a1 a2 a3 = some (r1, r2)) :
    Calls Try.prog 27 #[.int .i64 a0, .int .i64 a1, .int .i64 a2, .int .i64 a3] w fun e w' => e = .returned (.tuple #[.bool r1, .bool r2]) ∧ Below w.heap.size w w' := by
  have e := Option.some.inj h
  injection e with e1 e2
  subst e1 e2
  exact impl_AreAsBefore.walk a0 a1 a2 a3 w
end Go.Proofs.Ytmechelmnpoddaa.H7

