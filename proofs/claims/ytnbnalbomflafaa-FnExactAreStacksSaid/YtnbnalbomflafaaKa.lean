/-
  The program's tests on graphs and places, by contracts in the print's own form.
-/
import Derived.Test.YtnbnalbomflafaaGA
import Derived.Test.YtnbnalbomflafaaSh
namespace Go.Proofs.Ytnbnalbomflafaa.KA
open Go.RowKit Go.Proofs.YtnbnalbomflafaaW.PrintWords Go.Proofs.YtnbnalbomflafaaW.PrintLast Go.Proofs.YtnbnalbomflafaaW.PrintMore
open Go.Proofs.Ytnbnalbomflafaa.GA
open Go.Shelf Go.Lib
set_option linter.unusedVariables false
set_option linter.unusedSimpArgs false

/-- The address of a row that has an element bears no spot. -/
theorem addr_plain {w : World} {ad : Addr} {v : Value} (h : w.cell? ad = some v) : ad = ⟨ad.block, ad.off, none⟩ := by
  obtain ⟨b, o, s⟩ := ad
  cases s with
  | none => rfl
  | some s =>
    simp only [World.cell?] at h
    split at h
    · simp at h
    · cases h
theorem ints_get (l : List Int) (j : Nat) (h : j < l.length) : l.getD j 0 = l[j]! := by
  rw [getElem!_pos l j h, List.getD_eq_getElem?_getD, List.getElem?_eq_getElem h]
  rfl
/-- slices.ContainsFunc, at a list of whole numbers that is read, be it empty or not. -/
theorem contains_calls (p : Int → Bool) (g : Nat) (lb : Array Value) (eg : ∀ args w, (callFunc g args).run Try.prog w = .ok (.enter g args) w) (A : Option Addr) (c : Nat) (l : List Int) (w : World)
    (hp : PredAt Try.prog g lb (Value.int .i64) p w) (hr : Kd.C (Kd.int .i64) w A l.length l) :
    Calls Try.prog 108 #[.slice A l.length c, .func (.func g) #[] lb] w fun e w' => e = .returned (.bool (l.any p)) ∧ ∃ q, w' = w.drewN q := by
  rcases Nat.eq_zero_or_pos l.length with h0 | h0
  · obtain rfl : l = [] := List.eq_nil_of_length_eq_zero h0
    refine (Try.slices_ContainsFunc_empty (α := Int) A c _ w).mono ?_
    rintro e w' ⟨rfl, rfl⟩
    exact ⟨rfl, 0, rfl⟩
  · have hcell : ∀ j, j < l.length → ∃ ad, A = some ad ∧ w.cell? (ad.add j) = some (.int .i64 (l.getD j 0)) := fun j hj => by
      obtain ⟨ad, e, hc⟩ := Kd.at_int hr (j : Int) (by omega) (by omega)
      rw [Int.toNat_natCast] at hc
      exact ⟨ad, e, by simpa [rd] using hc⟩
    obtain ⟨ad, rfl, hc0⟩ := hcell 0 h0
    have hpl : ad = ⟨ad.block, ad.off, none⟩ := addr_plain (by simpa [Addr.add] using hc0)
    have hc : ∀ j, j < l.length → w.cell? ⟨ad.block, ad.off + j, none⟩ = some (.int .i64 l[j]!) := fun j hj => by
      obtain ⟨ad', e, hc⟩ := hcell j hj
      injection e with e
      subst e
      rw [← ints_get l j hj, ← hc]
      congr 1
      unfold Addr.add
      split
      · rename_i h; subst h; exact hpl.symm
      · rfl
    rw [hpl]
    have hlen : l.length ≤ 9223372036854775807 := hr.2.1
    refine (Try.slices_ContainsFunc (Value.int .i64) p g lb eg ad.block ad.off l.length c l w hp (Nat.le_refl _) hlen hc).mono ?_
    rintro e w' ⟨rfl, h⟩
    rw [List.take_of_length_le (Nat.le_refl _)]
    exact ⟨rfl, h⟩

/-! ### A graph -/
def inB (n lo hi : Int) : Bool := decide (lo ≤ n ∧ n ≤ hi)
theorem in_eq (a lo hi : Int) : impl_in.f a lo hi = some (inB a lo hi) := by
  unfold impl_in.f inB
  by_cases h1 : lo ≤ a
  · simp [h1]
  · simp [h1]
def okRow (n : Int) (row : List Int) : Bool := decide (row.length ≤ 5) && !(row.any fun q => !inB q 0 (n - 1))
def isGraphB (l : List (List Int)) : Bool := decide (1 ≤ l.length ∧ l.length ≤ 8) && l.all (okRow l.length)
theorem pred126 (n : Int) (B : Nat) (w : World) (hB : B < w.heap.size) (hcell : w.cell? ⟨B, 0, none⟩ = some (.int .i64 n)) (h0 : 0 ≤ n) (h1 : n ≤ 100) :
    PredAt Try.prog 126 #[.pointer (some ⟨B, 0, none⟩)] (Value.int .i64) (fun q => !inB q 0 (n - 1)) w := fun W x hb => by
  have hc : W.cell? ⟨B, 0, none⟩ = some (.int .i64 n) := (hb.cell (p := ⟨B, 0, none⟩) hB).trans hcell
  have HI := Aside0.mk (in_eq x 0 (n - 1))
  show Calls Try.prog 126 #[.int .i64 x, .pointer (some ⟨B, 0, none⟩)] W _
  obtain ⟨b, hbb⟩ : ∃ b, b = inB x 0 (n - 1) := ⟨_, rfl⟩
  rw [← hbb] at HI
  replace hbb := Aside0.mk hbb
  cases b
  all_goals go_enter Try.func126, Try.ntmps126
  all_goals go_wp2_with (go_at_call 77; (with_reducible refine (impl_in.calls x 0 (n - 1) _ _ HI.out).mono ?_); rintro e w' ⟨rfl, ⟨nd, rfl⟩⟩)
  all_goals (go_ret; exact ⟨by rw [← hbb.out]; rfl, nd, rfl⟩)
theorem enters126 : ∀ args w, (callFunc 126 args).run Try.prog w = .ok (.enter 126 args) w := enters_of Try.func126 (by kernel_rfl) rfl
theorem at_row {w : World} {A : Option Addr} {l : List (List Int)} (h : Kd.C (Kd.slice 3 (Kd.int .i64)) w A l.length l) (i : Nat) (hi : i < l.length) :
    ∃ ad A1 c1, A = some ad ∧ w.cell? (ad.add i) = some (.slice A1 l[i].length c1) ∧ l[i].length ≤ c1 ∧ Kd.C (Kd.int .i64) w A1 l[i].length l[i] := by
  obtain ⟨ad, A1, c1, e, hx, hl, hc⟩ := at_L1 h (i : Int) (by omega) (by omega)
  have e1 : rd_L1 l (i : Int) = l[i] := by simp [rd_L1, List.getD_eq_getElem?_getD, hi]
  rw [e1] at hx hl hc
  exact ⟨ad, A1, c1, e, hx, hl, hc⟩
theorem box_at1 (w : World) (o : Obj) (v : Value) (n : Nat) : (((w.alloc o).alloc (.cells #[v] 3)).drewN n).cell? ⟨w.heap.size + 1, 0, none⟩ = some v := by
  have h := (blk_cell (blk_new (w.alloc o) (.cells #[v] 3)) 0)
  rw [show (w.alloc o).heap.size = w.heap.size + 1 by simp] at h
  exact h.trans rfl
def impl_isGraph.f (l0_0 : List (List Int)) : Option Bool := some (isGraphB l0_0)
set_option maxHeartbeats 4000000 in
set_option maxRecDepth 100000 in
theorem impl_isGraph.walk (A0_0 : Option Addr) (c0_0 : Nat) (l : List (List Int)) (w : World) (hr0_0 : Kd.C (Kd.slice 3 (Kd.int .i64)) w A0_0 l.length l) :
    Calls Try.prog 107 #[.agg #[.slice A0_0 l.length c0_0]] w fun e w' => e = .returned (.bool (isGraphB l)) ∧ Below w.heap.size w w' := by
  have HR := Aside0.mk hr0_0
  clear hr0_0
  by_cases hn : 1 ≤ l.length ∧ l.length ≤ 8
  · have HI := in_eq (l.length : Int) 1 8
    rw [show inB (l.length : Int) 1 8 = true from by simp [inB]; omega] at HI
    replace HI := Aside0.mk HI
    have hr : isGraphB l = l.all (okRow l.length) := by simp [isGraphB, hn.1, hn.2]
    rw [hr]
    clear hr
    obtain ⟨r, hr⟩ : ∃ r, r = l.all (okRow l.length) := ⟨_, rfl⟩
    rw [← hr]
    replace hr := Aside0.mk hr
    have hu30 := Try.underlying30
    go_enter Try.func107, Try.ntmps107
    go_wp2_with (go_at_call 77; (with_reducible refine (impl_in.calls (l.length : Int) 1 8 true _ HI.out).mono ?_); rintro e w' ⟨rfl, ⟨nd, rfl⟩⟩)
    have W0 := Aside0.mk (below_alloc (below_alloc (Below.refl w.heap.size w) (.cells #[.slice A0_0 l.length c0_0] 30)) (.cells #[.int .i64 (l.length : Int)] 3))
    go_loopg [15] l.length (fun kq v15 wr => ∃ i : Nat, v15 = .int .i64 (i : Int) ∧ Aside0 (i + kq = l.length ∧ (l.drop i).all (okRow l.length) = r) ∧ Aside0 (wr.cell? ⟨w.heap.size + 1, 0, none⟩ = some (.int .i64 (l.length : Int)) ∧ w.heap.size + 1 < wr.heap.size) ∧ Aside0 (Below w.heap.size w wr))
    case atStart => exact ⟨0, rfl, ⟨by omega, by rw [List.drop_zero]; exact hr.out.symm⟩, ⟨box_at1 _ _ _ _, by simp⟩, ⟨pw_below_drewN W0.out _⟩⟩
    case round =>
      clear W0 hr
      obtain ⟨i, rfl, HA, HC, HB⟩ := hrel
      by_cases hlt : i < l.length
      · obtain ⟨k1, rfl⟩ : ∃ m, gk = m + 1 := ⟨gk - 1, by have := HA.out.1; omega⟩
        have h2 := HA.out.2
        rw [List.drop_eq_getElem_cons hlt, List.all_cons] at h2
        replace h2 := Aside0.mk h2
        obtain ⟨ad, A1, c1, rfl, hx, hl1, hC1⟩ := at_row HR.out i hlt
        replace hx := (HB.out.cell (World.block_lt_of_cell? w _ hx)).trans hx
        have hCr := Kd.C_below hC1 HB.out
        generalize l[i] = row at *
        have hi1 : (0 : Int) ≤ (i : Int) := by omega
        have hi2 : (i : Int) < (l.length : Int) := by omega
        by_cases h5 : row.length ≤ 5
        · have h5' : decide (5 < (row.length : Int)) = false := decide_eq_false (by omega)
          have h5'' : decide (5 < row.length) = false := decide_eq_false (by omega)
          have HP := pred126 (l.length : Int) (w.heap.size + 1) wr HC.out.2 HC.out.1 (by omega) (by omega)
          replace HP := Aside0.mk HP
          replace hCr := Aside0.mk hCr
          replace hl1 := Aside0.mk hl1
          replace hC1 := Aside0.mk hC1
          obtain ⟨b, hb⟩ : ∃ b, b = row.any (fun q => !inB q 0 ((l.length : Int) - 1)) := ⟨_, rfl⟩
          replace hb := Aside0.mk hb
          have h6 : okRow (l.length : Int) row = !b := by unfold okRow; rw [hb.out, decide_eq_true h5, Bool.true_and]
          replace h6 := Aside0.mk h6
          cases b with
          | true =>
            go_wp2_with (go_at_call 108; refine (contains_calls _ 126 _ enters126 A1 c1 row _ HP.out hCr.out).mono ?_; rw [← hb.out]; rintro e w' ⟨rfl, ⟨nd2, rfl⟩⟩)
            go_ret
            exact ⟨by have := h2.out; rw [h6.out] at this; simp at this; rw [← this]; rfl, pw_below_drewN HB.out _⟩
          | false =>
            go_wp2_with (go_at_call 108; refine (contains_calls _ 126 _ enters126 A1 c1 row _ HP.out hCr.out).mono ?_; rw [← hb.out]; rintro e w' ⟨rfl, ⟨nd2, rfl⟩⟩)
            go_roundg k1
            case measure => omega
            case rel => exact ⟨i + 1, by go_num, ⟨by have := HA.out.1; omega, by have := h2.out; rw [h6.out] at this; simpa using this⟩, HC, ⟨pw_below_drewN HB.out _⟩⟩
        · have h5' : decide (5 < (row.length : Int)) = true := decide_eq_true (by omega)
          have h5'' : decide (5 < row.length) = true := decide_eq_true (by omega)
          have h6 : okRow (l.length : Int) row = false := by unfold okRow; rw [decide_eq_false h5, Bool.false_and]
          replace h6 := Aside0.mk h6
          go_wp2_with (fail)
          go_ret
          exact ⟨by have := h2.out; rw [h6.out] at this; simp at this; rw [← this]; rfl, HB.out⟩
      · have h2 := HA.out.2
        rw [List.drop_of_length_le (by omega), List.all_nil] at h2
        replace h2 := Aside0.mk h2
        go_wp2_with (fail)
        go_ret
        exact ⟨by rw [← h2.out]; rfl, HB.out⟩
  · have HI := in_eq (l.length : Int) 1 8
    rw [show inB (l.length : Int) 1 8 = false from by simp [inB]; omega] at HI
    replace HI := Aside0.mk HI
    have hr : isGraphB l = false := by unfold isGraphB; rw [decide_eq_false hn, Bool.false_and]
    rw [hr]
    have hu30 := Try.underlying30
    go_enter Try.func107, Try.ntmps107
    go_wp2_with (go_at_call 77; (with_reducible refine (impl_in.calls (l.length : Int) 1 8 false _ HI.out).mono ?_); rintro e w' ⟨rfl, ⟨nd, rfl⟩⟩)
    go_ret
    exact ⟨rfl, pw_below_drewN (below_alloc (below_alloc (Below.refl _ _) _) _) _⟩
theorem impl_isGraph.calls (A0_0 : Option Addr) (c0_0 : Nat) (l0_0 : List (List Int)) (r : Bool) (w : World) (hr0_0 : Kd.C (Kd.slice 3 (Kd.int .i64)) w A0_0 l0_0.length l0_0) (hc0_0 : l0_0.length ≤ c0_0) (h : impl_isGraph.f l0_0 = some r) :
    Calls Try.prog 107 #[.agg #[.slice A0_0 l0_0.length c0_0]] w fun e w' => e = .returned (.bool r) ∧ Below w.heap.size w w' := by
  obtain rfl := Option.some.inj h
  exact impl_isGraph.walk A0_0 c0_0 l0_0 w hr0_0
end Go.Proofs.Ytnbnalbomflafaa.KA
