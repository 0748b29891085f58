/-
  The program's test on stacks, by a contract in the print's own form.
-/
import Derived.Test.YtnbnalbomflafaaKp
namespace Go.Proofs.Ytnbnalbomflafaa.KA
open Go.RowKit Go.Proofs.YtnbnalbomflafaaW.PrintWords Go.Proofs.YtnbnalbomflafaaW.PrintLast Go.Proofs.YtnbnalbomflafaaW.PrintMore
open Go.Proofs.Ytnbnalbomflafaa.GA
open Go.Shelf Go.Lib
set_option linter.unusedVariables false
set_option linter.unusedSimpArgs false

theorem pred122 (ad : Addr) (n c : Nat) (B B2 i m : Nat) (A1 : Option Addr) (c1 : Nat) (w : World) (hB : B < w.heap.size) (hB2 : B2 < w.heap.size) (hcell : w.cell? ⟨B, 0, none⟩ = some (.slice (some ad) n c)) (hp : w.cell? ⟨B2, 0, none⟩ = some (.int .i64 (i : Int)))
    (hrow : w.cell? (ad.add i) = some (.slice A1 m c1)) (hi : i < n) (h1 : m ≤ 100) :
    PredAt Try.prog 122 #[.pointer (some ⟨B, 0, none⟩), .pointer (some ⟨B2, 0, none⟩)] (Value.int .i64) (fun q => !inB q 0 ((m : Int) - 1)) w := fun W x hb => by
  have hc : W.cell? ⟨B, 0, none⟩ = some (.slice (some ad) n c) := (hb.cell (p := ⟨B, 0, none⟩) hB).trans hcell
  have hc2 : W.cell? ⟨B2, 0, none⟩ = some (.int .i64 (i : Int)) := (hb.cell (p := ⟨B2, 0, none⟩) hB2).trans hp
  have hc3 : W.cell? (ad.add i) = some (.slice A1 m c1) := (hb.cell (World.block_lt_of_cell? w _ hrow)).trans hrow
  have HI := in_eq x 0 ((m : Int) - 1)
  have hi1 : (0 : Int) ≤ (i : Int) := by omega
  have hi2 : (i : Int) < (n : Int) := by omega
  show Calls Try.prog 122 #[.int .i64 x, .pointer (some ⟨B, 0, none⟩), .pointer (some ⟨B2, 0, none⟩)] W _
  obtain ⟨b, hbb⟩ : ∃ b, b = inB x 0 ((m : Int) - 1) := ⟨_, rfl⟩
  rw [← hbb] at HI
  replace HI := Aside0.mk HI
  replace hbb := Aside0.mk hbb
  clear hcell hp hrow
  cases b
  all_goals go_enter Try.func122, Try.ntmps122
  all_goals go_wp2_with (go_at_call 77; (with_reducible refine (impl_in.calls x 0 ((m : Int) - 1) _ _ HI.out).mono ?_); rintro e w' ⟨rfl, ⟨nd, rfl⟩⟩)
  all_goals (go_ret; exact ⟨by rw [← hbb.out]; rfl, nd, rfl⟩)
theorem enters122 : ∀ args w, (callFunc 122 args).run Try.prog w = .ok (.enter 122 args) w := enters_of Try.func122 (by kernel_rfl) rfl

def okStack (n : Nat) (row : List Int) : Bool := decide (row.length ≤ 12) && !(row.any fun q => !inB q 0 ((n : Int) - 1))
/-- Each list is fine for the exits of its place. -/
def okStacks : List (List Int) → List (List Int) → Bool
  | e :: l, r :: s => okStack e.length r && okStacks l s
  | _, _ => true
def stacksB (l : List (List Int)) (a : Int) (s : List (List Int)) : Bool := placeB l a && decide (s.length = l.length) && decide ((s.getD a.toNat []).length = 0) && okStacks l s
def impl_areStacks.f (l0_0 : List (List Int)) (a1 : Int) (l2_0 : List (List Int)) : Option Bool := some (stacksB l0_0 a1 l2_0)
theorem at_row' {w : World} {ad : Addr} {l : List (List Int)} (h : Kd.C (Kd.slice 3 (Kd.int .i64)) w (some ad) l.length l) (i : Nat) (hi : i < l.length) :
    ∃ A1 c1, w.cell? (ad.add i) = some (.slice A1 l[i].length c1) ∧ l[i].length ≤ c1 ∧ Kd.C (Kd.int .i64) w A1 l[i].length l[i] := by
  obtain ⟨ad', A1, c1, e, hx, hl, hc⟩ := at_row h i hi
  injection e with e
  subst e
  exact ⟨A1, c1, hx, hl, hc⟩
theorem box3 (W : World) (v : Value) : (W.alloc (.cells #[v] 3)).cell? ⟨W.heap.size, 0, none⟩ = some v := (blk_cell (blk_new W (.cells #[v] 3)) 0).trans rfl
theorem okStacks_drop (l s : List (List Int)) (i : Nat) (h1 : i < l.length) (h2 : i < s.length) : okStacks (l.drop i) (s.drop i) = (okStack l[i].length s[i] && okStacks (l.drop (i + 1)) (s.drop (i + 1))) := by
  rw [List.drop_eq_getElem_cons h1, List.drop_eq_getElem_cons h2]
  rfl

set_option maxHeartbeats 4000000 in
set_option maxRecDepth 100000 in
theorem impl_areStacks.walk (A0 : Option Addr) (c0 : Nat) (l : List (List Int)) (a1 : Int) (A2 : Option Addr) (c2 : Nat) (s : List (List Int)) (w : World) (hr0 : Kd.C (Kd.slice 3 (Kd.int .i64)) w A0 l.length l) (hc0 : l.length ≤ c0) (hr2 : Kd.C (Kd.slice 3 (Kd.int .i64)) w A2 s.length s) :
    Calls Try.prog 98 #[.agg #[.slice A0 l.length c0], .int .i64 a1, .agg #[.slice A2 s.length c2]] w fun e w' => e = .returned (.bool (stacksB l a1 s)) ∧ Below w.heap.size w w' := by
  have hu30 := Try.underlying30
  have hu59 := Try.underlying59
  have W0 := below_alloc (below_alloc (Below.refl w.heap.size w) (.cells #[.slice A0 l.length c0] 30)) (.cells #[.slice A2 s.length c2] 59)
  have W1 := below_alloc W0 (.cells #[.int .i64 a1] 3)
  have HR0 := Aside0.mk (Kd.C_below hr0 W1)
  have HR1 := Kd.C_of_reads (enc := Value.int .i64) (h1 := fun _ => rfl) (d := (0 : Int)) (w := ((w.alloc (.cells #[.slice A0 l.length c0] 30)).alloc (.cells #[.slice A2 s.length c2] 59)).alloc (.cells #[.int .i64 a1] 3)) (A := some ⟨w.heap.size + 2, 0, none⟩) (n := 1) (xs := [a1]) ⟨rfl, by decide, fun _ => ⟨_, rfl, fun j hj => by
    obtain rfl : j = 0 := by omega
    have h := (blk_cell (blk_new ((w.alloc (.cells #[.slice A0 l.length c0] 30)).alloc (.cells #[.slice A2 s.length c2] 59)) (.cells #[.int .i64 a1] 3)) 0)
    simpa [Addr.add] using h⟩⟩
  replace HR1 := Aside0.mk HR1
  replace W0 := Aside0.mk W0
  replace W1 := Aside0.mk W1
  cases hp : placeB l a1 with
  | false =>
    have h0 : stacksB l a1 s = false := by unfold stacksB; rw [hp]; rfl
    rw [h0]
    have hp2 := hasB_one l a1
    rw [hp] at hp2
    replace hp2 := Aside0.mk hp2
    clear hr0 hr2 h0 hp
    go_enter Try.func98, Try.ntmps98
    go_wp2_with (go_at_call 76; refine (impl_has.walk A0 c0 l _ 1 [a1] _ HR0.out HR1.out).mono ?_; rw [hp2.out]; rintro e w1 ⟨rfl, hB⟩; have HB := Aside0.mk hB; clear hB)
    go_ret
    exact ⟨rfl, below_then W1.out (by simp; omega) HB.out⟩
  | true =>
    obtain ⟨hg, hl1, hl8, ha0, hal⟩ := place_is hp
    obtain ⟨a, rfl⟩ := Int.eq_ofNat_of_zero_le ha0
    obtain ⟨ad0, _, _, rfl, _, _, _⟩ := at_row hr0 a (by omega)
    have hp2 := hasB_one l (a : Int)
    rw [hp] at hp2
    replace hp2 := Aside0.mk hp2
    have b0 : (((w.alloc (.cells #[.slice (some ad0) l.length c0] 30)).alloc (.cells #[.slice A2 s.length c2] 59)).alloc (.cells #[.int .i64 (a : Int)] 3)).cell? ⟨w.heap.size, 0, none⟩ = some (.slice (some ad0) l.length c0) := by
      rw [World.cell?_alloc_lt _ _ _ (by simp; omega), World.cell?_alloc_lt _ _ _ (by simp)]
      exact (blk_cell (blk_new w (.cells #[.slice (some ad0) l.length c0] 30)) 0).trans rfl
    have b1 : (((w.alloc (.cells #[.slice (some ad0) l.length c0] 30)).alloc (.cells #[.slice A2 s.length c2] 59)).alloc (.cells #[.int .i64 (a : Int)] 3)).cell? ⟨w.heap.size + 1, 0, none⟩ = some (.slice A2 s.length c2) := by
      rw [World.cell?_alloc_lt _ _ _ (by simp)]
      have h := (blk_cell (blk_new (w.alloc (.cells #[.slice (some ad0) l.length c0] 30)) (.cells #[.slice A2 s.length c2] 59)) 0)
      rw [show (w.alloc (.cells #[.slice (some ad0) l.length c0] 30)).heap.size = w.heap.size + 1 by simp] at h
      exact h.trans rfl
    replace b0 := Aside0.mk b0
    replace b1 := Aside0.mk b1
    by_cases hsl : s.length = l.length
    · obtain ⟨ad2, A3, c3, rfl, hx3, hl3, hC3⟩ := at_row hr2 a (by omega)
      have hx3 := W1.out.cell (World.block_lt_of_cell? w _ hx3) |>.trans hx3
      have hgd : s.getD ((a : Int)).toNat [] = s[a] := by rw [Int.toNat_natCast, List.getD_eq_getElem?_getD, List.getElem?_eq_getElem (by omega)]; rfl
      have e1 : ((s.length : Int) != (l.length : Int)) = false := by simp; omega
      have e2 : (s.length != l.length) = false := by simpa using hsl
      have i1 : (0 : Int) ≤ (a : Int) := by omega
      have i2 : (a : Int) < (s.length : Int) := by omega
      by_cases hz : s[a].length = 0
      · have hr : stacksB l (a : Int) s = okStacks l s := by unfold stacksB; rw [hp, decide_eq_true hsl, hgd, decide_eq_true hz]; rfl
        rw [hr]
        obtain ⟨r, hr⟩ : ∃ r, r = okStacks l s := ⟨_, rfl⟩
        rw [← hr]
        replace hr := Aside0.mk hr
        have e3 : ((s[a].length : Int) != 0) = false := by rw [bne_eq_false_iff_eq]; omega
        have e4 : (s[a].length != 0) = false := by simpa using hz
        generalize s[a] = row0 at *
        replace hz := Aside0.mk hz
        replace hsl := Aside0.mk hsl
        replace hgd := Aside0.mk hgd
        have HS := Aside0.mk hr2
        have HL := Aside0.mk hr0
        clear hp hr2 hr0
        go_enter Try.func98, Try.ntmps98
        go_wp2_with (go_at_call 76; refine (impl_has.walk (some ad0) c0 l _ 1 [(a : Int)] _ HR0.out HR1.out).mono ?_; rw [hp2.out]; rintro e w1 ⟨rfl, hB⟩; have HB := Aside0.mk hB; have k0 := (hB.cell (p := ⟨w.heap.size, 0, none⟩) (by simp; omega)).trans b0.out; have k1 := (hB.cell (p := ⟨w.heap.size + 1, 0, none⟩) (by simp)).trans b1.out; have k2 := (hB.cell (World.block_lt_of_cell? _ _ hx3)).trans hx3; have KB := Aside0.mk (below_then W1.out (by simp; omega) hB); have kz := hB.size; simp at kz; clear hB)
        clear k2
        go_loopg [35] s.length (fun kq v35 wr => ∃ i : Nat, v35 = .int .i64 (i : Int) ∧ Aside0 (i + kq = s.length ∧ okStacks (l.drop i) (s.drop i) = r) ∧ Aside0 (wr.cell? ⟨w.heap.size, 0, none⟩ = some (.slice (some ad0) l.length c0) ∧ w.heap.size < wr.heap.size) ∧ Aside0 (Below w.heap.size w wr))
        case atStart => exact ⟨0, rfl, ⟨by omega, by rw [List.drop_zero, List.drop_zero]; exact hr.out.symm⟩, ⟨k0, by omega⟩, KB⟩
        case round =>
          clear k0 k1 KB hr
          obtain ⟨i, rfl, HA, HC, HB⟩ := hrel
          by_cases hlt : i < s.length
          · obtain ⟨q1, rfl⟩ : ∃ m, gk = m + 1 := ⟨gk - 1, by have := HA.out.1; omega⟩
            have hil : i < l.length := by have := hsl.out; omega
            have h2 := HA.out.2
            rw [okStacks_drop l s i hil hlt] at h2
            replace h2 := Aside0.mk h2
            obtain ⟨A5, c5, hx5, hl5, hC5⟩ := at_row' HL.out i (by have := hsl.out; omega)
            obtain ⟨A6, c6, hx6, hl6, hC6⟩ := at_row' HS.out i hlt
            replace hx6 := (HB.out.cell (World.block_lt_of_cell? w _ hx6)).trans hx6
            replace hx5 := (HB.out.cell (World.block_lt_of_cell? w _ hx5)).trans hx5
            have hC6r := Kd.C_alloc (Kd.C_below hC6 HB.out) (.cells #[.int .i64 (i : Int)] 3)
            have h100 : l[i].length ≤ 100 := by have := (graph_row hg (List.getElem_mem hil)).1; omega
            generalize l[i] = lrow at *
            generalize s[i] = srow at *
            have hi1 : (0 : Int) ≤ (i : Int) := by omega
            have hi2 : (i : Int) < (s.length : Int) := by omega
            have HP := pred122 ad0 l.length c0 w.heap.size wr.heap.size i lrow.length A5 c5 (wr.alloc (.cells #[.int .i64 (i : Int)] 3)) (by simp; have := HC.out.2; omega) (by simp) ((World.cell?_alloc_lt _ _ _ (by have := HC.out.2; omega)).trans HC.out.1) (box3 _ _)
              ((World.cell?_alloc_lt _ _ _ (World.block_lt_of_cell? wr _ hx5)).trans hx5) (by have := hsl.out; omega) h100
            replace HP := Aside0.mk HP
            replace hx5 := Aside0.mk hx5
            replace hC5 := Aside0.mk hC5
            replace hC6 := Aside0.mk hC6
            replace hC6r := Aside0.mk hC6r
            obtain ⟨b, hb⟩ : ∃ b, b = srow.any (fun q => !inB q 0 ((lrow.length : Int) - 1)) := ⟨_, rfl⟩
            replace hb := Aside0.mk hb
            have HB2 := Aside0.mk (below_alloc HB.out (.cells #[.int .i64 (i : Int)] 3))
            have HC2 := Aside0.mk ((World.cell?_alloc_lt wr (.cells #[.int .i64 (i : Int)] 3) ⟨w.heap.size, 0, none⟩ (by have := HC.out.2; omega)).trans HC.out.1)
            by_cases h12 : srow.length ≤ 12
            · have h5' : decide (12 < (srow.length : Int)) = false := decide_eq_false (by omega)
              have h5'' : decide (12 < srow.length) = false := decide_eq_false (by omega)
              have h6 : okStack lrow.length srow = !b := by unfold okStack; rw [hb.out, decide_eq_true h12, Bool.true_and]
              replace h6 := Aside0.mk h6
              cases b with
              | true =>
                go_wp2_with (go_at_call 108; refine (contains_calls _ 122 _ enters122 A6 c6 srow _ HP.out hC6r.out).mono ?_; rw [← hb.out]; rintro e w' ⟨rfl, ⟨nd2, rfl⟩⟩)
                go_ret
                exact ⟨by have := h2.out; rw [h6.out] at this; simp at this; rw [← this]; rfl, pw_below_drewN HB2.out _⟩
              | false =>
                go_wp2_with (go_at_call 108; refine (contains_calls _ 122 _ enters122 A6 c6 srow _ HP.out hC6r.out).mono ?_; rw [← hb.out]; rintro e w' ⟨rfl, ⟨nd2, rfl⟩⟩)
                go_roundg q1
                case measure => omega
                case rel => exact ⟨i + 1, by go_num, ⟨by have := HA.out.1; omega, by have := h2.out; rw [h6.out] at this; simpa using this⟩, ⟨HC2.out, Nat.lt_of_lt_of_le HC.out.2 (by simp)⟩, ⟨pw_below_drewN HB2.out _⟩⟩
            · have h5' : decide (12 < (srow.length : Int)) = true := decide_eq_true (by omega)
              have h5'' : decide (12 < srow.length) = true := decide_eq_true (by omega)
              have h6 : okStack lrow.length srow = false := by unfold okStack; rw [decide_eq_false h12, Bool.false_and]
              replace h6 := Aside0.mk h6
              go_wp2_with (fail)
              go_ret
              exact ⟨by have := h2.out; rw [h6.out] at this; simp at this; rw [← this]; rfl, HB2.out⟩
          · have h2 := HA.out.2
            rw [List.drop_of_length_le (by have := hsl.out; omega), List.drop_of_length_le (by omega)] at h2
            replace h2 := Aside0.mk h2
            go_wp2_with (fail)
            go_ret
            exact ⟨by rw [← h2.out]; rfl, HB.out⟩
      · have h0 : stacksB l (a : Int) s = false := by unfold stacksB; rw [hgd, decide_eq_false hz]; simp
        rw [h0]
        have e3 : ((s[a].length : Int) != 0) = true := by rw [bne_iff_ne]; omega
        have e4 : (s[a].length != 0) = true := by simpa using hz
        generalize s[a] = row0 at *
        clear hr0 hr2 h0 hp hsl hz hgd
        go_enter Try.func98, Try.ntmps98
        go_wp2_with (go_at_call 76; refine (impl_has.walk (some ad0) c0 l _ 1 [(a : Int)] _ HR0.out HR1.out).mono ?_; rw [hp2.out]; rintro e w1 ⟨rfl, hB⟩; have HB := Aside0.mk hB; have k0 := (hB.cell (p := ⟨w.heap.size, 0, none⟩) (by simp; omega)).trans b0.out; have k1 := (hB.cell (p := ⟨w.heap.size + 1, 0, none⟩) (by simp)).trans b1.out; have k2 := (hB.cell (World.block_lt_of_cell? _ _ hx3)).trans hx3; clear hB)
        go_ret
        exact ⟨rfl, below_then W1.out (by simp; omega) HB.out⟩
    · have h0 : stacksB l (a : Int) s = false := by unfold stacksB; rw [decide_eq_false hsl]; simp
      rw [h0]
      have e1 : ((s.length : Int) != (l.length : Int)) = true := by simp; omega
      have e2 : (s.length != l.length) = true := by simpa using hsl
      clear hr0 hr2 h0 hp hsl
      go_enter Try.func98, Try.ntmps98
      go_wp2_with (go_at_call 76; refine (impl_has.walk (some ad0) c0 l _ 1 [(a : Int)] _ HR0.out HR1.out).mono ?_; rw [hp2.out]; rintro e w1 ⟨rfl, hB⟩; have HB := Aside0.mk hB; have k0 := (hB.cell (p := ⟨w.heap.size, 0, none⟩) (by simp; omega)).trans b0.out; have k1 := (hB.cell (p := ⟨w.heap.size + 1, 0, none⟩) (by simp)).trans b1.out; clear hB)
      go_ret
      exact ⟨rfl, below_then W1.out (by simp; omega) HB.out⟩
theorem impl_areStacks.calls (A0_0 : Option Addr) (c0_0 : Nat) (l0_0 : List (List Int)) (a1 : Int) (A2_0 : Option Addr) (c2_0 : Nat) (l2_0 : List (List Int)) (r : Bool) (w : World) (hr0_0 : Kd.C (Kd.slice 3 (Kd.int .i64)) w A0_0 l0_0.length l0_0) (hc0_0 : l0_0.length ≤ c0_0) (hr2_0 : Kd.C (Kd.slice 3 (Kd.int .i64)) w A2_0 l2_0.length l2_0) (hc2_0 : l2_0.length ≤ c2_0) (h : impl_areStacks.f l0_0 a1 l2_0 = some r) :
    Calls Try.prog 98 #[.agg #[.slice A0_0 l0_0.length c0_0], .int .i64 a1, .agg #[.slice A2_0 l2_0.length c2_0]] w fun e w' => e = .returned (.bool r) ∧ Below w.heap.size w w' := by
  obtain rfl := Option.some.inj h
  exact impl_areStacks.walk A0_0 c0_0 l0_0 a1 A2_0 c2_0 l2_0 w hr0_0 hc0_0 hr2_0
end Go.Proofs.Ytnbnalbomflafaa.KA
