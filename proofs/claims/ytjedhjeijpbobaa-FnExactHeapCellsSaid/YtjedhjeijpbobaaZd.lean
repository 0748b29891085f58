/-
  The reference's line: the same runs, on a row of rotors. What is asked of the grid: what the field tells, and the numbers of steps of the reference. Whether a cell is grown, and its rotor: of both sides, walked. The greatest square of a grown cell, and a chip's cell: of both sides, walked. The greatest square of a grown cell, and a chip's cell: the program's, and the reference's chip.
-/
import Derived.Test.YtjedhjeijpbobaaZb
/-! ## Pm -/
namespace Go.Proofs.Ytjedhjeijpbobaa.G8
open Go.RowKit Go.Proofs.YtjedhjeijpbobaaW.PrintWords Go.Proofs.YtjedhjeijpbobaaW.PrintLast Go.Proofs.YtjedhjeijpbobaaW.PrintMore
open Go.Proofs.Ytjedhjeijpbobaa.GA
set_option linter.unusedVariables false
set_option linter.unusedSimpArgs false
theorem spec_in_eq (a lo hi : Int) : spec_l1In.f a lo hi = some (inB a lo hi) := by
  unfold spec_l1In.f inB
  by_cases h1 : lo ≤ a
  · simp [h1]
  · simp [h1]
theorem least_eq (a b : Int) : spec_l1Least.f a b = some (if a < b then a else b) := by unfold spec_l1Least.f; split <;> rfl
theorem most_eq (a b : Int) : spec_l1Most.f a b = some (if a > b then a else b) := by unfold spec_l1Most.f; split <;> rfl
theorem rd_set (R : List Int) (i j v : Int) (hi : 0 ≤ i) (hil : i < R.length) (hj : 0 ≤ j) : rd (R.set i.toNat v) j = if j = i then v else rd R j := by
  unfold rd
  rw [List.getD_eq_getElem?_getD, List.getD_eq_getElem?_getD, List.getElem?_set]
  by_cases e : j = i
  · subst e
    rw [if_pos rfl, if_pos rfl, if_pos (by omega)]
    rfl
  · rw [if_neg (by omega), if_neg e]
structure RowIs (R : List Int) (F : Fld) (k0 : Int) : Prop where
  len : R.length = 1201
  is : ∀ c : Int, -600 ≤ c → c ≤ 600 → rd R (c + 600) = (F c 0).getD k0
theorem RowIs.upd {R : List Int} {F : Fld} {k0 x r : Int} (h : RowIs R F k0) (hx0 : -600 ≤ x) (hx1 : x ≤ 600) : RowIs (R.set (x + 600).toNat r) (upd F x 0 r) k0 := by
  refine ⟨by rw [List.length_set]; exact h.len, fun c h0 h1 => ?_⟩
  rw [rd_set _ _ _ _ (by omega) (by rw [h.len]; omega) (by omega)]
  unfold G8.upd
  by_cases e : c = x
  · rw [if_pos (by omega), if_pos ⟨e, rfl⟩]; rfl
  · rw [if_neg (by omega), if_neg (fun e1 => e e1.1)]; exact h.is c h0 h1
theorem RowIs.grow {R : List Int} {F : Fld} {k0 x : Int} (h : RowIs R F k0) (hF : F x 0 = none) (hx0 : -600 ≤ x) (hx1 : x ≤ 600) : RowIs R (G8.upd F x 0 k0) k0 := by
  refine ⟨h.len, fun c h0 h1 => ?_⟩
  rw [h.is c h0 h1]
  unfold G8.upd
  by_cases e : c = x
  · subst e; rw [hF, if_pos ⟨rfl, rfl⟩]; rfl
  · rw [if_neg (fun e1 => e e1.1)]
theorem l1_more {k : Nat} {a : Int} {R : List Int} {lo hi s : Int} {r : Int × Int × Int} (h : spec_gwLine.l1 k a R lo hi s = some r) : ∀ m, spec_gwLine.l1 (k + m) a R lo hi s = some r
  | 0 => h
  | m + 1 => (spec_gwLine.mono_l (k + m)).2.1 a R lo hi s r (l1_more h m)
theorem line_l2 (k0 : Int) {lo : Int} {n : Nat} (hn : n ≤ 250) (hlo : -250 ≤ lo) (hl1 : lo ≤ 1) (hhi : lo + n ≤ 251) (a : Int) (ha : 1 ≤ a ∧ a ≤ 250) : ∀ (k : Nat) (F : Fld) (R : List Int) (x s : Int) (F1 : Fld) (x1 y1 s1 : Int),
    Line F lo n → RowIs R F k0 → lo - 1 ≤ x → x ≤ lo + n → 0 ≤ s → s + k ≤ 1000000000 → run 2 300 mv2 k F x 0 s = some (F1, x1, y1, s1) →
    ∃ R1, RowIs R1 F1 k0 ∧ y1 = 0 ∧ F1 x1 0 = none ∧ Line F1 lo n ∧ (x1 = lo - 1 ∨ x1 = lo + n) ∧ s ≤ s1 ∧ s1 ≤ s + k ∧
      ∀ j r, spec_gwLine.l1 j (a - 1) R1 (if lo < x1 then lo else x1) (if lo + n - 1 > x1 then lo + n - 1 else x1) s1 = some r → spec_gwLine.l2 (j + k) a R lo (lo + n - 1) s x = some r := by
  intro k
  induction k with
  | zero => intro F R x s F1 x1 y1 s1 L hR h0 h1 hs hsk h; exact absurd h (by simp [run])
  | succ k ih =>
    intro F R x s F1 x1 y1 s1 L hR h0 h1 hs hsk h
    have hw : wrap64 (x + 600) = x + 600 := wrap_id (by omega) (by omega)
    by_cases hin : lo ≤ x ∧ x < lo + n
    · obtain ⟨r, hr⟩ : ∃ r, F x 0 = some r := by rcases L.on x hin.1 hin.2 with h | h <;> exact ⟨_, h⟩
      obtain ⟨L1, hp, hm, h2, h3⟩ := line_step L hin.1 hin.2 hr
      unfold run at h
      rw [if_pos (by omega), hr] at h
      simp only at h
      rw [hm] at h
      have hR1 := hR.upd (r := (r + 1) % 2) (show -600 ≤ x by omega) (by omega)
      obtain ⟨R1, g1, g2, g3, g4, g5, g6, g7, g8⟩ := ih _ _ _ (s + 1) F1 x1 y1 s1 L1 hR1 h2 h3 (by omega) (by omega) h
      refine ⟨R1, g1, g2, g3, g4, g5, by omega, by omega, fun j q hq => ?_⟩
      have hj := g8 j q hq
      have hrd : rd R (x + 600) = r := by rw [hR.is x (by omega) (by omega), hr]; rfl
      have hs1 : wrap64 (s + 1) = s + 1 := wrap_id (by omega) (by omega)
      show spec_gwLine.l2 (j + k + 1) a R lo (lo + n - 1) s x = some q
      simp only [spec_gwLine.l2]
      rw [spec_in_eq, Option.bind_some, if_pos (by unfold inB; rw [decide_eq_true_eq]; omega), hw, if_pos (by omega), if_pos (by rw [hR.len]; omega), Option.bind_some, hrd, hs1]
      rw [rd_set _ _ _ _ (by omega) (by rw [hR.len]; omega) (by omega), if_pos rfl]
      rcases L.on x hin.1 hin.2 with e | e
      · rw [e] at hr
        cases hr
        have e1 : wrap64 (1 - 0) = 1 := wrap_id (x := 1) (by omega) (by omega)
        have e2 : ((0 : Int) + 1) % 2 = 1 := by decide
        have e3 : mv2 1 x 0 = (x - 1, 0) := by unfold mv2; rw [if_neg (by omega)]
        rw [e2, e3] at hj
        rw [e1, if_neg (by decide), wrap_id (x := x - 1) (by omega) (by omega)]
        exact hj
      · rw [e] at hr
        cases hr
        have e1 : wrap64 (1 - 1) = 0 := wrap_id (x := 0) (by omega) (by omega)
        have e2 : ((1 : Int) + 1) % 2 = 0 := by decide
        have e3 : mv2 0 x 0 = (x + 1, 0) := by unfold mv2; rw [if_pos rfl]
        rw [e2, e3] at hj
        rw [e1, if_pos rfl, wrap_id (x := x + 1) (by omega) (by omega)]
        exact hj
    · unfold run at h
      have hF := L.off x 0 (fun h => hin h.2)
      rw [if_pos (by omega), hF] at h
      simp only [Option.some.injEq, Prod.mk.injEq] at h
      obtain ⟨rfl, rfl, rfl, rfl⟩ := h
      refine ⟨R, hR, rfl, hF, L, by omega, by omega, by omega, fun j q hq => ?_⟩
      show spec_gwLine.l2 (j + k + 1) a R lo (lo + n - 1) s x = some q
      simp only [spec_gwLine.l2]
      rw [spec_in_eq, Option.bind_some, if_neg (by unfold inB; rw [decide_eq_true_eq]; omega), least_eq, Option.bind_some, most_eq, Option.bind_some, wrap_id (x := a - 1) (by omega) (by omega)]
      exact l1_more hq k
def mins (a : Int) (cs : List (Int × Int)) : Int := cs.foldl (fun a c => if a < c.1 then a else c.1) a
def maxs (a : Int) (cs : List (Int × Int)) : Int := cs.foldl (fun a c => if a > c.1 then a else c.1) a
theorem line_l1 (k0 : Int) (hk : k0 = 0 ∨ k0 = 1) : ∀ (m n : Nat) (lo : Int) (F : Fld) (R : List Int) (cs : List (Int × Int)) (s : Int) (S : St), n + m ≤ 250 → -n ≤ lo → lo ≤ 1 → 0 < lo + n → Line F lo n → RowIs R F k0 → 0 ≤ s → s + ((215603 * m : Nat) : Int) ≤ 100000000 → chips 2 300 mv2 215603 k0 m ⟨F, cs, s⟩ = some S →
    ∃ more, S.cells = cs ++ more ∧ more.length = m ∧ (∀ c ∈ more, -250 ≤ c.1 ∧ c.1 ≤ 251 ∧ c.2 = 0) ∧ ∃ j, spec_gwLine.l1 j (m : Int) R lo (lo + n - 1) s = some (mins lo more, maxs (lo + n - 1) more, S.steps) := by
  intro m
  induction m with
  | zero =>
    intro n lo F R cs s S hnm h0 h1 h2 L hR hs hsk h
    simp only [chips, Option.some.injEq] at h
    subst h
    exact ⟨[], by simp, rfl, by simp, 1, by simp [spec_gwLine.l1, mins, maxs]⟩
  | succ m ih =>
    intro n lo F R cs s S hnm h0 h1 h2 L hR hs hsk h
    simp only [chips] at h
    obtain ⟨⟨F1, x1, y1, s1⟩, hr, h⟩ := Option.bind_eq_some_iff.1 h
    obtain ⟨R1, hR1, rfl, hF1, L1, hx, hs0, hs1, hc⟩ := line_l2 k0 (show n ≤ 250 by omega) (by omega) h1 (by omega) ((m + 1 : Nat) : Int) (by omega) 215603 F R 0 s F1 x1 y1 s1 L hR (by omega) (by omega) hs (by omega) hr
    simp only at h
    have hR2 := hR1.grow hF1 (by omega) (by omega)
    have hu : ∀ lo2 : Int, (lo2 = lo ∧ x1 = lo + n ∨ lo2 = lo - 1 ∧ x1 = lo - 1) → Line (upd F1 x1 0 k0) lo2 (n + 1) := fun lo2 hlo => by
      refine ⟨fun c h4 h5 => ?_, fun a b hab => ?_⟩
      · by_cases e : c = x1
        · subst e; unfold upd; rw [if_pos ⟨rfl, rfl⟩]; rcases hk with rfl | rfl <;> simp
        · unfold upd; rw [if_neg (fun h => e h.1)]; exact L1.on c (by omega) (by omega)
      · unfold upd
        rw [if_neg (fun h => hab ⟨h.2, by omega, by omega⟩)]
        exact L1.off a b (fun h => hab ⟨h.1, by omega, by omega⟩)
    obtain ⟨lo2, hlo, e1, e2⟩ : ∃ lo2 : Int, (lo2 = lo ∧ x1 = lo + n ∨ lo2 = lo - 1 ∧ x1 = lo - 1) ∧ (if lo < x1 then lo else x1) = lo2 ∧ (if lo + n - 1 > x1 then lo + n - 1 else x1) = lo2 + ((n + 1 : Nat) : Int) - 1 := by
      rcases hx with hx | hx
      · refine ⟨lo - 1, .inr ⟨rfl, hx⟩, ?_, ?_⟩ <;> split <;> omega
      · refine ⟨lo, .inl ⟨rfl, hx⟩, ?_, ?_⟩ <;> split <;> omega
    obtain ⟨more, c1, c2, c3, j, c4⟩ := ih (n + 1) lo2 _ R1 _ s1 S (by omega) (by omega) (by omega) (by omega) (hu lo2 hlo) hR2 (by omega) (by omega) h
    have ea : ((m + 1 : Nat) : Int) - 1 = (m : Int) := by omega
    rw [e1, e2, ea] at hc
    have hj := hc j _ c4
    refine ⟨(x1, 0) :: more, by rw [c1]; simp, by simp [c2], ?_, j + 215603 + 1, ?_⟩
    · intro c hcm
      rcases List.mem_cons.1 hcm with rfl | hcm
      · exact ⟨by simp only; omega, by simp only; omega, rfl⟩
      · exact c3 c hcm
    · simp only [spec_gwLine.l1]
      rw [if_pos (by omega), hj]
      simp only [mins, maxs, List.foldl_cons]
      rw [e1, e2]
theorem line_l0 (n k0 : Int) : ∀ (m : Nat) (i : Int) (R : List Int), R.length = 1201 → 0 ≤ i → i + m = 1201 → (∀ c : Int, 0 ≤ c → c < i → rd R c = k0) →
    ∃ R1, RowIs R1 (fun _ _ => none) k0 ∧ ∀ j r, spec_gwLine.l1 j n R1 1 0 0 = some r → spec_gwLine.l0 (j + m + 1) n k0 R 1201 i = some r := by
  intro m
  induction m with
  | zero =>
    intro i R hR h0 h1 h
    refine ⟨R, ⟨hR, fun c h2 h3 => h _ (by omega) (by omega)⟩, fun j r hj => ?_⟩
    simp only [spec_gwLine.l0, Nat.add_zero]
    rw [if_neg (by omega)]
    exact hj
  | succ m ih =>
    intro i R hR h0 h1 h
    obtain ⟨R1, g1, g2⟩ := ih (i + 1) (R.set i.toNat k0) (by rw [List.length_set]; exact hR) (by omega) (by omega) (fun c h2 h3 => by
      rw [rd_set _ _ _ _ h0 (by omega) h2]
      by_cases e : c = i
      · rw [if_pos e]
      · rw [if_neg e]; exact h c h2 (by omega))
    refine ⟨R1, g1, fun j r hj => ?_⟩
    have := g2 j r hj
    show spec_gwLine.l0 (j + m + 1 + 1) n k0 R 1201 i = some r
    simp only [spec_gwLine.l0]
    rw [if_pos (by omega), if_pos h0, if_pos (by rw [hR]; omega), wrap_id (x := i + 1) (by omega) (by omega)]
    exact this
/-- What the reference's line tells: the ends of what is grown, and the steps. -/
theorem line_f {n k : Int} (h : okLine n k = true) : (lineS n k).cells.length = n.toNat ∧ (∀ c ∈ (lineS n k).cells, -250 ≤ c.1 ∧ c.1 ≤ 251 ∧ c.2 = 0) ∧ ∃ j, spec_gwLine.f j n k = some (mins 1 (lineS n k).cells, maxs 0 (lineS n k).cells, (lineS n k).steps) := by
  obtain ⟨m, rfl, hm, h0, h1, hS⟩ := line_is h
  generalize lineS (m : Int) k = S at *
  obtain ⟨R1, g1, g2⟩ := line_l0 m k 1201 0 (List.replicate 1201 0) (by rw [List.length_replicate]) (by omega) (by omega) (fun c h2 h3 => by omega)
  obtain ⟨more, c1, c2, c3, j, c4⟩ := line_l1 k (by omega) m 0 1 (fun _ _ => none) R1 [] 0 S (by omega) (by omega) (by omega) (by omega) ⟨fun c h0 h1 => by omega, fun a b h => rfl⟩ g1 (by omega) (by omega) hS
  rw [List.nil_append] at c1
  subst c1
  refine ⟨by rw [c2]; omega, c3, j + 1201 + 1, ?_⟩
  unfold spec_gwLine.f
  rw [if_pos (by decide), Option.bind_some, List.length_replicate]
  exact g2 j _ c4
end Go.Proofs.Ytjedhjeijpbobaa.G8

/-! ## Fc -/
namespace Go.Proofs.Ytjedhjeijpbobaa.G8
open Go.RowKit Go.Maps Go.Proofs.YtjedhjeijpbobaaW.PrintWords Go.Proofs.YtjedhjeijpbobaaW.PrintLast Go.Proofs.YtjedhjeijpbobaaW.PrintMore
open Go.Proofs.Ytjedhjeijpbobaa.GA
set_option linter.unusedVariables false
set_option linter.unusedSimpArgs false
/-! ### What chips leave -/
theorem run_keep (ex B : Int) (mv : Int → Int → Int → Int × Int) : ∀ (k : Nat) (F : Fld) (x y s : Int) (F1 : Fld) (x1 y1 s1 : Int), run ex B mv k F x y s = some (F1, x1, y1, s1) → (∀ a b, (F1 a b).isSome = (F a b).isSome) ∧ F1 x1 y1 = none ∧ (-B ≤ x1 ∧ x1 ≤ B ∧ -B ≤ y1 ∧ y1 ≤ B) ∧ s ≤ s1 ∧ s1 ≤ s + k
  | 0, F, x, y, s, F1, x1, y1, s1, h => by simp [run] at h
  | k + 1, F, x, y, s, F1, x1, y1, s1, h => by
    unfold run at h
    split at h
    · rename_i hb
      cases hF : F x y with
      | none =>
        rw [hF] at h
        simp only [Option.some.injEq, Prod.mk.injEq] at h
        obtain ⟨rfl, rfl, rfl, rfl⟩ := h
        exact ⟨fun _ _ => rfl, hF, hb, by omega, by omega⟩
      | some r =>
        rw [hF] at h
        simp only at h
        obtain ⟨h1, h2, h3, h4, h5⟩ := run_keep ex B mv k _ _ _ _ F1 x1 y1 s1 h
        refine ⟨fun a b => ?_, h2, h3, by omega, by omega⟩
        rw [h1 a b]
        unfold upd
        by_cases e : a = x ∧ b = y
        · rw [if_pos e, e.1, e.2, hF]; rfl
        · rw [if_neg e]
    · cases h
/-- What is grown are the cells, each within B of the middle, each once. -/
structure Kept (B : Int) (S : St) : Prop where
  mem : ∀ a b, (S.f a b).isSome = true ↔ (a, b) ∈ S.cells
  box : ∀ c ∈ S.cells, -B ≤ c.1 ∧ c.1 ≤ B ∧ -B ≤ c.2 ∧ c.2 ≤ B
  once : S.cells.Nodup
theorem chips_keep (ex B : Int) (mv : Int → Int → Int → Int × Int) (K : Nat) (k0 : Int) : ∀ (n : Nat) (S S1 : St), chips ex B mv K k0 n S = some S1 → Kept B S → Kept B S1 ∧ S1.cells.length = S.cells.length + n ∧ S.steps ≤ S1.steps ∧ S1.steps ≤ S.steps + ((K * n : Nat) : Int)
  | 0, S, S1, h, hk => by
    simp only [chips, Option.some.injEq] at h
    subst h
    exact ⟨hk, rfl, by omega, by simp⟩
  | n + 1, S, S1, h, hk => by
    simp only [chips] at h
    obtain ⟨⟨F1, x1, y1, s1⟩, hr, h⟩ := Option.bind_eq_some_iff.1 h
    obtain ⟨h1, h2, h3, h4, h5⟩ := run_keep ex B mv K _ _ _ _ F1 x1 y1 s1 hr
    have hno : (x1, y1) ∉ S.cells := fun hm => by
      have := (hk.mem x1 y1).2 hm
      rw [← h1 x1 y1, h2] at this
      cases this
    obtain ⟨g1, g2, g3, g4⟩ := chips_keep ex B mv K k0 n _ S1 h ⟨fun a b => by
      simp only [List.mem_append, List.mem_singleton, Prod.mk.injEq]
      rw [← hk.mem a b, ← h1 a b]
      unfold upd
      by_cases e : a = x1 ∧ b = y1
      · rw [if_pos e]; simp [e]
      · rw [if_neg e]; simp [e], fun c hc => by
      simp only [List.mem_append, List.mem_singleton] at hc
      rcases hc with hc | rfl
      · exact hk.box c hc
      · exact h3, by
      rw [List.nodup_append]
      refine ⟨hk.once, by simp, fun a ha b hb => ?_⟩
      simp at hb
      subst hb
      rintro rfl
      exact hno ha⟩
    refine ⟨g1, ?_, ?_, ?_⟩
    · rw [g2, List.length_append, List.length_singleton]
      omega
    · simp only at g3
      omega
    · simp only at g4
      rw [Nat.mul_succ]
      omega
theorem kept0 (B : Int) : Kept B st0 := ⟨fun a b => by simp [st0], fun c hc => by simp [st0] at hc, by simp [st0]⟩
theorem grid_kept {n k : Int} (h : okGrid n k = true) : Kept 15 (gridS n k) ∧ (gridS n k).cells.length = n.toNat ∧ 0 ≤ (gridS n k).steps ∧ (gridS n k).steps ≤ 1250000 := by
  obtain ⟨m, rfl, hm, h0, h1, hS⟩ := grid_is h
  obtain ⟨g1, g2, g3, g4⟩ := chips_keep _ _ _ _ _ m _ _ hS (kept0 15)
  have e : st0.steps = 0 := rfl
  have e2 : st0.cells.length = 0 := rfl
  rw [e] at g3 g4
  rw [e2] at g2
  exact ⟨g1, by omega, g3, by omega⟩
/-! ### What may be asked for -/
def nearB (x y : Int) : Bool := inB x (-100) 100 && inB y (-100) 100
theorem asked_eq (n k : Int) : spec_gwAsked.f n k = some (okGrid n k) := by
  unfold spec_gwAsked.f okGrid
  rw [spec_in_eq, Option.bind_some]
  cases inB n 0 250 with
  | true => rw [if_pos rfl, spec_in_eq]; rfl
  | false => rw [if_neg (by decide)]; rfl
theorem near_eq (x y : Int) : spec_gwNear.f x y = some (nearB x y) := by
  unfold spec_gwNear.f nearB
  rw [spec_in_eq, Option.bind_some]
  cases inB x (-100) 100 with
  | true => rw [if_pos rfl, spec_in_eq]; rfl
  | false => rw [if_neg (by decide)]; rfl
theorem isCell_eq (x y : Int) : impl_isCell.f x y = some (nearB x y) := by
  unfold impl_isCell.f nearB
  rw [impl_in_eq, Option.bind_some]
  cases inB x (-100) 100 with
  | true => rw [if_pos rfl, impl_in_eq]; rfl
  | false => rw [if_neg (by decide)]; rfl
theorem go_any {n k : Int} (h : okGrid n k = true) (w : World) : Calls Try.prog 66 #[.int .i64 n, .int .i64 k] w (GwOut w k (gridS n k)) := by
  obtain ⟨m, rfl, hm, h0, h1, hS⟩ := grid_is h
  exact go_grid 5000 k m _ w (by omega) ⟨h0, h1⟩ hm hS
def spec_StepsToGrow.f (n k : Int) : Option (Int × Bool) := some (if okGrid n k = true then (gridS n k).steps else 0, okGrid n k)
set_option maxHeartbeats 4000000 in
set_option maxRecDepth 100000 in
theorem spec_StepsToGrow.walk (n k : Int) (w : World) : Calls Try.prog 18 #[.int .i64 n, .int .i64 k] w fun e w' => e = .returned (.tuple #[.int .i64 (if okGrid n k = true then (gridS n k).steps else 0), .bool (okGrid n k)]) ∧ Below w.heap.size w w' := by
  have HA := Aside0.mk (fun W => spec_gwAsked.calls n k _ W (asked_eq n k))
  cases ho : okGrid n k with
  | false =>
    rw [ho] at HA
    rw [if_neg (by decide)]
    clear ho
    go_enter Try.func18, Try.ntmps18
    go_wp2_with (first | (go_at_call 65; refine (HA.out _).mono ?_; rintro e w1 ⟨rfl, ⟨nd, rfl⟩⟩))
    go_ret2
    exact ⟨rfl, by repeat (first | exact Below.refl _ _ | apply pw_below_drewN)⟩
  | true =>
    have HG := Aside0.mk (fun W => go_any ho W)
    rw [ho] at HA
    rw [if_pos rfl]
    clear ho
    generalize gridS n k = S at *
    go_enter Try.func18, Try.ntmps18
    go_wp2_with (first | (go_at_call 65; refine (HA.out _).mono ?_; rintro e w1 ⟨rfl, ⟨nd, rfl⟩⟩) | (go_at_call 66; refine (HG.out _).mono ?_; rintro e w1 ⟨f, gb, rb, vc, rfl, hB, hG⟩; have HB := Aside0.mk hB; have c3 := blk_cell hG.out.blk 3; simp at c3; clear hB hG))
    go_ret2
    exact ⟨rfl, below_then (by repeat (first | exact Below.refl _ _ | apply pw_below_drewN)) (by simp) HB.out⟩
theorem spec_StepsToGrow.calls (n k : Int) (r1 : Int) (r2 : Bool) (w : World) (h : spec_StepsToGrow.f n k = some (r1, r2)) :
    Calls Try.prog 18 #[.int .i64 n, .int .i64 k] w fun e w' => e = .returned (.tuple #[.int .i64 r1, .bool r2]) ∧ Below w.heap.size w w' := by
  have e := Option.some.inj h
  injection e with e1 e2
  subst e1 e2
  exact spec_StepsToGrow.walk n k w
end Go.Proofs.Ytjedhjeijpbobaa.G8

/-! ## Fd -/
namespace Go.Proofs.Ytjedhjeijpbobaa.G8
open Go.RowKit Go.Maps Go.Proofs.YtjedhjeijpbobaaW.PrintWords Go.Proofs.YtjedhjeijpbobaaW.PrintLast Go.Proofs.YtjedhjeijpbobaaW.PrintMore
open Go.Proofs.Ytjedhjeijpbobaa.GA
set_option linter.unusedVariables false
set_option linter.unusedSimpArgs false
def mayAsk (n k x y : Int) : Bool := okGrid n k && nearB x y
def isGrownV (n k x y : Int) : Bool := mayAsk n k x y && ((gridS n k).f x y).isSome
def rotorV (n k x y : Int) : Int := if mayAsk n k x y = true then ((gridS n k).f x y).getD k else 0
def box60 (x y : Int) : Bool := inB x (-60) 60 && inB y (-60) 60
theorem off60 {n k x y : Int} (h : okGrid n k = true) (hb : box60 x y = false) : (gridS n k).f x y = none := by
  cases hF : (gridS n k).f x y with
  | none => rfl
  | some r =>
    obtain ⟨hk, _⟩ := grid_kept h
    have := hk.box _ ((hk.mem x y).1 (by rw [hF]; rfl))
    simp only [box60, inB] at hb
    simp only [Bool.and_eq_false_iff, decide_eq_false_iff_not] at hb
    simp only at this
    omega
theorem box_of {x y : Int} (hb : box60 x y = true) : Box x ∧ Box y := by
  simp only [box60, inB, Bool.and_eq_true, decide_eq_true_eq] at hb
  exact hb
theorem near_wf {x y : Int} (h : nearB x y = true) : (Lit.int .i64 x).wf = true ∧ (Lit.int .i64 y).wf = true := by
  simp only [nearB, inB, Bool.and_eq_true, decide_eq_true_eq] at h
  exact ⟨i64_ok (by omega) (by omega), i64_ok (by omega) (by omega)⟩
theorem GroAt.drewN {w : World} {base g gm N : Nat} {vc : Value} {F : Fld} {cs : List (Int × Int)} {s : Int} (h : GroAt w base g gm N vc F cs s) (n : Nat) : GroAt (w.drewN n) base g gm N vc F cs s := h.keep fun _ _ => by simp
set_option maxRecDepth 100000 in
theorem GroAt.look {w : World} {base g gm N : Nat} {vc : Value} {F : Fld} {cs : List (Int × Int)} {s : Int} (h : GroAt w base g gm N vc F cs s) {x y : Int} (hx : (Lit.int .i64 x).wf = true) (hy : (Lit.int .i64 y).wf = true) :
    ∃ c, (Instr.lookup 67 (.map (some gm)) (.agg #[.int .i64 x, .int .i64 y]) true).run Try.prog w = .ok (.tuple #[.int .i64 c, .bool (F x y).isSome]) w ∧ ∀ r, F x y = some r → c = r := by
  obtain ⟨D, hown, hfi⟩ := h.map
  obtain ⟨v, ps, hlook, hv⟩ := hown.look_ok law76 Try.underlying67 (zero3 _) (plainElem_int Try.underlying3 (by decide)) (key_is x y hx hy)
  obtain ⟨c, rfl, hc, hwc⟩ := plainElem_int_inv Try.underlying3 hv
  rw [hfi.has x y hx hy] at hlook
  refine ⟨c, hlook, fun r h => ?_⟩
  have h1 := hfi.val x y r hx hy h
  have h2 := congrArg Prod.fst hc
  simp only at h2
  rw [h1] at h2
  injection h2 with h2
  injection h2 with _ h2
  exact h2.symm
theorem mov {n k x y : Int} : (okGrid n k = false → mayAsk n k x y = false) ∧ (nearB x y = false → mayAsk n k x y = false) ∧ (okGrid n k = true → nearB x y = true → mayAsk n k x y = true) := by
  unfold mayAsk
  refine ⟨fun h => by rw [h]; rfl, fun h => by rw [h, Bool.and_false], fun h1 h2 => by rw [h1, h2]; rfl⟩
theorem isv0 {n k x y : Int} (h : mayAsk n k x y = false) : isGrownV n k x y = false := by unfold isGrownV; rw [h]; rfl
theorem isv1 {n k x y : Int} (h : mayAsk n k x y = true) : isGrownV n k x y = ((gridS n k).f x y).isSome := by unfold isGrownV; rw [h]; rfl
theorem rov0 {n k x y : Int} (h : mayAsk n k x y = false) : rotorV n k x y = 0 := by unfold rotorV; rw [h]; rfl
theorem rov1 {n k x y : Int} (h : mayAsk n k x y = true) : rotorV n k x y = ((gridS n k).f x y).getD k := by unfold rotorV; rw [h]; rfl
theorem in60 (a : Int) (W : World) : Calls Try.prog 72 #[.int .i64 a, .int .i64 (-60), .int .i64 60] W fun e w' => e = .returned (.bool (inB a (-60) 60)) ∧ Drawn0 W w' := spec_l1In.calls a (-60) 60 _ W (spec_in_eq a (-60) 60)
def spec_IsGrown.f (n k x y : Int) : Option (Bool × Bool) := some (isGrownV n k x y, mayAsk n k x y)
set_option maxHeartbeats 4000000 in
set_option maxRecDepth 100000 in
theorem spec_IsGrown.walk (n k x y : Int) (w : World) : Calls Try.prog 22 #[.int .i64 n, .int .i64 k, .int .i64 x, .int .i64 y] w fun e w' => e = .returned (.tuple #[.bool (isGrownV n k x y), .bool (mayAsk n k x y)]) ∧ Below w.heap.size w w' := by
  have HA := Aside0.mk (fun W => spec_gwAsked.calls n k _ W (asked_eq n k))
  have HN := Aside0.mk (fun W => spec_gwNear.calls x y _ W (near_eq x y))
  have HX := Aside0.mk (in60 x)
  have HY := Aside0.mk (in60 y)
  cases ho : okGrid n k with
  | false =>
    have hm := (mov (n := n) (k := k) (x := x) (y := y)).1 ho
    rw [isv0 hm, hm]
    rw [ho] at HA
    clear ho hm
    go_enter Try.func22, Try.ntmps22
    go_wp2_with (first | (go_at_call 65; (with_reducible refine (HA.out _).mono ?_); rintro e w1 ⟨rfl, ⟨nd, rfl⟩⟩))
    go_ret2
    exact ⟨rfl, by repeat (first | exact Below.refl _ _ | apply pw_below_drewN)⟩
  | true =>
    cases hq : nearB x y with
    | false =>
      have hm := (mov (n := n) (k := k) (x := x) (y := y)).2.1 hq
      rw [isv0 hm, hm]
      rw [ho] at HA
      rw [hq] at HN
      clear ho hm hq
      go_enter Try.func22, Try.ntmps22
      go_wp2_with (first | (go_at_call 65; (with_reducible refine (HA.out _).mono ?_); rintro e w1 ⟨rfl, ⟨nd, rfl⟩⟩) | (go_at_call 71; (with_reducible refine (HN.out _).mono ?_); rintro e w1 ⟨rfl, ⟨nd1, rfl⟩⟩))
      go_ret2
      exact ⟨rfl, by repeat (first | exact Below.refl _ _ | apply pw_below_drewN)⟩
    | true =>
      have hm := mov.2.2 ho hq
      rw [isv1 hm, hm]
      rw [ho] at HA
      rw [hq] at HN
      have h60 := @off60 n k x y ho
      have HG := Aside0.mk (fun W => go_any ho W)
      generalize gridS n k = S at *
      clear ho hm hq
      cases hbx : inB x (-60) 60 with
      | false =>
        rw [h60 (by unfold box60; rw [hbx]; rfl)]
        rw [hbx] at HX
        clear h60 hbx HG
        go_enter Try.func22, Try.ntmps22
        go_wp2_with (first | (go_at_call 65; (with_reducible refine (HA.out _).mono ?_); rintro e w1 ⟨rfl, ⟨nd, rfl⟩⟩) | (go_at_call 71; (with_reducible refine (HN.out _).mono ?_); rintro e w1 ⟨rfl, ⟨nd1, rfl⟩⟩) | (go_at_call 72; (with_reducible refine (HX.out _).mono ?_); rintro e w1 ⟨rfl, ⟨nd2, rfl⟩⟩))
        go_ret2
        exact ⟨rfl, by repeat (first | exact Below.refl _ _ | apply pw_below_drewN)⟩
      | true =>
        cases hby : inB y (-60) 60 with
        | false =>
          rw [h60 (by unfold box60; rw [hbx, hby]; rfl)]
          rw [hbx] at HX
          rw [hby] at HY
          clear h60 hbx hby HG
          go_enter Try.func22, Try.ntmps22
          go_wp2_with (first | (go_at_call 65; (with_reducible refine (HA.out _).mono ?_); rintro e w1 ⟨rfl, ⟨nd, rfl⟩⟩) | (go_at_call 71; (with_reducible refine (HN.out _).mono ?_); rintro e w1 ⟨rfl, ⟨nd1, rfl⟩⟩) | (go_at_call 72; (with_reducible refine (HX.out _).mono ?_); rintro e w1 ⟨rfl, ⟨nd2, rfl⟩⟩) | (go_at_call 72; (with_reducible refine (HY.out _).mono ?_); rintro e w1 ⟨rfl, ⟨nd3, rfl⟩⟩))
          go_ret2
          exact ⟨rfl, by repeat (first | exact Below.refl _ _ | apply pw_below_drewN)⟩
        | true =>
          obtain ⟨bx, byy⟩ := box_of (show box60 x y = true by unfold box60; rw [hbx, hby]; rfl)
          rw [hbx] at HX
          rw [hby] at HY
          have HT := Aside0.mk (at_quiet bx byy)
          have hplt := atN_lt bx byy
          obtain ⟨p, hp⟩ : ∃ p, p = atN x y := ⟨_, rfl⟩
          rw [← hp] at HT hplt
          have hpi : (p : Int) < 14641 := by omega
          replace hp := Aside0.mk hp
          replace bx := Aside0.mk bx
          replace byy := Aside0.mk byy
          clear h60 hbx hby
          go_enter Try.func22, Try.ntmps22
          go_wp2_with (first | (go_at_call 65; (with_reducible refine (HA.out _).mono ?_); rintro e w1 ⟨rfl, ⟨nd, rfl⟩⟩) | (go_at_call 71; (with_reducible refine (HN.out _).mono ?_); rintro e w1 ⟨rfl, ⟨nd1, rfl⟩⟩) | (go_at_call 72; (with_reducible refine (HX.out _).mono ?_); rintro e w1 ⟨rfl, ⟨nd2, rfl⟩⟩) | (go_at_call 72; (with_reducible refine (HY.out _).mono ?_); rintro e w1 ⟨rfl, ⟨nd3, rfl⟩⟩))
          go_region_with (first | (go_at_call 66; (with_reducible refine (HG.out _).mono ?_); rintro e w1 ⟨f, gb, rb, vc, rfl, hB, hG⟩; have HB := Aside0.mk hB; obtain ⟨cg, fg⟩ := hG.out.gro_at bx.out byy.out; rw [← hp.out] at cg; have c0 := blk_cell hG.out.blk 0; simp at c0; clear hB hG fg) | (go_at_call 73; (with_reducible refine (HT.out _).mono ?_); rintro e w9 ⟨rfl, ⟨nd4, rfl⟩⟩))
          all_goals
            simp only [List.getElem_toArray, List.getElem_cons_succ, List.getElem_cons_zero, Act.put, List.setIfInBounds_toArray, List.set_cons_zero, List.set_cons_succ]
            go_wp2_with (fail)
            go_ret2
            first
              | exact ⟨rfl, by apply pw_below_drewN; exact below_then (by repeat (first | exact Below.refl _ _ | apply pw_below_drewN)) (by simp) HB.out⟩
              | exact ⟨rfl, below_then (by repeat (first | exact Below.refl _ _ | apply pw_below_drewN)) (by simp) HB.out⟩
theorem spec_IsGrown.calls (n k x y : Int) (r1 : Bool) (r2 : Bool) (w : World) (h : spec_IsGrown.f n k x y = some (r1, r2)) :
    Calls Try.prog 22 #[.int .i64 n, .int .i64 k, .int .i64 x, .int .i64 y] w fun e w' => e = .returned (.tuple #[.bool r1, .bool r2]) ∧ Below w.heap.size w w' := by
  have e := Option.some.inj h
  injection e with e1 e2
  subst e1 e2
  exact spec_IsGrown.walk n k x y w
def spec_RotorOfCell.f (n k x y : Int) : Option (Int × Bool) := some (rotorV n k x y, mayAsk n k x y)
set_option maxHeartbeats 4000000 in
set_option maxRecDepth 100000 in
theorem spec_RotorOfCell.walk (n k x y : Int) (w : World) : Calls Try.prog 24 #[.int .i64 n, .int .i64 k, .int .i64 x, .int .i64 y] w fun e w' => e = .returned (.tuple #[.int .i64 (rotorV n k x y), .bool (mayAsk n k x y)]) ∧ Below w.heap.size w w' := by
  have HA := Aside0.mk (fun W => spec_gwAsked.calls n k _ W (asked_eq n k))
  have HN := Aside0.mk (fun W => spec_gwNear.calls x y _ W (near_eq x y))
  have HX := Aside0.mk (in60 x)
  have HY := Aside0.mk (in60 y)
  cases ho : okGrid n k with
  | false =>
    have hm := (mov (n := n) (k := k) (x := x) (y := y)).1 ho
    rw [rov0 hm, hm]
    rw [ho] at HA
    clear ho hm
    go_enter Try.func24, Try.ntmps24
    go_wp2_with (first | (go_at_call 65; (with_reducible refine (HA.out _).mono ?_); rintro e w1 ⟨rfl, ⟨nd, rfl⟩⟩))
    go_ret2
    exact ⟨rfl, by repeat (first | exact Below.refl _ _ | apply pw_below_drewN)⟩
  | true =>
    cases hq : nearB x y with
    | false =>
      have hm := (mov (n := n) (k := k) (x := x) (y := y)).2.1 hq
      rw [rov0 hm, hm]
      rw [ho] at HA
      rw [hq] at HN
      clear ho hm hq
      go_enter Try.func24, Try.ntmps24
      go_wp2_with (first | (go_at_call 65; (with_reducible refine (HA.out _).mono ?_); rintro e w1 ⟨rfl, ⟨nd, rfl⟩⟩) | (go_at_call 71; (with_reducible refine (HN.out _).mono ?_); rintro e w1 ⟨rfl, ⟨nd1, rfl⟩⟩))
      go_ret2
      exact ⟨rfl, by repeat (first | exact Below.refl _ _ | apply pw_below_drewN)⟩
    | true =>
      have hm := mov.2.2 ho hq
      rw [rov1 hm, hm]
      rw [ho] at HA
      rw [hq] at HN
      have h60 := @off60 n k x y ho
      have HG := Aside0.mk (fun W => go_any ho W)
      generalize gridS n k = S at *
      clear ho hm hq
      cases hbx : inB x (-60) 60 with
      | false =>
        rw [h60 (by unfold box60; rw [hbx]; rfl)]
        rw [hbx] at HX
        clear h60 hbx HG
        go_enter Try.func24, Try.ntmps24
        go_wp2_with (first | (go_at_call 65; (with_reducible refine (HA.out _).mono ?_); rintro e w1 ⟨rfl, ⟨nd, rfl⟩⟩) | (go_at_call 71; (with_reducible refine (HN.out _).mono ?_); rintro e w1 ⟨rfl, ⟨nd1, rfl⟩⟩) | (go_at_call 72; (with_reducible refine (HX.out _).mono ?_); rintro e w1 ⟨rfl, ⟨nd2, rfl⟩⟩))
        go_ret2
        exact ⟨rfl, by repeat (first | exact Below.refl _ _ | apply pw_below_drewN)⟩
      | true =>
        cases hby : inB y (-60) 60 with
        | false =>
          rw [h60 (by unfold box60; rw [hbx, hby]; rfl)]
          rw [hbx] at HX
          rw [hby] at HY
          clear h60 hbx hby HG
          go_enter Try.func24, Try.ntmps24
          go_wp2_with (first | (go_at_call 65; (with_reducible refine (HA.out _).mono ?_); rintro e w1 ⟨rfl, ⟨nd, rfl⟩⟩) | (go_at_call 71; (with_reducible refine (HN.out _).mono ?_); rintro e w1 ⟨rfl, ⟨nd1, rfl⟩⟩) | (go_at_call 72; (with_reducible refine (HX.out _).mono ?_); rintro e w1 ⟨rfl, ⟨nd2, rfl⟩⟩) | (go_at_call 72; (with_reducible refine (HY.out _).mono ?_); rintro e w1 ⟨rfl, ⟨nd3, rfl⟩⟩))
          go_ret2
          exact ⟨rfl, by repeat (first | exact Below.refl _ _ | apply pw_below_drewN)⟩
        | true =>
          obtain ⟨bx, byy⟩ := box_of (show box60 x y = true by unfold box60; rw [hbx, hby]; rfl)
          rw [hbx] at HX
          rw [hby] at HY
          have HT := Aside0.mk (at_quiet bx byy)
          have hplt := atN_lt bx byy
          obtain ⟨p, hp⟩ : ∃ p, p = atN x y := ⟨_, rfl⟩
          rw [← hp] at HT hplt
          have hpi : (p : Int) < 14641 := by omega
          replace hp := Aside0.mk hp
          replace bx := Aside0.mk bx
          replace byy := Aside0.mk byy
          clear h60 hbx hby
          go_enter Try.func24, Try.ntmps24
          go_wp2_with (first | (go_at_call 65; (with_reducible refine (HA.out _).mono ?_); rintro e w1 ⟨rfl, ⟨nd, rfl⟩⟩) | (go_at_call 71; (with_reducible refine (HN.out _).mono ?_); rintro e w1 ⟨rfl, ⟨nd1, rfl⟩⟩) | (go_at_call 72; (with_reducible refine (HX.out _).mono ?_); rintro e w1 ⟨rfl, ⟨nd2, rfl⟩⟩) | (go_at_call 72; (with_reducible refine (HY.out _).mono ?_); rintro e w1 ⟨rfl, ⟨nd3, rfl⟩⟩))
          go_region_with (first | (go_at_call 66; (with_reducible refine (HG.out _).mono ?_); rintro e w1 ⟨f, gb, rb, vc, rfl, hB, hG⟩; have HB := Aside0.mk hB; obtain ⟨cg, fg⟩ := hG.out.rot_at bx.out byy.out; rw [← hp.out] at cg; have c0 := blk_cell hG.out.blk 1; simp at c0; clear hB hG fg) | (go_at_call 73; (with_reducible refine (HT.out _).mono ?_); rintro e w9 ⟨rfl, ⟨nd4, rfl⟩⟩))
          all_goals
            simp only [List.getElem_toArray, List.getElem_cons_succ, List.getElem_cons_zero, Act.put, List.setIfInBounds_toArray, List.set_cons_zero, List.set_cons_succ]
            go_wp2_with (fail)
            go_ret2
            first
              | exact ⟨rfl, by apply pw_below_drewN; exact below_then (by repeat (first | exact Below.refl _ _ | apply pw_below_drewN)) (by simp) HB.out⟩
              | exact ⟨rfl, below_then (by repeat (first | exact Below.refl _ _ | apply pw_below_drewN)) (by simp) HB.out⟩
theorem spec_RotorOfCell.calls (n k x y : Int) (r1 : Int) (r2 : Bool) (w : World) (h : spec_RotorOfCell.f n k x y = some (r1, r2)) :
    Calls Try.prog 24 #[.int .i64 n, .int .i64 k, .int .i64 x, .int .i64 y] w fun e w' => e = .returned (.tuple #[.int .i64 r1, .bool r2]) ∧ Below w.heap.size w w' := by
  have e := Option.some.inj h
  injection e with e1 e2
  subst e1 e2
  exact spec_RotorOfCell.walk n k x y w
def impl_IsGrown.f (n k x y : Int) : Option (Bool × Bool) := some (isGrownV n k x y, mayAsk n k x y)
set_option maxHeartbeats 4000000 in
set_option maxRecDepth 100000 in
theorem impl_IsGrown.walk (n k x y : Int) (w : World) : Calls Try.prog 23 #[.int .i64 n, .int .i64 k, .int .i64 x, .int .i64 y] w fun e w' => e = .returned (.tuple #[.bool (isGrownV n k x y), .bool (mayAsk n k x y)]) ∧ Below w.heap.size w w' := by
  have HG := Aside0.mk (fun W => grown_calls n k W)
  have HN := Aside0.mk (fun W => impl_isCell.calls x y _ W (isCell_eq x y))
  cases ho : okGrid n k with
  | false =>
    have hm := (mov (n := n) (k := k) (x := x) (y := y)).1 ho
    rw [isv0 hm, hm]
    rw [ho] at HG
    clear ho hm
    go_enter Try.func23, Try.ntmps23
    go_wp2_with (first | (go_at_call 67; (with_reducible refine (HG.out _).mono ?_); rintro e w1 (⟨_, rfl, hB⟩ | ⟨h, _⟩); rotate_left; (exact absurd h (by decide)); have HB := Aside0.mk hB; clear hB))
    go_ret2
    exact ⟨rfl, HB.out⟩
  | true =>
    cases hq : nearB x y with
    | false =>
      have hm := (mov (n := n) (k := k) (x := x) (y := y)).2.1 hq
      rw [isv0 hm, hm]
      rw [ho] at HG
      rw [hq] at HN
      clear ho hm hq
      go_enter Try.func23, Try.ntmps23
      go_wp2_with (first | (go_at_call 67; (with_reducible refine (HG.out _).mono ?_); rintro e w1 (⟨h, _⟩ | ⟨_, g, gm, N, vc, rfl, hB, hG⟩); (exact absurd h (by decide)); have HB := Aside0.mk hB; clear hB) | (go_at_call 74; (with_reducible refine (HN.out _).mono ?_); rintro e w9 ⟨rfl, ⟨nd, rfl⟩⟩))
      go_ret2
      exact ⟨rfl, by apply pw_below_drewN; exact HB.out⟩
    | true =>
      have hm := mov.2.2 ho hq
      obtain ⟨hwx, hwy⟩ := near_wf hq
      rw [isv1 hm, hm]
      rw [ho] at HG
      rw [hq] at HN
      generalize gridS n k = S at *
      clear ho hm hq
      cases hF : S.f x y with
      | none =>
        go_enter Try.func23, Try.ntmps23
        go_wp2_with (first | (go_at_call 67; (with_reducible refine (HG.out _).mono ?_); rintro e w1 (⟨h, _⟩ | ⟨_, g, gm, N, vc, rfl, hB, hG⟩); (exact absurd h (by decide)); have HB := Aside0.mk hB; clear hB) | (go_at_call 74; (with_reducible refine (HN.out _).mono ?_); rintro e w9 ⟨rfl, ⟨nd, rfl⟩⟩; have HG2 := Aside0.mk (hG.out.drewN nd); obtain ⟨c, hlook, hat⟩ := HG2.out.look hwx hwy; have g0 := blk_cell HG2.out.blk 0; simp at g0; rw [hF] at hlook; have hat := Aside0.mk hat))
        go_ret2
        exact ⟨rfl, by apply pw_below_drewN; exact HB.out⟩
      | some r =>
        go_enter Try.func23, Try.ntmps23
        go_wp2_with (first | (go_at_call 67; (with_reducible refine (HG.out _).mono ?_); rintro e w1 (⟨h, _⟩ | ⟨_, g, gm, N, vc, rfl, hB, hG⟩); (exact absurd h (by decide)); have HB := Aside0.mk hB; clear hB) | (go_at_call 74; (with_reducible refine (HN.out _).mono ?_); rintro e w9 ⟨rfl, ⟨nd, rfl⟩⟩; have HG2 := Aside0.mk (hG.out.drewN nd); obtain ⟨c, hlook, hat⟩ := HG2.out.look hwx hwy; have g0 := blk_cell HG2.out.blk 0; simp at g0; rw [hF] at hlook; have hat := Aside0.mk hat))
        go_ret2
        exact ⟨by first | rfl | (rw [hat.out r hF]; rfl), by apply pw_below_drewN; exact HB.out⟩
theorem impl_IsGrown.calls (n k x y : Int) (r1 : Bool) (r2 : Bool) (w : World) (h : impl_IsGrown.f n k x y = some (r1, r2)) :
    Calls Try.prog 23 #[.int .i64 n, .int .i64 k, .int .i64 x, .int .i64 y] w fun e w' => e = .returned (.tuple #[.bool r1, .bool r2]) ∧ Below w.heap.size w w' := by
  have e := Option.some.inj h
  injection e with e1 e2
  subst e1 e2
  exact impl_IsGrown.walk n k x y w
def impl_RotorOfCell.f (n k x y : Int) : Option (Int × Bool) := some (rotorV n k x y, mayAsk n k x y)
set_option maxHeartbeats 4000000 in
set_option maxRecDepth 100000 in
theorem impl_RotorOfCell.walk (n k x y : Int) (w : World) : Calls Try.prog 25 #[.int .i64 n, .int .i64 k, .int .i64 x, .int .i64 y] w fun e w' => e = .returned (.tuple #[.int .i64 (rotorV n k x y), .bool (mayAsk n k x y)]) ∧ Below w.heap.size w w' := by
  have HG := Aside0.mk (fun W => grown_calls n k W)
  have HN := Aside0.mk (fun W => impl_isCell.calls x y _ W (isCell_eq x y))
  cases ho : okGrid n k with
  | false =>
    have hm := (mov (n := n) (k := k) (x := x) (y := y)).1 ho
    rw [rov0 hm, hm]
    rw [ho] at HG
    clear ho hm
    go_enter Try.func25, Try.ntmps25
    go_wp2_with (first | (go_at_call 67; (with_reducible refine (HG.out _).mono ?_); rintro e w1 (⟨_, rfl, hB⟩ | ⟨h, _⟩); rotate_left; (exact absurd h (by decide)); have HB := Aside0.mk hB; clear hB))
    go_ret2
    exact ⟨rfl, HB.out⟩
  | true =>
    cases hq : nearB x y with
    | false =>
      have hm := (mov (n := n) (k := k) (x := x) (y := y)).2.1 hq
      rw [rov0 hm, hm]
      rw [ho] at HG
      rw [hq] at HN
      clear ho hm hq
      go_enter Try.func25, Try.ntmps25
      go_wp2_with (first | (go_at_call 67; (with_reducible refine (HG.out _).mono ?_); rintro e w1 (⟨h, _⟩ | ⟨_, g, gm, N, vc, rfl, hB, hG⟩); (exact absurd h (by decide)); have HB := Aside0.mk hB; clear hB) | (go_at_call 74; (with_reducible refine (HN.out _).mono ?_); rintro e w9 ⟨rfl, ⟨nd, rfl⟩⟩))
      go_ret2
      exact ⟨rfl, by apply pw_below_drewN; exact HB.out⟩
    | true =>
      have hm := mov.2.2 ho hq
      obtain ⟨hwx, hwy⟩ := near_wf hq
      rw [rov1 hm, hm]
      rw [ho] at HG
      rw [hq] at HN
      generalize gridS n k = S at *
      clear ho hm hq
      cases hF : S.f x y with
      | none =>
        go_enter Try.func25, Try.ntmps25
        go_wp2_with (first | (go_at_call 67; (with_reducible refine (HG.out _).mono ?_); rintro e w1 (⟨h, _⟩ | ⟨_, g, gm, N, vc, rfl, hB, hG⟩); (exact absurd h (by decide)); have HB := Aside0.mk hB; clear hB) | (go_at_call 74; (with_reducible refine (HN.out _).mono ?_); rintro e w9 ⟨rfl, ⟨nd, rfl⟩⟩; have HG2 := Aside0.mk (hG.out.drewN nd); obtain ⟨c, hlook, hat⟩ := HG2.out.look hwx hwy; have g0 := blk_cell HG2.out.blk 0; simp at g0; rw [hF] at hlook; have hat := Aside0.mk hat))
        go_ret2
        exact ⟨rfl, by apply pw_below_drewN; exact HB.out⟩
      | some r =>
        go_enter Try.func25, Try.ntmps25
        go_wp2_with (first | (go_at_call 67; (with_reducible refine (HG.out _).mono ?_); rintro e w1 (⟨h, _⟩ | ⟨_, g, gm, N, vc, rfl, hB, hG⟩); (exact absurd h (by decide)); have HB := Aside0.mk hB; clear hB) | (go_at_call 74; (with_reducible refine (HN.out _).mono ?_); rintro e w9 ⟨rfl, ⟨nd, rfl⟩⟩; have HG2 := Aside0.mk (hG.out.drewN nd); obtain ⟨c, hlook, hat⟩ := HG2.out.look hwx hwy; have g0 := blk_cell HG2.out.blk 0; simp at g0; rw [hF] at hlook; have hat := Aside0.mk hat))
        go_ret2
        exact ⟨by first | rfl | (rw [hat.out r hF]; rfl), by apply pw_below_drewN; exact HB.out⟩
theorem impl_RotorOfCell.calls (n k x y : Int) (r1 : Int) (r2 : Bool) (w : World) (h : impl_RotorOfCell.f n k x y = some (r1, r2)) :
    Calls Try.prog 25 #[.int .i64 n, .int .i64 k, .int .i64 x, .int .i64 y] w fun e w' => e = .returned (.tuple #[.int .i64 r1, .bool r2]) ∧ Below w.heap.size w w' := by
  have e := Option.some.inj h
  injection e with e1 e2
  subst e1 e2
  exact impl_RotorOfCell.walk n k x y w
end Go.Proofs.Ytjedhjeijpbobaa.G8

/-! ## Fe -/
namespace Go.Proofs.Ytjedhjeijpbobaa.G8
open Go.RowKit Go.Maps Go.Proofs.YtjedhjeijpbobaaW.PrintWords Go.Proofs.YtjedhjeijpbobaaW.PrintLast Go.Proofs.YtjedhjeijpbobaaW.PrintMore
open Go.Proofs.Ytjedhjeijpbobaa.GA
set_option linter.unusedVariables false
set_option linter.unusedSimpArgs false
def toS (c : Int × Int) : S76 := ⟨c.1, c.2⟩
theorem reps_flat (w : World) : ∀ cs : List (Int × Int), Reps (fun p c => k76.K w p c) 2 (cs.map toS) (flat cs)
  | [] => Reps.none _ _
  | c :: cs => by
    have h := Kd.reps_append (ps := [toS c]) (cs := [.int .i64 c.1, .int .i64 c.2]) (R := fun p c => k76.K w p c) (size := 2) ⟨rfl, fun j p hj => by
      match j, hj with
      | 0, hj => simp at hj; subst hj; exact k76_mk w _
      | j + 1, hj => simp at hj⟩ (reps_flat w cs)
    exact h
theorem GroAt.reads {w : World} {base g gm N : Nat} {vc : Value} {F : Fld} {cs : List (Int × Int)} {s : Int} (h : GroAt w base g gm N vc F cs s) : ∃ A c, vc = .slice A cs.length c ∧ cs.length ≤ c ∧ Kd.C k76 w A cs.length (cs.map toS) := by
  obtain ⟨A, c, he, hr⟩ := own_reads_row h.cells (reps_flat w cs) (by simp)
  refine ⟨A, c, he, ?_, hr⟩
  rcases h.cells.2 with ⟨h1, h2⟩ | ⟨g, cap, cur, h1, _, _, h3, _⟩
  · rw [h1] at he
    injection he with _ e2 e3
    omega
  · rw [h1] at he
    injection he with _ e2 e3
    omega
def sq (c : Int × Int) : Int := c.1 * c.1 + c.2 * c.2
def sqF (m : Int) (cs : List (Int × Int)) : Int := cs.foldl (fun m c => if m > sq c then m else sq c) m
theorem sq_box {c : Int × Int} (h : -15 ≤ c.1 ∧ c.1 ≤ 15 ∧ -15 ≤ c.2 ∧ c.2 ≤ 15) : wrap64 (c.1 * c.1) = c.1 * c.1 ∧ wrap64 (c.2 * c.2) = c.2 * c.2 ∧ wrap64 (c.1 * c.1 + c.2 * c.2) = sq c ∧ 0 ≤ sq c ∧ sq c ≤ 200000 := by
  have h1 := sq_bd c.1 (by omega) (by omega)
  have h2 := sq_bd c.2 (by omega) (by omega)
  unfold sq
  generalize c.1 * c.1 = a at *
  generalize c.2 * c.2 = b at *
  exact ⟨wrap_id (by omega) (by omega), wrap_id (by omega) (by omega), wrap_id (by omega) (by omega), by omega, by omega⟩
theorem greatest_l0 (cs : List (Int × Int)) (hl : cs.length ≤ 1000) (hb : ∀ c ∈ cs, -15 ≤ c.1 ∧ c.1 ≤ 15 ∧ -15 ≤ c.2 ∧ c.2 ≤ 15) : ∀ (m i : Nat) (a : Int), i + m = cs.length → impl_greatest.l0 (m + 1) a (cs.map toS) (cs.length : Int) (i : Int) = some (sqF a (cs.drop i)) := by
  intro m
  induction m with
  | zero =>
    intro i a h
    simp only [impl_greatest.l0]
    rw [if_neg (by omega), List.drop_eq_nil_of_le (by omega)]
    rfl
  | succ m ih =>
    intro i a h
    unfold impl_greatest.l0
    have hi : i < cs.length := by omega
    rw [if_pos (by omega), if_pos (by omega), if_pos (by rw [List.length_map]; omega)]
    have e : rd_T76 (cs.map toS) (i : Int) = toS cs[i] := by
      unfold rd_T76
      rw [Int.toNat_natCast, List.getD_eq_getElem?_getD, List.getElem?_map, List.getElem?_eq_getElem hi]
      rfl
    obtain ⟨h1, h2, h3, h4, h5⟩ := sq_box (hb _ (List.getElem_mem hi))
    have e2 : impl_cell_square.f (toS cs[i]).f0 (toS cs[i]).f1 = some (sq cs[i]) := by
      unfold impl_cell_square.f toS
      simp only
      rw [h1, h2, h3]
    rw [e, e2, Option.bind_some, wrap_id (x := (i : Int) + 1) (by omega) (by omega)]
    have := ih (i + 1) (mx a (sq cs[i])) (by omega)
    rw [show ((i + 1 : Nat) : Int) = (i : Int) + 1 by omega] at this
    rw [this, List.drop_eq_getElem_cons hi]
    have e3 : mx a (sq cs[i]) = if a > sq cs[i] then a else sq cs[i] := by
      unfold mx
      by_cases q : a < sq cs[i]
      · rw [if_pos q, if_neg (by omega)]
      · by_cases q2 : a > sq cs[i]
        · rw [if_neg q, if_pos q2]
        · rw [if_neg q, if_neg q2]; omega
    rw [e3]
    rfl
theorem greatest_any {cs : List (Int × Int)} (hl : cs.length ≤ 1000) (hb : ∀ c ∈ cs, -15 ≤ c.1 ∧ c.1 ≤ 15 ∧ -15 ≤ c.2 ∧ c.2 ≤ 15) (W : World) (A : Option Addr) (n c : Nat) (hn : n = cs.length) (hc : n ≤ c) (h : Kd.C k76 W A n (cs.map toS)) : Calls Try.prog 76 #[.slice A n c] W fun e w' => e = .returned (.int .i64 (sqF 0 cs)) ∧ Below W.heap.size W w' := by
  have e : n = (cs.map toS).length := by rw [List.length_map]; exact hn
  subst e
  refine impl_greatest.calls (cs.length + 1) A c (cs.map toS) _ W h hc ?_
  unfold impl_greatest.f
  rw [List.length_map]
  exact greatest_l0 cs hl hb cs.length 0 0 (by omega)
theorem most_quiet (a : Int) (c : Int × Int) (h : -15 ≤ c.1 ∧ c.1 ≤ 15 ∧ -15 ≤ c.2 ∧ c.2 ≤ 15) (W : World) : Calls Try.prog 75 #[.int .i64 a, .int .i64 (IntKind.i64.wrap (IntKind.i64.wrap (c.1 * c.1) + IntKind.i64.wrap (c.2 * c.2)))] W fun e w' => e = .returned (.int .i64 (if a > sq c then a else sq c)) ∧ ∃ m, w' = W.drewN m := by
  obtain ⟨s1, s2, s3, _, _⟩ := sq_box h
  rw [i64_w, i64_w, i64_w, s1, s2, s3]
  exact (spec_l1Most.calls a (sq c) _ W (most_eq a (sq c))).mono fun e w' h => ⟨h.1, h.2.out⟩
def outerV (n k : Int) : Int := if okGrid n k = true ∧ n ≠ 0 then sqF 0 (gridS n k).cells else 0
def okOuter (n k : Int) : Bool := okGrid n k && !decide (n = 0)
theorem GwAt.form {w : World} {base f gb rb : Nat} {vc : Value} {F : Fld} {k0 : Int} {cs : List (Int × Int)} {s : Int} (h : GwAt w base f gb rb vc F k0 cs s) (hp : 0 < cs.length) :
    ∃ g cap, vc = .slice (some ⟨g, 0, none⟩) cs.length cap ∧ ∀ (i : Nat) (c : Int × Int), cs[i]? = some c → ∃ b, w.cell? ⟨g, i, none⟩ = some (.slice (some ⟨b, 0, none⟩) 2 2) ∧ base ≤ b ∧ w.heap[b]? = some (.cells #[.int .i64 c.1, .int .i64 c.2] 3 (0, 0)) := by
  obtain ⟨L, hL, hE⟩ := h.cells
  rcases hL.2 with ⟨_, h2⟩ | ⟨g, cap, cur, h1, _, hh, h3, _, h5, h6⟩
  · omega
  · refine ⟨g, cap, h1, fun i c hc => ?_⟩
    obtain ⟨b, q1, q2, q3⟩ := hE i c hc
    refine ⟨b, (blk_cell hh i).trans ?_, q2, q3⟩
    rw [← h6, List.getElem?_take] at q1
    split at q1
    · simpa using q1
    · cases q1
theorem pairR {w : World} {base b : Nat} {x y : Int} (hb : base ≤ b) (h : w.heap[b]? = some (.cells #[.int .i64 x, .int .i64 y] 3 (0, 0))) : Kd.R (Kd.int .i64) 3 w base (fun _ => True) (.slice (some ⟨b, 0, none⟩) 2 2) [x, y] :=
  Kd.R_of_own ⟨rfl, .inr ⟨b, 2, _, rfl, hb, h, Nat.le_refl _, by unfold maxLen; simp, rfl, rfl⟩⟩ (fun _ _ => trivial)
def spec_OuterSquare.f (n k : Int) : Option (Int × Bool) := some (outerV n k, okOuter n k)
def impl_OuterSquare.f (n k : Int) : Option (Int × Bool) := some (outerV n k, okOuter n k)
theorem out0 {n k : Int} (h : okGrid n k = false) : outerV n k = 0 ∧ okOuter n k = false := by unfold outerV okOuter; rw [h]; simp
theorem out1 {n k : Int} (h : n = 0) : outerV n k = 0 ∧ okOuter n k = false := by unfold outerV okOuter; simp [h]
theorem out2 {n k : Int} (h : okGrid n k = true) (h0 : n ≠ 0) : outerV n k = sqF 0 (gridS n k).cells ∧ okOuter n k = true := by unfold outerV okOuter; rw [h]; simp [h0]
theorem ok_len {n k : Int} (h : okGrid n k = true) (h0 : n ≠ 0) : 0 < (gridS n k).cells.length ∧ (gridS n k).cells.length ≤ 250 ∧ ((gridS n k).cells.length : Int) = n := by
  obtain ⟨m, rfl, hm, _⟩ := grid_is h
  have h2 := (grid_kept h).2.1
  rw [Int.toNat_natCast] at h2
  omega
set_option maxHeartbeats 4000000 in
set_option maxRecDepth 100000 in
theorem spec_OuterSquare.walk (n k : Int) (w : World) : Calls Try.prog 26 #[.int .i64 n, .int .i64 k] w fun e w' => e = .returned (.tuple #[.int .i64 (outerV n k), .bool (okOuter n k)]) ∧ Below w.heap.size w w' := by
  have HA := Aside0.mk (fun W => spec_gwAsked.calls n k _ W (asked_eq n k))
  cases ho : okGrid n k with
  | false =>
    rw [(out0 ho).1, (out0 ho).2]
    rw [ho] at HA
    clear ho
    go_enter Try.func26, Try.ntmps26
    go_wp2_with (first | (go_at_call 65; (with_reducible refine (HA.out _).mono ?_); rintro e w1 ⟨rfl, ⟨nd, rfl⟩⟩))
    go_ret2
    exact ⟨rfl, by repeat (first | exact Below.refl _ _ | apply pw_below_drewN)⟩
  | true =>
    by_cases h0 : n = 0
    · rw [(out1 (k := k) h0).1, (out1 (k := k) h0).2]
      rw [ho] at HA
      clear ho
      subst h0
      go_enter Try.func26, Try.ntmps26
      go_wp2_with (first | (go_at_call 65; (with_reducible refine (HA.out _).mono ?_); rintro e w1 ⟨rfl, ⟨nd, rfl⟩⟩))
      go_ret2
      exact ⟨rfl, by repeat (first | exact Below.refl _ _ | apply pw_below_drewN)⟩
    · rw [(out2 ho h0).1, (out2 ho h0).2]
      have HG := Aside0.mk (fun W => go_any ho W)
      have hb := Aside0.mk (grid_kept ho).1.box
      obtain ⟨l1, l2, l3⟩ := ok_len ho h0
      clear l3
      rw [ho] at HA
      clear ho
      generalize gridS n k = S at *
      go_enter Try.func26, Try.ntmps26
      go_wp2_with (first | (go_at_call 65; (with_reducible refine (HA.out _).mono ?_); rintro e w1 ⟨rfl, ⟨nd, rfl⟩⟩) | (go_at_call 66; (with_reducible refine (HG.out _).mono ?_); rintro e w1 ⟨f, gb, rb, vc, rfl, hB, hG⟩; have HB := Aside0.mk hB; obtain ⟨g, cap, rfl, hE⟩ := hG.out.form l1; have c2 := blk_cell hG.out.blk 2; simp at c2; have HE := Aside0.mk hE; clear hB hG hE))
      go_loopg [6, 24] S.cells.length (fun m v6 v24 wr => ∃ (i : Nat) (a : Int), v6 = .int .i64 a ∧ v24 = .int .i64 (i : Int) ∧ Aside0 (i + m = S.cells.length) ∧ Aside0 (sqF a (S.cells.drop i) = sqF 0 S.cells) ∧ Aside0 (∃ nn, wr = w1.drewN nn))
      case atStart => exact ⟨0, 0, rfl, rfl, ⟨by omega⟩, ⟨rfl⟩, ⟨0, rfl⟩⟩
      case round =>
        obtain ⟨i, a, rfl, rfl, HI, HF, HW⟩ := hrel
        have hce : ∀ p, wr.cell? p = w1.cell? p := fun p => by obtain ⟨nn, e⟩ := HW.out; rw [e]; simp
        have hbe : ∀ W, Below w.heap.size W w1 → Below w.heap.size W wr := fun W h => by obtain ⟨nn, e⟩ := HW.out; rw [e]; exact pw_below_drewN h nn
        cases gk with
        | zero =>
          have hi : ¬ ((i : Int) < (S.cells.length : Int)) := by have := HI.out; omega
          have ht : a = sqF 0 S.cells := by
            have := HF.out
            rw [List.drop_eq_nil_of_le (by have := HI.out; omega)] at this
            exact this
          replace ht := Aside0.mk ht
          replace hbe := Aside0.mk hbe
          clear HF HI hce
          go_wp2_with (fail)
          go_ret2
          exact ⟨by first | rfl | (rw [ht.out]; rfl), hbe.out _ (below_then (by repeat (first | exact Below.refl _ _ | apply pw_below_drewN)) (by simp) HB.out)⟩
        | succ m =>
          have hin : i < S.cells.length := by have := HI.out; omega
          have hi : (i : Int) < (S.cells.length : Int) := by omega
          obtain ⟨c, hc⟩ : ∃ c, c = S.cells[i] := ⟨_, rfl⟩
          have hcm : c ∈ S.cells := by rw [hc]; exact List.getElem_mem hin
          obtain ⟨b, q1, q2, q3⟩ := HE.out i c (by rw [hc]; exact List.getElem?_eq_getElem hin)
          have q4 := blk_cell q3 0
          have q5 := blk_cell q3 1
          simp at q4 q5
          rw [← hce] at q1 q4 q5
          clear hce hbe
          obtain ⟨s1, s2, s3, s4, s5⟩ := sq_box (hb.out c hcm)
          have HM := Aside0.mk (most_quiet a c (hb.out c hcm))
          have hnx : sqF (if a > sq c then a else sq c) (S.cells.drop (i + 1)) = sqF 0 S.cells := by
            have := HF.out
            rw [List.drop_eq_getElem_cons hin, ← hc] at this
            exact this
          generalize (if a > sq c then a else sq c) = t at HM hnx
          have HX := Aside0.mk hnx
          have hw := wrap_id (x := (i : Int) + 1) (by omega) (by omega)
          clear HF hnx hcm hc q2 q3 s1 s2 s3 s4 s5
          go_upto_region 7 with (fail)
          go_quiet ((go_at_call 75; exact Calls.quiet_of (HM.out _)))
          go_wp2_with (fail)
          go_roundg m
          case measure => omega
          case rel => exact ⟨i + 1, _, by first | rfl | trivial, by first | rfl | go_num, ⟨by have := HI.out; omega⟩, HX, ⟨by obtain ⟨nn, e⟩ := HW.out; exact ⟨nn + nq, by rw [e, World.drewN_drewN]⟩⟩⟩
theorem spec_OuterSquare.calls (n k : Int) (r1 : Int) (r2 : Bool) (w : World) (h : spec_OuterSquare.f n k = some (r1, r2)) :
    Calls Try.prog 26 #[.int .i64 n, .int .i64 k] w fun e w' => e = .returned (.tuple #[.int .i64 r1, .bool r2]) ∧ Below w.heap.size w w' := by
  have e := Option.some.inj h
  injection e with e1 e2
  subst e1 e2
  exact spec_OuterSquare.walk n k w
end Go.Proofs.Ytjedhjeijpbobaa.G8

/-! ## Ff -/
namespace Go.Proofs.Ytjedhjeijpbobaa.G8
open Go.RowKit Go.Maps Go.Proofs.YtjedhjeijpbobaaW.PrintWords Go.Proofs.YtjedhjeijpbobaaW.PrintLast Go.Proofs.YtjedhjeijpbobaaW.PrintMore
open Go.Proofs.Ytjedhjeijpbobaa.GA
set_option linter.unusedVariables false
set_option linter.unusedSimpArgs false
set_option maxHeartbeats 4000000 in
set_option maxRecDepth 100000 in
theorem impl_OuterSquare.walk (n k : Int) (w : World) : Calls Try.prog 27 #[.int .i64 n, .int .i64 k] w fun e w' => e = .returned (.tuple #[.int .i64 (outerV n k), .bool (okOuter n k)]) ∧ Below w.heap.size w w' := by
  have HG := Aside0.mk (fun W => grown_calls n k W)
  cases ho : okGrid n k with
  | false =>
    rw [(out0 ho).1, (out0 ho).2]
    rw [ho] at HG
    clear ho
    go_enter Try.func27, Try.ntmps27
    go_wp2_with (first | (go_at_call 67; (with_reducible refine (HG.out _).mono ?_); rintro e w1 (⟨_, rfl, hB⟩ | ⟨h, _⟩); rotate_left; (exact absurd h (by decide)); have HB := Aside0.mk hB; clear hB))
    go_ret2
    exact ⟨rfl, HB.out⟩
  | true =>
    rw [ho] at HG
    by_cases h0 : n = 0
    · rw [(out1 (k := k) h0).1, (out1 (k := k) h0).2]
      clear ho
      subst h0
      generalize gridS 0 k = S at *
      go_enter Try.func27, Try.ntmps27
      go_wp2_with (first | (go_at_call 67; (with_reducible refine (HG.out _).mono ?_); rintro e w1 (⟨h, _⟩ | ⟨_, g, gm, N, vc, rfl, hB, hG⟩); (exact absurd h (by decide)); have HB := Aside0.mk hB; clear hB))
      go_ret2
      exact ⟨rfl, HB.out⟩
    · rw [(out2 ho h0).1, (out2 ho h0).2]
      have hb := Aside0.mk (grid_kept ho).1.box
      obtain ⟨l1, l2, l3⟩ := ok_len ho h0
      clear l3 ho
      generalize gridS n k = S at *
      have l4 := Aside0.mk (show S.cells.length ≤ 1000 by omega)
      go_enter Try.func27, Try.ntmps27
      go_wp2_with (first | (go_at_call 67; (with_reducible refine (HG.out _).mono ?_); rintro e w1 (⟨h, _⟩ | ⟨_, g, gm, N, vc, rfl, hB, hG⟩); (exact absurd h (by decide)); have HB := Aside0.mk hB; clear hB; obtain ⟨A, c, rfl, hc, hC⟩ := hG.out.reads; have HC := Aside0.mk (And.intro hc hC); have c1 := blk_cell hG.out.blk 1; simp at c1; clear hc hC) | (go_at_call 76; refine (greatest_any l4.out hb.out _ A _ c rfl HC.out.1 HC.out.2).mono ?_; rintro e w2 ⟨rfl, hB2⟩; have HB2 := Aside0.mk hB2; clear hB2))
      go_ret2
      exact ⟨rfl, HB.out.trans (HB2.out.mono HB.out.size)⟩
theorem impl_OuterSquare.calls (n k : Int) (r1 : Int) (r2 : Bool) (w : World) (h : impl_OuterSquare.f n k = some (r1, r2)) :
    Calls Try.prog 27 #[.int .i64 n, .int .i64 k] w fun e w' => e = .returned (.tuple #[.int .i64 r1, .bool r2]) ∧ Below w.heap.size w w' := by
  have e := Option.some.inj h
  injection e with e1 e2
  subst e1 e2
  exact impl_OuterSquare.walk n k w
/-! ### A chip's cell -/
def cellAt (n k : Int) : Int × Int := (gridS n k).cells.getD (n.toNat - 1) (0, 0)
def chipV (n k : Int) : List Int := if okOuter n k = true then [(cellAt n k).1, (cellAt n k).2] else []
def spec_CellOfChip.f (n k : Int) : Option (List Int × Bool) := some (chipV n k, okOuter n k)
def impl_CellOfChip.f (n k : Int) : Option (List Int × Bool) := some (chipV n k, okOuter n k)
theorem chip0 {n k : Int} (h : okOuter n k = false) : chipV n k = [] := by unfold chipV; rw [h]; rfl
theorem chip_at {n k : Int} (h : okGrid n k = true) (h0 : n ≠ 0) : ∃ m : Nat, n = ((m + 1 : Nat) : Int) ∧ m < 250 ∧ m < (gridS n k).cells.length ∧ (gridS n k).cells[m]? = some (cellAt n k) ∧ chipV n k = [(cellAt n k).1, (cellAt n k).2] := by
  obtain ⟨l1, l2, l3⟩ := ok_len h h0
  refine ⟨(gridS n k).cells.length - 1, by omega, by omega, by omega, ?_, by unfold chipV; rw [(out2 h h0).2]; rfl⟩
  unfold cellAt
  have e : n.toNat - 1 = (gridS n k).cells.length - 1 := by omega
  rw [e, List.getD_eq_getElem?_getD, List.getElem?_eq_getElem (by omega)]
  rfl
set_option maxHeartbeats 4000000 in
set_option maxRecDepth 100000 in
theorem spec_CellOfChip.walk (n k : Int) (w : World) : Calls Try.prog 28 #[.int .i64 n, .int .i64 k] w fun e w' => ∃ v0_ : Value, e = .returned (.tuple #[v0_, .bool (okOuter n k)]) ∧ Kd.R (Kd.int .i64) 3 w' w.heap.size (fun _ => True) v0_ (chipV n k) ∧ Below w.heap.size w w' := by
  have HA := Aside0.mk (fun W => spec_gwAsked.calls n k _ W (asked_eq n k))
  cases ho : okGrid n k with
  | false =>
    rw [chip0 (out0 ho).2, (out0 ho).2]
    rw [ho] at HA
    clear ho
    go_enter Try.func28, Try.ntmps28
    go_wp2_with (first | (go_at_call 65; (with_reducible refine (HA.out _).mono ?_); rintro e w1 ⟨rfl, ⟨nd, rfl⟩⟩))
    go_ret2
    exact ⟨_, rfl, Kd.R_nil _ _ _ _ _, by repeat (first | exact Below.refl _ _ | apply pw_below_drewN)⟩
  | true =>
    by_cases h0 : n = 0
    · rw [chip0 (out1 (k := k) h0).2, (out1 (k := k) h0).2]
      rw [ho] at HA
      clear ho
      subst h0
      go_enter Try.func28, Try.ntmps28
      go_wp2_with (first | (go_at_call 65; (with_reducible refine (HA.out _).mono ?_); rintro e w1 ⟨rfl, ⟨nd, rfl⟩⟩))
      go_ret2
      exact ⟨_, rfl, Kd.R_nil _ _ _ _ _, by repeat (first | exact Below.refl _ _ | apply pw_below_drewN)⟩
    · obtain ⟨m, hnm, hm2, hml, hc, he⟩ := chip_at ho h0
      rw [he, (out2 ho h0).2]
      have HG := Aside0.mk (fun W => go_any ho W)
      rw [ho] at HA
      have l1 : 0 < (gridS n k).cells.length := by omega
      clear ho he h0
      generalize gridS n k = S at *
      generalize cellAt n k = c at *
      replace hnm : n = (m : Int) + 1 := by omega
      subst hnm
      have hw := wrap_id (x := (m : Int)) (by omega) (by omega)
      have hmi : (m : Int) < (S.cells.length : Int) := by omega
      replace hc := Aside0.mk hc
      go_enter Try.func28, Try.ntmps28
      go_wp2_with (first | (go_at_call 65; (with_reducible refine (HA.out _).mono ?_); rintro e w1 ⟨rfl, ⟨nd, rfl⟩⟩) | (go_at_call 66; (with_reducible refine (HG.out _).mono ?_); rintro e w1 ⟨f, gb, rb, vc, rfl, hB, hG⟩; have HB := Aside0.mk hB; obtain ⟨g, cap, rfl, hE⟩ := hG.out.form l1; obtain ⟨b, q1, q2, q3⟩ := hE m c hc.out; have q3 := Aside0.mk (And.intro q2 q3); have c2 := blk_cell hG.out.blk 2; simp at c2; clear hB hG hE q2))
      go_ret2
      exact ⟨_, rfl, pairR q3.out.1 q3.out.2, below_then (by repeat (first | exact Below.refl _ _ | apply pw_below_drewN)) (by simp) HB.out⟩
theorem spec_CellOfChip.calls (n k : Int) (r1 : List Int) (r2 : Bool) (w : World) (h : spec_CellOfChip.f n k = some (r1, r2)) :
    Calls Try.prog 28 #[.int .i64 n, .int .i64 k] w fun e w' => ∃ v0_ : Value, e = .returned (.tuple #[v0_, .bool r2]) ∧ Kd.R (Kd.int .i64) 3 w' w.heap.size (fun _ => True) v0_ r1 ∧ Below w.heap.size w w' := by
  have e := Option.some.inj h
  injection e with e1 e2
  subst e1 e2
  exact spec_CellOfChip.walk n k w
theorem GroAt.form {w : World} {base g gm N : Nat} {vc : Value} {F : Fld} {cs : List (Int × Int)} {s : Int} (h : GroAt w base g gm N vc F cs s) (hp : 0 < cs.length) :
    ∃ b cap, vc = .slice (some ⟨b, 0, none⟩) cs.length cap ∧ base ≤ b ∧ ∀ (i : Nat) (c : Int × Int), cs[i]? = some c → w.cell? ⟨b, i * 2, none⟩ = some (.int .i64 c.1) ∧ w.cell? ⟨b, i * 2 + 1, none⟩ = some (.int .i64 c.2) := by
  rcases h.cells.2 with ⟨_, h2⟩ | ⟨b, cap, cur, h1, hb, hh, h3, _, h5, h6⟩
  · omega
  · refine ⟨b, cap, h1, hb, fun i c hc => ?_⟩
    have hr := (reps_flat w cs).2 i (toS c) (by rw [List.getElem?_map, hc]; rfl)
    have e := k76_open hr
    have hi : i < cs.length := (List.getElem?_eq_some_iff.1 hc).1
    have hfl : (flat cs).length = cs.length * 2 := by have := (reps_flat w cs).1; rw [List.length_map] at this; exact this
    have e0 : (flat cs)[i * 2]? = some (.int .i64 c.1) := by
      have := congrArg (fun l => l[0]?) e
      simp only [List.getElem?_take, List.getElem?_drop] at this
      simpa [toS] using this
    have e1 : (flat cs)[i * 2 + 1]? = some (.int .i64 c.2) := by
      have := congrArg (fun l => l[1]?) e
      simp only [List.getElem?_take, List.getElem?_drop] at this
      simpa [toS] using this
    rw [← h6, List.getElem?_take, if_pos (by omega)] at e0 e1
    exact ⟨(blk_cell hh _).trans (by simpa using e0), (blk_cell hh _).trans (by simpa using e1)⟩
set_option maxHeartbeats 4000000 in
set_option maxRecDepth 100000 in
theorem impl_CellOfChip.walk (n k : Int) (w : World) : Calls Try.prog 29 #[.int .i64 n, .int .i64 k] w fun e w' => ∃ v0_ : Value, e = .returned (.tuple #[v0_, .bool (okOuter n k)]) ∧ Kd.R (Kd.int .i64) 3 w' w.heap.size (fun _ => True) v0_ (chipV n k) ∧ Below w.heap.size w w' := by
  have HG := Aside0.mk (fun W => grown_calls n k W)
  have hu76 := Try.underlying76
  cases ho : okGrid n k with
  | false =>
    rw [chip0 (out0 ho).2, (out0 ho).2]
    rw [ho] at HG
    clear ho
    go_enter Try.func29, Try.ntmps29
    go_wp2_with (first | (go_at_call 67; (with_reducible refine (HG.out _).mono ?_); rintro e w1 (⟨_, rfl, hB⟩ | ⟨h, _⟩); rotate_left; (exact absurd h (by decide)); have HB := Aside0.mk hB; clear hB))
    go_ret2
    exact ⟨_, rfl, Kd.R_nil _ _ _ _ _, HB.out⟩
  | true =>
    rw [ho] at HG
    by_cases h0 : n = 0
    · rw [chip0 (out1 (k := k) h0).2, (out1 (k := k) h0).2]
      clear ho
      subst h0
      generalize gridS 0 k = S at *
      go_enter Try.func29, Try.ntmps29
      go_wp2_with (first | (go_at_call 67; (with_reducible refine (HG.out _).mono ?_); rintro e w1 (⟨h, _⟩ | ⟨_, g, gm, N, vc, rfl, hB, hG⟩); (exact absurd h (by decide)); have HB := Aside0.mk hB; clear hB))
      go_ret2
      exact ⟨_, rfl, Kd.R_nil _ _ _ _ _, HB.out⟩
    · obtain ⟨m, hnm, hm2, hml, hc, he⟩ := chip_at ho h0
      rw [he, (out2 ho h0).2]
      have l1 : 0 < (gridS n k).cells.length := by omega
      clear ho he h0
      generalize gridS n k = S at *
      generalize cellAt n k = c at *
      replace hnm : n = (m : Int) + 1 := by omega
      subst hnm
      have hw := wrap_id (x := (m : Int)) (by omega) (by omega)
      have hmi : (m : Int) < (S.cells.length : Int) := by omega
      replace hc := Aside0.mk hc
      go_enter Try.func29, Try.ntmps29
      go_wp2_with (first | (go_at_call 67; (with_reducible refine (HG.out _).mono ?_); rintro e w1 (⟨h, _⟩ | ⟨_, g, gm, N, vc, rfl, hB, hG⟩); (exact absurd h (by decide)); have HB := Aside0.mk hB; clear hB; obtain ⟨b, cap, rfl, hbb, hE⟩ := hG.out.form l1; obtain ⟨q0, q1⟩ := hE m c hc.out; have c1 := blk_cell hG.out.blk 1; simp at c1; have hGl := hG.out.lt (.inr (.inr rfl)); clear hE))
      go_ret2
      have hs := HB.out.size
      exact ⟨_, rfl, pairR (Nat.le_succ_of_le hs) (two_new1 w1 _ _), (HB.out.alloc hs _).alloc (by simp; omega) _⟩
theorem impl_CellOfChip.calls (n k : Int) (r1 : List Int) (r2 : Bool) (w : World) (h : impl_CellOfChip.f n k = some (r1, r2)) :
    Calls Try.prog 29 #[.int .i64 n, .int .i64 k] w fun e w' => ∃ v0_ : Value, e = .returned (.tuple #[v0_, .bool r2]) ∧ Kd.R (Kd.int .i64) 3 w' w.heap.size (fun _ => True) v0_ r1 ∧ Below w.heap.size w w' := by
  have e := Option.some.inj h
  injection e with e1 e2
  subst e1 e2
  exact impl_CellOfChip.walk n k w
end Go.Proofs.Ytjedhjeijpbobaa.G8
