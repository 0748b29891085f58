/-
  The reference's line: the same runs, on a row of rotors.
-/
import Derived.Test.YtjedhjeijpbobaaMe
namespace Go.Proofs.Ytjedhjeijpbobaa.G8
open Go.RowKit Go.Proofs.YtjedhjeijpbobaaW.PrintWords Go.Proofs.YtjedhjeijpbobaaW.PrintLast Go.Proofs.YtjedhjeijpbobaaW.PrintMore
open Go.Proofs.Ytjedhjeijpbobaa.GA
set_option linter.unusedVariables false
set_option linter.unusedSimpArgs false
theorem spec_in_eq (a lo hi : Int) : spec_l1In.f a lo hi = some (inB a lo hi) := by
  unfold spec_l1In.f inB
  by_cases h1 : lo ≤ a
  · simp [h1]
  · simp [h1]
theorem least_eq (a b : Int) : spec_l1Least.f a b = some (if a < b then a else b) := by unfold spec_l1Least.f; split <;> rfl
theorem most_eq (a b : Int) : spec_l1Most.f a b = some (if a > b then a else b) := by unfold spec_l1Most.f; split <;> rfl
theorem rd_set (R : List Int) (i j v : Int) (hi : 0 ≤ i) (hil : i < R.length) (hj : 0 ≤ j) : rd (R.set i.toNat v) j = if j = i then v else rd R j := by
  unfold rd
  rw [List.getD_eq_getElem?_getD, List.getD_eq_getElem?_getD, List.getElem?_set]
  by_cases e : j = i
  · subst e
    rw [if_pos rfl, if_pos rfl, if_pos (by omega)]
    rfl
  · rw [if_neg (by omega), if_neg e]
structure RowIs (R : List Int) (F : Fld) (k0 : Int) : Prop where
  len : R.length = 1201
  is : ∀ c : Int, -600 ≤ c → c ≤ 600 → rd R (c + 600) = (F c 0).getD k0
theorem RowIs.upd {R : List Int} {F : Fld} {k0 x r : Int} (h : RowIs R F k0) (hx0 : -600 ≤ x) (hx1 : x ≤ 600) : RowIs (R.set (x + 600).toNat r) (upd F x 0 r) k0 := by
  refine ⟨by rw [List.length_set]; exact h.len, fun c h0 h1 => ?_⟩
  rw [rd_set _ _ _ _ (by omega) (by rw [h.len]; omega) (by omega)]
  unfold G8.upd
  by_cases e : c = x
  · rw [if_pos (by omega), if_pos ⟨e, rfl⟩]; rfl
  · rw [if_neg (by omega), if_neg (fun e1 => e e1.1)]; exact h.is c h0 h1
theorem RowIs.grow {R : List Int} {F : Fld} {k0 x : Int} (h : RowIs R F k0) (hF : F x 0 = none) (hx0 : -600 ≤ x) (hx1 : x ≤ 600) : RowIs R (G8.upd F x 0 k0) k0 := by
  refine ⟨h.len, fun c h0 h1 => ?_⟩
  rw [h.is c h0 h1]
  unfold G8.upd
  by_cases e : c = x
  · subst e; rw [hF, if_pos ⟨rfl, rfl⟩]; rfl
  · rw [if_neg (fun e1 => e e1.1)]
theorem l1_more {k : Nat} {a : Int} {R : List Int} {lo hi s : Int} {r : Int × Int × Int} (h : spec_gwLine.l1 k a R lo hi s = some r) : ∀ m, spec_gwLine.l1 (k + m) a R lo hi s = some r
  | 0 => h
  | m + 1 => (spec_gwLine.mono_l (k + m)).2.1 a R lo hi s r (l1_more h m)
theorem line_l2 (k0 : Int) {lo : Int} {n : Nat} (hn : n ≤ 250) (hlo : -250 ≤ lo) (hl1 : lo ≤ 1) (hhi : lo + n ≤ 251) (a : Int) (ha : 1 ≤ a ∧ a ≤ 250) : ∀ (k : Nat) (F : Fld) (R : List Int) (x s : Int) (F1 : Fld) (x1 y1 s1 : Int),
    Line F lo n → RowIs R F k0 → lo - 1 ≤ x → x ≤ lo + n → 0 ≤ s → s + k ≤ 1000000000 → run 2 300 mv2 k F x 0 s = some (F1, x1, y1, s1) →
    ∃ R1, RowIs R1 F1 k0 ∧ y1 = 0 ∧ F1 x1 0 = none ∧ Line F1 lo n ∧ (x1 = lo - 1 ∨ x1 = lo + n) ∧ s ≤ s1 ∧ s1 ≤ s + k ∧
      ∀ j r, spec_gwLine.l1 j (a - 1) R1 (if lo < x1 then lo else x1) (if lo + n - 1 > x1 then lo + n - 1 else x1) s1 = some r → spec_gwLine.l2 (j + k) a R lo (lo + n - 1) s x = some r := by
  intro k
  induction k with
  | zero => intro F R x s F1 x1 y1 s1 L hR h0 h1 hs hsk h; exact absurd h (by simp [run])
  | succ k ih =>
    intro F R x s F1 x1 y1 s1 L hR h0 h1 hs hsk h
    have hw : wrap64 (x + 600) = x + 600 := wrap_id (by omega) (by omega)
    by_cases hin : lo ≤ x ∧ x < lo + n
    · obtain ⟨r, hr⟩ : ∃ r, F x 0 = some r := by rcases L.on x hin.1 hin.2 with h | h <;> exact ⟨_, h⟩
      obtain ⟨L1, hp, hm, h2, h3⟩ := line_step L hin.1 hin.2 hr
      unfold run at h
      rw [if_pos (by omega), hr] at h
      simp only at h
      rw [hm] at h
      have hR1 := hR.upd (r := (r + 1) % 2) (show -600 ≤ x by omega) (by omega)
      obtain ⟨R1, g1, g2, g3, g4, g5, g6, g7, g8⟩ := ih _ _ _ (s + 1) F1 x1 y1 s1 L1 hR1 h2 h3 (by omega) (by omega) h
      refine ⟨R1, g1, g2, g3, g4, g5, by omega, by omega, fun j q hq => ?_⟩
      have hj := g8 j q hq
      have hrd : rd R (x + 600) = r := by rw [hR.is x (by omega) (by omega), hr]; rfl
      have hs1 : wrap64 (s + 1) = s + 1 := wrap_id (by omega) (by omega)
      show spec_gwLine.l2 (j + k + 1) a R lo (lo + n - 1) s x = some q
      simp only [spec_gwLine.l2]
      rw [spec_in_eq, Option.bind_some, if_pos (by unfold inB; rw [decide_eq_true_eq]; omega), hw, if_pos (by omega), if_pos (by rw [hR.len]; omega), Option.bind_some, hrd, hs1]
      rw [rd_set _ _ _ _ (by omega) (by rw [hR.len]; omega) (by omega), if_pos rfl]
      rcases L.on x hin.1 hin.2 with e | e
      · rw [e] at hr
        cases hr
        have e1 : wrap64 (1 - 0) = 1 := wrap_id (x := 1) (by omega) (by omega)
        have e2 : ((0 : Int) + 1) % 2 = 1 := by decide
        have e3 : mv2 1 x 0 = (x - 1, 0) := by unfold mv2; rw [if_neg (by omega)]
        rw [e2, e3] at hj
        rw [e1, if_neg (by decide), wrap_id (x := x - 1) (by omega) (by omega)]
        exact hj
      · rw [e] at hr
        cases hr
        have e1 : wrap64 (1 - 1) = 0 := wrap_id (x := 0) (by omega) (by omega)
        have e2 : ((1 : Int) + 1) % 2 = 0 := by decide
        have e3 : mv2 0 x 0 = (x + 1, 0) := by unfold mv2; rw [if_pos rfl]
        rw [e2, e3] at hj
        rw [e1, if_pos rfl, wrap_id (x := x + 1) (by omega) (by omega)]
        exact hj
    · unfold run at h
      have hF := L.off x 0 (fun h => hin h.2)
      rw [if_pos (by omega), hF] at h
      simp only [Option.some.injEq, Prod.mk.injEq] at h
      obtain ⟨rfl, rfl, rfl, rfl⟩ := h
      refine ⟨R, hR, rfl, hF, L, by omega, by omega, by omega, fun j q hq => ?_⟩
      show spec_gwLine.l2 (j + k + 1) a R lo (lo + n - 1) s x = some q
      simp only [spec_gwLine.l2]
      rw [spec_in_eq, Option.bind_some, if_neg (by unfold inB; rw [decide_eq_true_eq]; omega), least_eq, Option.bind_some, most_eq, Option.bind_some, wrap_id (x := a - 1) (by omega) (by omega)]
      exact l1_more hq k
def mins (a : Int) (cs : List (Int × Int)) : Int := cs.foldl (fun a c => if a < c.1 then a else c.1) a
def maxs (a : Int) (cs : List (Int × Int)) : Int := cs.foldl (fun a c => if a > c.1 then a else c.1) a
theorem line_l1 (k0 : Int) (hk : k0 = 0 ∨ k0 = 1) : ∀ (m n : Nat) (lo : Int) (F : Fld) (R : List Int) (cs : List (Int × Int)) (s : Int) (S : St), n + m ≤ 250 → -n ≤ lo → lo ≤ 1 → 0 < lo + n → Line F lo n → RowIs R F k0 → 0 ≤ s → s + ((215603 * m : Nat) : Int) ≤ 100000000 → chips 2 300 mv2 215603 k0 m ⟨F, cs, s⟩ = some S →
    ∃ more, S.cells = cs ++ more ∧ more.length = m ∧ (∀ c ∈ more, -250 ≤ c.1 ∧ c.1 ≤ 251 ∧ c.2 = 0) ∧ ∃ j, spec_gwLine.l1 j (m : Int) R lo (lo + n - 1) s = some (mins lo more, maxs (lo + n - 1) more, S.steps) := by
  intro m
  induction m with
  | zero =>
    intro n lo F R cs s S hnm h0 h1 h2 L hR hs hsk h
    simp only [chips, Option.some.injEq] at h
    subst h
    exact ⟨[], by simp, rfl, by simp, 1, by simp [spec_gwLine.l1, mins, maxs]⟩
  | succ m ih =>
    intro n lo F R cs s S hnm h0 h1 h2 L hR hs hsk h
    simp only [chips] at h
    obtain ⟨⟨F1, x1, y1, s1⟩, hr, h⟩ := Option.bind_eq_some_iff.1 h
    obtain ⟨R1, hR1, rfl, hF1, L1, hx, hs0, hs1, hc⟩ := line_l2 k0 (show n ≤ 250 by omega) (by omega) h1 (by omega) ((m + 1 : Nat) : Int) (by omega) 215603 F R 0 s F1 x1 y1 s1 L hR (by omega) (by omega) hs (by omega) hr
    simp only at h
    have hR2 := hR1.grow hF1 (by omega) (by omega)
    have hu : ∀ lo2 : Int, (lo2 = lo ∧ x1 = lo + n ∨ lo2 = lo - 1 ∧ x1 = lo - 1) → Line (upd F1 x1 0 k0) lo2 (n + 1) := fun lo2 hlo => by
      refine ⟨fun c h4 h5 => ?_, fun a b hab => ?_⟩
      · by_cases e : c = x1
        · subst e; unfold upd; rw [if_pos ⟨rfl, rfl⟩]; rcases hk with rfl | rfl <;> simp
        · unfold upd; rw [if_neg (fun h => e h.1)]; exact L1.on c (by omega) (by omega)
      · unfold upd
        rw [if_neg (fun h => hab ⟨h.2, by omega, by omega⟩)]
        exact L1.off a b (fun h => hab ⟨h.1, by omega, by omega⟩)
    obtain ⟨lo2, hlo, e1, e2⟩ : ∃ lo2 : Int, (lo2 = lo ∧ x1 = lo + n ∨ lo2 = lo - 1 ∧ x1 = lo - 1) ∧ (if lo < x1 then lo else x1) = lo2 ∧ (if lo + n - 1 > x1 then lo + n - 1 else x1) = lo2 + ((n + 1 : Nat) : Int) - 1 := by
      rcases hx with hx | hx
      · refine ⟨lo - 1, .inr ⟨rfl, hx⟩, ?_, ?_⟩ <;> split <;> omega
      · refine ⟨lo, .inl ⟨rfl, hx⟩, ?_, ?_⟩ <;> split <;> omega
    obtain ⟨more, c1, c2, c3, j, c4⟩ := ih (n + 1) lo2 _ R1 _ s1 S (by omega) (by omega) (by omega) (by omega) (hu lo2 hlo) hR2 (by omega) (by omega) h
    have ea : ((m + 1 : Nat) : Int) - 1 = (m : Int) := by omega
    rw [e1, e2, ea] at hc
    have hj := hc j _ c4
    refine ⟨(x1, 0) :: more, by rw [c1]; simp, by simp [c2], ?_, j + 215603 + 1, ?_⟩
    · intro c hcm
      rcases List.mem_cons.1 hcm with rfl | hcm
      · exact ⟨by simp only; omega, by simp only; omega, rfl⟩
      · exact c3 c hcm
    · simp only [spec_gwLine.l1]
      rw [if_pos (by omega), hj]
      simp only [mins, maxs, List.foldl_cons]
      rw [e1, e2]
theorem line_l0 (n k0 : Int) : ∀ (m : Nat) (i : Int) (R : List Int), R.length = 1201 → 0 ≤ i → i + m = 1201 → (∀ c : Int, 0 ≤ c → c < i → rd R c = k0) →
    ∃ R1, RowIs R1 (fun _ _ => none) k0 ∧ ∀ j r, spec_gwLine.l1 j n R1 1 0 0 = some r → spec_gwLine.l0 (j + m + 1) n k0 R 1201 i = some r := by
  intro m
  induction m with
  | zero =>
    intro i R hR h0 h1 h
    refine ⟨R, ⟨hR, fun c h2 h3 => h _ (by omega) (by omega)⟩, fun j r hj => ?_⟩
    simp only [spec_gwLine.l0, Nat.add_zero]
    rw [if_neg (by omega)]
    exact hj
  | succ m ih =>
    intro i R hR h0 h1 h
    obtain ⟨R1, g1, g2⟩ := ih (i + 1) (R.set i.toNat k0) (by rw [List.length_set]; exact hR) (by omega) (by omega) (fun c h2 h3 => by
      rw [rd_set _ _ _ _ h0 (by omega) h2]
      by_cases e : c = i
      · rw [if_pos e]
      · rw [if_neg e]; exact h c h2 (by omega))
    refine ⟨R1, g1, fun j r hj => ?_⟩
    have := g2 j r hj
    show spec_gwLine.l0 (j + m + 1 + 1) n k0 R 1201 i = some r
    simp only [spec_gwLine.l0]
    rw [if_pos (by omega), if_pos h0, if_pos (by rw [hR]; omega), wrap_id (x := i + 1) (by omega) (by omega)]
    exact this
/-- What the reference's line tells: the ends of what is grown, and the steps. -/
theorem line_f {n k : Int} (h : okLine n k = true) : (lineS n k).cells.length = n.toNat ∧ (∀ c ∈ (lineS n k).cells, -250 ≤ c.1 ∧ c.1 ≤ 251 ∧ c.2 = 0) ∧ ∃ j, spec_gwLine.f j n k = some (mins 1 (lineS n k).cells, maxs 0 (lineS n k).cells, (lineS n k).steps) := by
  obtain ⟨m, rfl, hm, h0, h1, hS⟩ := line_is h
  generalize lineS (m : Int) k = S at *
  obtain ⟨R1, g1, g2⟩ := line_l0 m k 1201 0 (List.replicate 1201 0) (by rw [List.length_replicate]) (by omega) (by omega) (fun c h2 h3 => by omega)
  obtain ⟨more, c1, c2, c3, j, c4⟩ := line_l1 k (by omega) m 0 1 (fun _ _ => none) R1 [] 0 S (by omega) (by omega) (by omega) (by omega) ⟨fun c h0 h1 => by omega, fun a b h => rfl⟩ g1 (by omega) (by omega) hS
  rw [List.nil_append] at c1
  subst c1
  refine ⟨by rw [c2]; omega, c3, j + 1201 + 1, ?_⟩
  unfold spec_gwLine.f
  rw [if_pos (by decide), Option.bind_some, List.length_replicate]
  exact g2 j _ c4
end Go.Proofs.Ytjedhjeijpbobaa.G8
