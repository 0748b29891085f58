/-
  Growth by rotors on the line: what is grown is a stretch, and each chip's walk ends: each step raises a bounded sum by one.
-/
import Derived.Test.YtjedhjeijpbobaaPg
namespace Go.Proofs.Ytjedhjeijpbobaa.G8
set_option linter.unusedVariables false
set_option linter.unusedSimpArgs false
def psum (f : Int → Int) : Nat → Int → Int
  | 0, _ => 0
  | n + 1, lo => f lo + psum f n (lo + 1)
theorem psum_far (f g : Int → Int) : ∀ (n : Nat) (lo : Int), (∀ c, lo ≤ c → c < lo + n → f c = g c) → psum f n lo = psum g n lo
  | 0, _, _ => rfl
  | n + 1, lo, h => by
    simp only [psum]
    rw [h lo (by omega) (by omega), psum_far f g n (lo + 1) (fun c h1 h2 => h c (by omega) (by omega))]
theorem psum_upd (f g : Int → Int) (x : Int) (hg : ∀ c, c ≠ x → g c = f c) : ∀ (n : Nat) (lo : Int), lo ≤ x → x < lo + n → psum g n lo = psum f n lo + (g x - f x)
  | 0, lo, h1, h2 => by omega
  | n + 1, lo, h1, h2 => by
    simp only [psum]
    by_cases e : lo = x
    · subst e
      rw [psum_far g f n (lo + 1) (fun c h3 h4 => hg c (by omega))]
      omega
    · rw [hg lo e, psum_upd f g x hg n (lo + 1) (by omega) (by omega)]
      omega
theorem psum_bd (f : Int → Int) (B : Int) : ∀ (n : Nat) (lo : Int), (∀ c, lo ≤ c → c < lo + n → -B ≤ f c ∧ f c ≤ B) → -(n * B) ≤ psum f n lo ∧ psum f n lo ≤ n * B
  | 0, _, _ => by simp [psum]
  | n + 1, lo, h => by
    have h0 := h lo (by omega) (by omega)
    have h1 := psum_bd f B n (lo + 1) (fun c h2 h3 => h c (by omega) (by omega))
    simp only [psum]
    have e : ((n + 1 : Nat) : Int) * B = n * B + B := by rw [Int.natCast_add, Int.add_mul]; simp
    rw [e]
    omega
def wt (F : Fld) (c : Int) : Int := if F c 0 = some 0 then -c else c
theorem sq_bd (x : Int) (h0 : -301 ≤ x) (h1 : x ≤ 301) : 0 ≤ x * x ∧ x * x ≤ 90601 := by
  have h := Nat.mul_le_mul (show x.natAbs ≤ 301 by omega) (show x.natAbs ≤ 301 by omega)
  rw [← Int.natAbs_mul] at h
  have h2 : 0 ≤ x * x := by
    rcases Int.le_total 0 x with h3 | h3
    · exact Int.mul_nonneg h3 h3
    · have := Int.mul_nonneg (show 0 ≤ -x by omega) (show 0 ≤ -x by omega)
      rwa [Int.neg_mul_neg] at this
  generalize x * x = z at *
  omega
/-- What is grown is the stretch from lo to hi, and rotors are 0 or 1. -/
structure Line (F : Fld) (lo : Int) (n : Nat) : Prop where
  on : ∀ c, lo ≤ c → c < lo + n → F c 0 = some 0 ∨ F c 0 = some 1
  off : ∀ a b, ¬ (b = 0 ∧ lo ≤ a ∧ a < lo + n) → F a b = none
def pot (F : Fld) (lo : Int) (n : Nat) (x : Int) : Int := x * x + psum (wt F) n lo
theorem pot_bd {F : Fld} {lo : Int} {n : Nat} {x : Int} (hn : n ≤ 250) (h0 : -250 ≤ lo) (h1 : lo ≤ 1) (hx0 : lo - 1 ≤ x) (hx1 : x ≤ lo + n) : -62500 ≤ pot F lo n x ∧ pot F lo n x ≤ 153101 := by
  have hb := psum_bd (wt F) 250 n lo (fun c h2 h3 => by unfold wt; split <;> omega)
  have hs := sq_bd x (by omega) (by omega)
  unfold pot
  omega
theorem line_step {F : Fld} {lo x r : Int} {n : Nat} (L : Line F lo n) (h0 : lo ≤ x) (h1 : x < lo + n) (hr : F x 0 = some r) :
    Line (upd F x 0 ((r + 1) % 2)) lo n ∧ pot (upd F x 0 ((r + 1) % 2)) lo n (mv2 ((r + 1) % 2) x 0).1 = pot F lo n x + 1 ∧ (mv2 ((r + 1) % 2) x 0).2 = 0 ∧ lo - 1 ≤ (mv2 ((r + 1) % 2) x 0).1 ∧ (mv2 ((r + 1) % 2) x 0).1 ≤ lo + n := by
  have hu : ∀ c r1, c ≠ x → upd F x 0 r1 c 0 = F c 0 := fun c r1 hc => by unfold upd; rw [if_neg (fun e => hc e.1)]
  have hu0 : ∀ r1, upd F x 0 r1 x 0 = some r1 := fun r1 => by unfold upd; rw [if_pos ⟨rfl, rfl⟩]
  have hL : ∀ r1, r1 = 0 ∨ r1 = 1 → Line (upd F x 0 r1) lo n := fun r1 h => by
    refine ⟨fun c h2 h3 => ?_, fun a b hab => ?_⟩
    · by_cases e : c = x
      · subst e; rw [hu0]; rcases h with rfl | rfl <;> simp
      · rw [hu c r1 e]; exact L.on c h2 h3
    · have hne : ¬ (a = x ∧ b = 0) := fun e => hab ⟨e.2, by omega, by omega⟩
      unfold upd
      rw [if_neg hne]
      exact L.off a b hab
  have hp : ∀ r1, psum (wt (upd F x 0 r1)) n lo = psum (wt F) n lo + (wt (upd F x 0 r1) x - wt F x) := fun r1 => psum_upd _ _ x (fun c hc => by unfold wt; rw [hu c r1 hc]) n lo h0 h1
  have hsq1 : (x + 1) * (x + 1) = x * x + 2 * x + 1 := by rw [Int.add_mul, Int.mul_add]; omega
  have hsq2 : (x - 1) * (x - 1) = x * x - 2 * x + 1 := by rw [Int.sub_mul, Int.mul_sub]; omega
  rcases L.on x h0 h1 with h | h
  · rw [h] at hr
    cases hr
    have e : ((0 : Int) + 1) % 2 = 1 := by decide
    rw [e]
    have e1 : mv2 1 x 0 = (x - 1, 0) := by unfold mv2; rw [if_neg (by omega)]
    rw [e1]
    refine ⟨hL 1 (.inr rfl), ?_, rfl, by simp only; omega, by simp only; omega⟩
    unfold pot
    rw [hp, hsq2]
    have w1 : wt (upd F x 0 1) x = x := by unfold wt; rw [hu0, if_neg (by decide)]
    have w2 : wt F x = -x := by unfold wt; rw [h, if_pos rfl]
    rw [w1, w2]
    omega
  · rw [h] at hr
    cases hr
    have e : ((1 : Int) + 1) % 2 = 0 := by decide
    rw [e]
    have e1 : mv2 0 x 0 = (x + 1, 0) := by unfold mv2; rw [if_pos rfl]
    rw [e1]
    refine ⟨hL 0 (.inl rfl), ?_, rfl, by simp only; omega, by simp only; omega⟩
    unfold pot
    rw [hp, hsq1]
    have w1 : wt (upd F x 0 0) x = -x := by unfold wt; rw [hu0, if_pos rfl]
    have w2 : wt F x = x := by unfold wt; rw [h, if_neg (by decide)]
    rw [w1, w2]
    omega
theorem line_run {lo : Int} {n : Nat} (hn : n ≤ 250) (hlo : -250 ≤ lo) (hl1 : lo ≤ 1) (hhi : lo + n ≤ 251) : ∀ (k : Nat) (F : Fld) (x s : Int), Line F lo n → lo - 1 ≤ x → x ≤ lo + n → 153102 - pot F lo n x ≤ k →
    ∃ F1 x1 s1, run 2 300 mv2 (k + 1) F x 0 s = some (F1, x1, 0, s1) ∧ Line F1 lo n ∧ (x1 = lo - 1 ∨ x1 = lo + n) ∧ s ≤ s1 ∧ s1 ≤ s + k := by
  intro k
  induction k with
  | zero =>
    intro F x s L h0 h1 hk
    have := (pot_bd (F := F) hn hlo hl1 h0 h1).2
    omega
  | succ k ih =>
    intro F x s L h0 h1 hk
    by_cases hin : lo ≤ x ∧ x < lo + n
    · obtain ⟨r, hr⟩ : ∃ r, F x 0 = some r := by rcases L.on x hin.1 hin.2 with h | h <;> exact ⟨_, h⟩
      obtain ⟨L1, hp, hm, h2, h3⟩ := line_step L hin.1 hin.2 hr
      unfold run
      rw [if_pos (by omega), hr]
      simp only
      rw [hm]
      obtain ⟨F1, x1, s1, hrun, L2, hx, hs0, hs1⟩ := ih _ _ (s + 1) L1 h2 h3 (by omega)
      exact ⟨F1, x1, s1, hrun, L2, hx, by omega, by omega⟩
    · unfold run
      rw [if_pos (by omega), L.off x 0 (fun h => hin h.2)]
      exact ⟨F, x, s, rfl, L, by omega, by omega, by omega⟩
/-- A stretch that holds the middle, or nothing. -/
theorem line_chips (k0 : Int) (hk : k0 = 0 ∨ k0 = 1) : ∀ (m n : Nat) (lo : Int) (F : Fld) (cs : List (Int × Int)) (s : Int), n + m ≤ 250 → -n ≤ lo → lo ≤ 1 → 0 < lo + n → lo + n ≤ n + 1 → Line F lo n →
    ∃ S lo1, chips 2 300 mv2 215603 k0 m ⟨F, cs, s⟩ = some S ∧ Line S.f lo1 (n + m) ∧ lo1 ≤ 1 ∧ 0 < lo1 + (n + m : Nat) ∧ -(n + m : Nat) ≤ lo1 ∧ s ≤ S.steps ∧ S.steps ≤ s + 215603 * m := by
  intro m
  induction m with
  | zero =>
    intro n lo F cs s hnm h0 h1 h2 h3 L
    exact ⟨_, lo, rfl, L, h1, h2, h0, by simp, by simp⟩
  | succ m ih =>
    intro n lo F cs s hnm h0 h1 h2 h3 L
    have hp := (pot_bd (F := F) (x := 0) (show n ≤ 250 by omega) (by omega) h1 (by omega) (by omega)).1
    obtain ⟨F1, x1, s1, hrun, L1, hx, hs0, hs1⟩ := line_run (show n ≤ 250 by omega) (by omega) h1 (by omega) 215602 F 0 s L (by omega) (by omega) (by omega)
    simp only [chips]
    rw [hrun, Option.bind_some]
    simp only
    have hu : ∀ lo2 : Int, (lo2 = lo ∧ x1 = lo + n ∨ lo2 = lo - 1 ∧ x1 = lo - 1) → Line (upd F1 x1 0 k0) lo2 (n + 1) := fun lo2 hlo => by
      refine ⟨fun c h4 h5 => ?_, fun a b hab => ?_⟩
      · by_cases e : c = x1
        · subst e; unfold upd; rw [if_pos ⟨rfl, rfl⟩]; rcases hk with rfl | rfl <;> simp
        · unfold upd; rw [if_neg (fun h => e h.1)]; exact L1.on c (by omega) (by omega)
      · unfold upd
        rw [if_neg (fun h => hab ⟨h.2, by omega, by omega⟩)]
        exact L1.off a b (fun h => hab ⟨h.1, by omega, by omega⟩)
    rcases hx with hx | hx
    · obtain ⟨S, lo1, hS, L2, g1, g2, g3, g4, g5⟩ := ih (n + 1) (lo - 1) (upd F1 x1 0 k0) (cs ++ [(x1, 0)]) s1 (by omega) (by omega) (by omega) (by omega) (by omega) (hu _ (.inr ⟨rfl, hx⟩))
      have e : n + 1 + m = n + (m + 1) := by omega
      rw [e] at L2 g2 g3
      exact ⟨S, lo1, hS, L2, g1, g2, g3, by omega, by omega⟩
    · obtain ⟨S, lo1, hS, L2, g1, g2, g3, g4, g5⟩ := ih (n + 1) lo (upd F1 x1 0 k0) (cs ++ [(x1, 0)]) s1 (by omega) (by omega) (by omega) (by omega) (by omega) (hu _ (.inl ⟨rfl, hx⟩))
      have e : n + 1 + m = n + (m + 1) := by omega
      rw [e] at L2 g2 g3
      exact ⟨S, lo1, hS, L2, g1, g2, g3, by omega, by omega⟩
/-- What n chips make on the line. -/
theorem line_n (n : Nat) (k0 : Int) (hn : n ≤ 250) (hk : k0 = 0 ∨ k0 = 1) : ∃ S, chips 2 300 mv2 215603 k0 n st0 = some S := by
  obtain ⟨S, lo1, h, _⟩ := line_chips k0 hk n 0 1 (fun _ _ => none) [] 0 (by omega) (by omega) (by omega) (by omega) (by omega) ⟨fun c h0 h1 => by omega, fun a b h => rfl⟩
  exact ⟨S, h⟩
end Go.Proofs.Ytjedhjeijpbobaa.G8
