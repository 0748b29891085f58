/-
  The reference's scans of the heap, as plain numbers.
-/
import Derived.Test.YtjedhjeijpbobaaHs
namespace Go.Proofs.Ytjedhjeijpbobaa.G8
set_option linter.unusedVariables false
set_option linter.unusedSimpArgs false
theorem S2_nul : S2 (fun _ _ => 0) = 0 := by decide +kernel
theorem S2_bd {n : Int} {u : Odo} (h : Legal n u) (hn : n ≤ 250) : 0 ≤ S2 u ∧ S2 u ≤ 1209 := by
  constructor
  · rw [← S2_nul]; exact S2_le h.pos
  · rw [← S2_v]; exact S2_le (h.le hn)
theorem hp_out {n : Int} {u : Odo} (h : Legal n u) (hn : n ≤ 250) {a b : Int} (hab : ¬ (-6 ≤ a ∧ a ≤ 6 ∧ -6 ≤ b ∧ b ≤ 6)) : hp n u a b = 0 := by
  have h0 : ∀ p q, ¬ (-5 ≤ p ∧ p ≤ 5 ∧ -5 ≤ q ∧ q ≤ 5) → u p q = 0 := fun p q k => by
    have h1 := h.le hn p q
    have h2 := h.pos p q
    rw [v250_out k] at h1
    omega
  unfold hp nb
  rw [h0 _ _ (by omega), h0 _ _ (by omega), h0 _ _ (by omega), h0 _ _ (by omega), h0 _ _ (by omega), if_neg (by omega)]
  omega
theorem quo4' {h : Int} (h4 : 4 ≤ h) : Int.tdiv h 4 = h / 4 ∧ 1 ≤ h / 4 ∧ 4 * (h / 4) ≤ h ∧ h - 4 * (h / 4) < 4 := ⟨Int.tdiv_eq_ediv_of_nonneg (by omega), by omega, by omega, by omega⟩
/-- One scan: u ahead of it, u1 now; the cells ahead of (x, y) have been looked at. -/
structure Scan (n : Int) (u u1 : Odo) (m : Bool) (x y : Int) : Prop where
  legal : Legal n u1
  nn : ∀ a b, 0 ≤ hp n u1 a b
  more : m = true → S2 u + 1 ≤ S2 u1
  same : m = false → u1 = u ∧ ∀ a b, -59 ≤ a → a ≤ 59 → -59 ≤ b → b ≤ 59 → (a < x ∨ (a = x ∧ b < y)) → hp n u a b ≤ 3
section
variable {n : Int} {u u1 : Odo} {m : Bool} {x y : Int}
theorem Scan.start (h : Legal n u) (hn : ∀ a b, 0 ≤ hp n u a b) : Scan n u u false (-59) (-59) := ⟨h, hn, fun e => (by cases e), fun _ => ⟨rfl, fun a b h1 h2 h3 h4 h5 => by omega⟩⟩
theorem Scan.row (h : Scan n u u1 m x 60) : Scan n u u1 m (x + 1) (-59) := ⟨h.legal, h.nn, h.more, fun e => ⟨(h.same e).1, fun a b h1 h2 h3 h4 h5 => (h.same e).2 a b h1 h2 h3 h4 (by omega)⟩⟩
theorem Scan.small (h : Scan n u u1 m x y) (hs : hp n u1 x y < 4) : Scan n u u1 m x (y + 1) := by
  refine ⟨h.legal, h.nn, h.more, fun e => ⟨(h.same e).1, fun a b h1 h2 h3 h4 h5 => ?_⟩⟩
  by_cases q : a < x ∨ (a = x ∧ b < y)
  · exact (h.same e).2 a b h1 h2 h3 h4 q
  · have hx : a = x := by omega
    have hy : b = y := by omega
    rw [hx, hy, ← (h.same e).1]
    omega
theorem Scan.topple (h : Scan n u u1 m x y) (hn : n ≤ 250) {t : Int} (ht : 1 ≤ t) (h4 : 4 * t ≤ hp n u1 x y) : Scan n u (bump u1 x y t) true x (y + 1) := by
  obtain ⟨h1, h2, h3, h5⟩ := h.legal.topple hn ht h4
  refine ⟨h2, fun a b => ?_, fun _ => ?_, fun e => by cases e⟩
  · have := h.nn a b
    rw [hp_bump]
    split
    · rename_i e
      rw [e.1, e.2] at *
      omega
    · split <;> omega
  · rw [h3]
    cases m with
    | true => have := h.more rfl; omega
    | false => rw [(h.same rfl).1]; omega
theorem Scan.finish (h : Scan n u u1 m 60 (-59)) (hn : n ≤ 250) (hm : m = false) : ∀ a b, hp n u1 a b ≤ 3 := fun a b => by
  by_cases q : -59 ≤ a ∧ a ≤ 59 ∧ -59 ≤ b ∧ b ≤ 59
  · rw [(h.same hm).1]
    exact (h.same hm).2 a b q.1 q.2.1 q.2.2.1 q.2.2.2 (by omega)
  · rw [hp_out h.legal hn (by omega)]; omega
end
theorem heap_bd (M : Fld) (x y t : Int) (ht : 0 ≤ t) (a b : Int) : ∀ j, -(4 * t) ≤ (heapM M x y t j a b).getD 0 - (M a b).getD 0 ∧ (heapM M x y t j a b).getD 0 - (M a b).getD 0 ≤ j * t
  | 0 => by
    simp only [heapM]
    rw [upd_get]
    by_cases e : a = x ∧ b = y
    · rw [if_pos e, e.1, e.2]; simp; omega
    · rw [if_neg e]; simp; omega
  | j + 1 => by
    obtain ⟨h1, h2⟩ := heap_bd M x y t ht a b j
    simp only [heapM]
    rw [addC_get]
    have e : ((j + 1 : Nat) : Int) * t = j * t + t := by rw [Int.natCast_add, Int.add_mul]; simp
    rw [e]
    split <;> omega
theorem heap_bd4 {n : Int} {u1 : Odo} (hl : Legal n u1) (hn : n ≤ 250) (hn0 : 0 ≤ n) (nn : ∀ a b, 0 ≤ hp n u1 a b) {M : Fld} (hM : M = fun a b => some (hp n u1 a b)) (x y t : Int) (ht : 0 ≤ t) (ht2 : t ≤ 1250) (a b : Int) {j : Nat} (hj : j ≤ 4) :
    -5000 ≤ (heapM M x y t j a b).getD 0 ∧ (heapM M x y t j a b).getD 0 ≤ 10000 := by
  obtain ⟨h1, h2⟩ := heap_bd M x y t ht a b j
  have h3 := Int.mul_le_mul_of_nonneg_right (show (j : Int) ≤ 4 by omega) ht
  have h4 := nn a b
  have h5 := hp_le hl hn hn0 a b
  subst hM
  simp only [Option.getD_some] at h1 h2
  omega
end Go.Proofs.Ytjedhjeijpbobaa.G8
