/-
  Heaps on the grid, as plain numbers: what topples by the rules never exceeds what makes the heap stable; so all orders end alike.
-/
import Derived.Test.YtjedhjeijpbobaaPl
namespace Go.Proofs.Ytjedhjeijpbobaa.G8
set_option linter.unusedVariables false
set_option linter.unusedSimpArgs false
/-- How often each cell has toppled. -/
abbrev Odo := Int → Int → Int
def nb (u : Odo) (x y : Int) : Int := u (x + 1) y + u (x - 1) y + u x (y + 1) + u x (y - 1)
/-- The chips of a cell, n chips having lain on the middle. -/
def hp (n : Int) (u : Odo) (x y : Int) : Int := (if x = 0 ∧ y = 0 then n else 0) + nb u x y - 4 * u x y
def bump (u : Odo) (x y t : Int) : Odo := fun a b => if a = x ∧ b = y then u a b + t else u a b
/-- No more than whatever makes the heap stable. -/
structure Legal (n : Int) (u : Odo) : Prop where
  pos : ∀ a b, 0 ≤ u a b
  least : ∀ v : Odo, (∀ a b, 0 ≤ v a b) → (∀ a b, hp n v a b ≤ 3) → ∀ a b, u a b ≤ v a b
theorem Legal.zero (n : Int) : Legal n (fun _ _ => 0) := ⟨fun _ _ => Int.le_refl _, fun v h0 _ => h0⟩
theorem Legal.bump {n : Int} {u : Odo} (h : Legal n u) {x y t : Int} (ht : 0 ≤ t) (h4 : 4 * t ≤ hp n u x y) : Legal n (bump u x y t) := by
  refine ⟨fun a b => ?_, fun v h0 hv a b => ?_⟩
  · have := h.pos a b
    unfold G8.bump
    split <;> omega
  · have hu := h.least v h0 hv
    unfold G8.bump
    split
    · rename_i e
      obtain ⟨rfl, rfl⟩ := e
      have e0 := hv a b
      have e1 := hu (a + 1) b
      have e2 := hu (a - 1) b
      have e3 := hu a (b + 1)
      have e4 := hu a (b - 1)
      unfold hp nb at *
      omega
    · exact hu a b
/-- Two ends are one. -/
theorem Legal.unique {n : Int} {u v : Odo} (hu : Legal n u) (hv : Legal n v) (su : ∀ a b, hp n u a b ≤ 3) (sv : ∀ a b, hp n v a b ≤ 3) : u = v := by
  funext a b
  have h1 := hu.least v hv.pos sv a b
  have h2 := hv.least u hu.pos su a b
  omega
theorem hp_bump (n : Int) (u : Odo) (x y t a b : Int) : hp n (bump u x y t) a b = if a = x ∧ b = y then hp n u a b - 4 * t else if (a = x + 1 ∧ b = y) ∨ (a = x - 1 ∧ b = y) ∨ (a = x ∧ b = y + 1) ∨ (a = x ∧ b = y - 1) then hp n u a b + t else hp n u a b := by
  have e : ∀ p q, bump u x y t p q = u p q + (if p = x ∧ q = y then t else 0) := fun p q => by unfold bump; split <;> omega
  unfold hp nb
  simp only [e]
  generalize (if a = 0 ∧ b = 0 then n else 0) = z
  repeat' split
  all_goals omega
/-- What makes 250 chips stable. -/
def heapTab : List (List Nat) := [[117, 55, 28, 14, 6, 2], [55, 39, 23, 12, 5, 2], [28, 23, 15, 8, 3, 1], [14, 12, 8, 4, 1, 0], [6, 5, 3, 1, 0, 0], [2, 2, 1, 0, 0, 0]]
def v250 : Odo := fun x y => if x.natAbs ≤ 5 ∧ y.natAbs ≤ 5 then (((heapTab.getD x.natAbs []).getD y.natAbs 0 : Nat) : Int) else 0
theorem v250_pos (a b : Int) : 0 ≤ v250 a b := by unfold v250; split <;> omega
theorem v250_box {a b : Int} (h : 0 < v250 a b) : -5 ≤ a ∧ a ≤ 5 ∧ -5 ≤ b ∧ b ≤ 5 := by
  unfold v250 at h
  split at h
  · omega
  · omega
theorem v250_out {a b : Int} (h : ¬ (-5 ≤ a ∧ a ≤ 5 ∧ -5 ≤ b ∧ b ≤ 5)) : v250 a b = 0 := by unfold v250; rw [if_neg (by omega)]
theorem v250_in : (List.range 13).all (fun i => (List.range 13).all fun j => decide (hp 250 v250 ((i : Int) - 6) ((j : Int) - 6) ≤ 3)) = true := by decide +kernel
theorem v250_stable (n : Int) (hn : n ≤ 250) (a b : Int) : hp n v250 a b ≤ 3 := by
  by_cases h : -6 ≤ a ∧ a ≤ 6 ∧ -6 ≤ b ∧ b ≤ 6
  · have h1 := List.all_eq_true.1 v250_in (a + 6).toNat (by rw [List.mem_range]; omega)
    have h2 := List.all_eq_true.1 h1 (b + 6).toNat (by rw [List.mem_range]; omega)
    rw [decide_eq_true_eq] at h2
    have e1 : (((a + 6).toNat : Nat) : Int) - 6 = a := by omega
    have e2 : (((b + 6).toNat : Nat) : Int) - 6 = b := by omega
    rw [e1, e2] at h2
    unfold hp at *
    split at h2 <;> omega
  · unfold hp nb
    rw [v250_out (by omega), v250_out (by omega), v250_out (by omega), v250_out (by omega), v250_out (by omega), if_neg (by omega)]
    omega
theorem Legal.le {n : Int} {u : Odo} (h : Legal n u) (hn : n ≤ 250) (a b : Int) : u a b ≤ v250 a b := h.least v250 v250_pos (v250_stable n hn) a b
/-- How much has toppled. -/
def S2 (u : Odo) : Int := psum (fun x => psum (u x) 13 (-6)) 13 (-6)
theorem psum_le (f g : Int → Int) : ∀ (n : Nat) (lo : Int), (∀ c, f c ≤ g c) → psum f n lo ≤ psum g n lo
  | 0, _, _ => Int.le_refl _
  | n + 1, lo, h => by
    have h1 := h lo
    have h2 := psum_le f g n (lo + 1) h
    simp only [psum]
    omega
theorem S2_le {u v : Odo} (h : ∀ a b, u a b ≤ v a b) : S2 u ≤ S2 v := psum_le _ _ _ _ fun c => psum_le _ _ _ _ fun d => h c d
theorem S2_v : S2 v250 = 1209 := by decide +kernel
theorem S2_bump (u : Odo) {x y : Int} (t : Int) (hx : -6 ≤ x ∧ x ≤ 6) (hy : -6 ≤ y ∧ y ≤ 6) : S2 (bump u x y t) = S2 u + t := by
  unfold S2
  rw [psum_upd (fun a => psum (u a) 13 (-6)) (fun a => psum (bump u x y t a) 13 (-6)) x (fun c hc => ?_) 13 (-6) (by omega) (by omega)]
  · have h1 := psum_upd (u x) (bump u x y t x) y (fun d hd => by unfold bump; rw [if_neg (by omega)]) 13 (-6) (by omega) (by omega)
    have h2 : bump u x y t x y = u x y + t := by unfold bump; rw [if_pos ⟨rfl, rfl⟩]
    skip
    rw [h1, h2]
    omega
  · have e : bump u x y t c = u c := by
      funext d
      unfold bump
      rw [if_neg (fun q => hc q.1)]
    skip
    rw [e]
/-- A legal topple: it lies within five of the middle, and the sum stays below 1210. -/
theorem Legal.topple {n : Int} {u : Odo} (h : Legal n u) (hn : n ≤ 250) {x y t : Int} (ht : 1 ≤ t) (h4 : 4 * t ≤ hp n u x y) : (-5 ≤ x ∧ x ≤ 5 ∧ -5 ≤ y ∧ y ≤ 5) ∧ Legal n (G8.bump u x y t) ∧ S2 (G8.bump u x y t) = S2 u + t ∧ S2 (G8.bump u x y t) ≤ 1209 := by
  have hb := h.bump (t := t) (by omega) h4
  have hl := hb.le hn x y
  have hp0 := h.pos x y
  have e : G8.bump u x y t x y = u x y + t := by unfold G8.bump; rw [if_pos ⟨rfl, rfl⟩]
  have hbox := v250_box (a := x) (b := y) (by omega)
  refine ⟨hbox, hb, S2_bump u t (by omega) (by omega), ?_⟩
  rw [← S2_v]
  exact S2_le (hb.le hn)
/-- A cell that has had chips. -/
def key (n : Int) (u : Odo) (a b : Int) : Prop := (a = 0 ∧ b = 0 ∧ 0 < n) ∨ 0 < nb u a b
theorem nb_pos {n : Int} {u : Odo} (h : Legal n u) (a b : Int) : 0 ≤ nb u a b := by
  have h1 := h.pos (a + 1) b
  have h2 := h.pos (a - 1) b
  have h3 := h.pos a (b + 1)
  have h4 := h.pos a (b - 1)
  unfold nb
  omega
/-- Cells that have had chips are those that have some, or have toppled. -/
theorem key_iff {n : Int} {u : Odo} (h : Legal n u) (hn : 0 ≤ n) (hc : ∀ a b, 0 ≤ hp n u a b) (a b : Int) : key n u a b ↔ 0 < hp n u a b ∨ 0 < u a b := by
  have h0 := nb_pos h a b
  have h1 := hc a b
  have h2 := h.pos a b
  unfold key
  unfold hp at *
  constructor
  · intro k
    by_cases q : 0 < u a b
    · exact .inr q
    · left
      split at h1
      · rename_i e
        rw [if_pos e]
        rcases k with k | k <;> omega
      · rename_i e
        rw [if_neg e]
        rcases k with k | k
        · exact absurd ⟨k.1, k.2.1⟩ e
        · omega
  · intro k
    by_cases q : 0 < nb u a b
    · exact .inr q
    · left
      split at h1
      · rename_i e
        rw [if_pos e] at k
        exact ⟨e.1, e.2, by omega⟩
      · rename_i e
        rw [if_neg e] at k
        omega
end Go.Proofs.Ytjedhjeijpbobaa.G8
