/-
  Heaps on the grid, as plain numbers: what topples by the rules never exceeds what makes the heap stable; so all orders end alike. The program's heap, as plain maps: what one topple does to the map of chips and to the list. The reference's scans of the heap, as plain numbers. The reference's heap: the walk of gwHeap. The reference's list of heap cells, walked.
-/
import Derived.Test.YtjedhjeijpbobaaZa
import Derived.Test.YtjedhjeijpbobaaZb
/-! ## Hq -/
namespace Go.Proofs.Ytjedhjeijpbobaa.G8
set_option linter.unusedVariables false
set_option linter.unusedSimpArgs false
/-- How often each cell has toppled. -/
abbrev Odo := Int → Int → Int
def nb (u : Odo) (x y : Int) : Int := u (x + 1) y + u (x - 1) y + u x (y + 1) + u x (y - 1)
/-- The chips of a cell, n chips having lain on the middle. -/
def hp (n : Int) (u : Odo) (x y : Int) : Int := (if x = 0 ∧ y = 0 then n else 0) + nb u x y - 4 * u x y
def bump (u : Odo) (x y t : Int) : Odo := fun a b => if a = x ∧ b = y then u a b + t else u a b
/-- No more than whatever makes the heap stable. -/
structure Legal (n : Int) (u : Odo) : Prop where
  pos : ∀ a b, 0 ≤ u a b
  least : ∀ v : Odo, (∀ a b, 0 ≤ v a b) → (∀ a b, hp n v a b ≤ 3) → ∀ a b, u a b ≤ v a b
theorem Legal.zero (n : Int) : Legal n (fun _ _ => 0) := ⟨fun _ _ => Int.le_refl _, fun v h0 _ => h0⟩
theorem Legal.bump {n : Int} {u : Odo} (h : Legal n u) {x y t : Int} (ht : 0 ≤ t) (h4 : 4 * t ≤ hp n u x y) : Legal n (bump u x y t) := by
  refine ⟨fun a b => ?_, fun v h0 hv a b => ?_⟩
  · have := h.pos a b
    unfold G8.bump
    split <;> omega
  · have hu := h.least v h0 hv
    unfold G8.bump
    split
    · rename_i e
      obtain ⟨rfl, rfl⟩ := e
      have e0 := hv a b
      have e1 := hu (a + 1) b
      have e2 := hu (a - 1) b
      have e3 := hu a (b + 1)
      have e4 := hu a (b - 1)
      unfold hp nb at *
      omega
    · exact hu a b
/-- Two ends are one. -/
theorem Legal.unique {n : Int} {u v : Odo} (hu : Legal n u) (hv : Legal n v) (su : ∀ a b, hp n u a b ≤ 3) (sv : ∀ a b, hp n v a b ≤ 3) : u = v := by
  funext a b
  have h1 := hu.least v hv.pos sv a b
  have h2 := hv.least u hu.pos su a b
  omega
theorem hp_bump (n : Int) (u : Odo) (x y t a b : Int) : hp n (bump u x y t) a b = if a = x ∧ b = y then hp n u a b - 4 * t else if (a = x + 1 ∧ b = y) ∨ (a = x - 1 ∧ b = y) ∨ (a = x ∧ b = y + 1) ∨ (a = x ∧ b = y - 1) then hp n u a b + t else hp n u a b := by
  have e : ∀ p q, bump u x y t p q = u p q + (if p = x ∧ q = y then t else 0) := fun p q => by unfold bump; split <;> omega
  unfold hp nb
  simp only [e]
  generalize (if a = 0 ∧ b = 0 then n else 0) = z
  repeat' split
  all_goals omega
/-- What makes 250 chips stable. -/
def heapTab : List (List Nat) := [[117, 55, 28, 14, 6, 2], [55, 39, 23, 12, 5, 2], [28, 23, 15, 8, 3, 1], [14, 12, 8, 4, 1, 0], [6, 5, 3, 1, 0, 0], [2, 2, 1, 0, 0, 0]]
def v250 : Odo := fun x y => if x.natAbs ≤ 5 ∧ y.natAbs ≤ 5 then (((heapTab.getD x.natAbs []).getD y.natAbs 0 : Nat) : Int) else 0
theorem v250_pos (a b : Int) : 0 ≤ v250 a b := by unfold v250; split <;> omega
theorem v250_box {a b : Int} (h : 0 < v250 a b) : -5 ≤ a ∧ a ≤ 5 ∧ -5 ≤ b ∧ b ≤ 5 := by
  unfold v250 at h
  split at h
  · omega
  · omega
theorem v250_out {a b : Int} (h : ¬ (-5 ≤ a ∧ a ≤ 5 ∧ -5 ≤ b ∧ b ≤ 5)) : v250 a b = 0 := by unfold v250; rw [if_neg (by omega)]
theorem v250_in : (List.range 13).all (fun i => (List.range 13).all fun j => decide (hp 250 v250 ((i : Int) - 6) ((j : Int) - 6) ≤ 3)) = true := by decide +kernel
theorem v250_stable (n : Int) (hn : n ≤ 250) (a b : Int) : hp n v250 a b ≤ 3 := by
  by_cases h : -6 ≤ a ∧ a ≤ 6 ∧ -6 ≤ b ∧ b ≤ 6
  · have h1 := List.all_eq_true.1 v250_in (a + 6).toNat (by rw [List.mem_range]; omega)
    have h2 := List.all_eq_true.1 h1 (b + 6).toNat (by rw [List.mem_range]; omega)
    rw [decide_eq_true_eq] at h2
    have e1 : (((a + 6).toNat : Nat) : Int) - 6 = a := by omega
    have e2 : (((b + 6).toNat : Nat) : Int) - 6 = b := by omega
    rw [e1, e2] at h2
    unfold hp at *
    split at h2 <;> omega
  · unfold hp nb
    rw [v250_out (by omega), v250_out (by omega), v250_out (by omega), v250_out (by omega), v250_out (by omega), if_neg (by omega)]
    omega
theorem Legal.le {n : Int} {u : Odo} (h : Legal n u) (hn : n ≤ 250) (a b : Int) : u a b ≤ v250 a b := h.least v250 v250_pos (v250_stable n hn) a b
/-- How much has toppled. -/
def S2 (u : Odo) : Int := psum (fun x => psum (u x) 13 (-6)) 13 (-6)
theorem psum_le (f g : Int → Int) : ∀ (n : Nat) (lo : Int), (∀ c, f c ≤ g c) → psum f n lo ≤ psum g n lo
  | 0, _, _ => Int.le_refl _
  | n + 1, lo, h => by
    have h1 := h lo
    have h2 := psum_le f g n (lo + 1) h
    simp only [psum]
    omega
theorem S2_le {u v : Odo} (h : ∀ a b, u a b ≤ v a b) : S2 u ≤ S2 v := psum_le _ _ _ _ fun c => psum_le _ _ _ _ fun d => h c d
theorem S2_v : S2 v250 = 1209 := by decide +kernel
theorem S2_bump (u : Odo) {x y : Int} (t : Int) (hx : -6 ≤ x ∧ x ≤ 6) (hy : -6 ≤ y ∧ y ≤ 6) : S2 (bump u x y t) = S2 u + t := by
  unfold S2
  rw [psum_upd (fun a => psum (u a) 13 (-6)) (fun a => psum (bump u x y t a) 13 (-6)) x (fun c hc => ?_) 13 (-6) (by omega) (by omega)]
  · have h1 := psum_upd (u x) (bump u x y t x) y (fun d hd => by unfold bump; rw [if_neg (by omega)]) 13 (-6) (by omega) (by omega)
    have h2 : bump u x y t x y = u x y + t := by unfold bump; rw [if_pos ⟨rfl, rfl⟩]
    skip
    rw [h1, h2]
    omega
  · have e : bump u x y t c = u c := by
      funext d
      unfold bump
      rw [if_neg (fun q => hc q.1)]
    skip
    rw [e]
/-- A legal topple: it lies within five of the middle, and the sum stays below 1210. -/
theorem Legal.topple {n : Int} {u : Odo} (h : Legal n u) (hn : n ≤ 250) {x y t : Int} (ht : 1 ≤ t) (h4 : 4 * t ≤ hp n u x y) : (-5 ≤ x ∧ x ≤ 5 ∧ -5 ≤ y ∧ y ≤ 5) ∧ Legal n (G8.bump u x y t) ∧ S2 (G8.bump u x y t) = S2 u + t ∧ S2 (G8.bump u x y t) ≤ 1209 := by
  have hb := h.bump (t := t) (by omega) h4
  have hl := hb.le hn x y
  have hp0 := h.pos x y
  have e : G8.bump u x y t x y = u x y + t := by unfold G8.bump; rw [if_pos ⟨rfl, rfl⟩]
  have hbox := v250_box (a := x) (b := y) (by omega)
  refine ⟨hbox, hb, S2_bump u t (by omega) (by omega), ?_⟩
  rw [← S2_v]
  exact S2_le (hb.le hn)
/-- A cell that has had chips. -/
def key (n : Int) (u : Odo) (a b : Int) : Prop := (a = 0 ∧ b = 0 ∧ 0 < n) ∨ 0 < nb u a b
theorem nb_pos {n : Int} {u : Odo} (h : Legal n u) (a b : Int) : 0 ≤ nb u a b := by
  have h1 := h.pos (a + 1) b
  have h2 := h.pos (a - 1) b
  have h3 := h.pos a (b + 1)
  have h4 := h.pos a (b - 1)
  unfold nb
  omega
/-- Cells that have had chips are those that have some, or have toppled. -/
theorem key_iff {n : Int} {u : Odo} (h : Legal n u) (hn : 0 ≤ n) (hc : ∀ a b, 0 ≤ hp n u a b) (a b : Int) : key n u a b ↔ 0 < hp n u a b ∨ 0 < u a b := by
  have h0 := nb_pos h a b
  have h1 := hc a b
  have h2 := h.pos a b
  unfold key
  unfold hp at *
  constructor
  · intro k
    by_cases q : 0 < u a b
    · exact .inr q
    · left
      split at h1
      · rename_i e
        rw [if_pos e]
        rcases k with k | k <;> omega
      · rename_i e
        rw [if_neg e]
        rcases k with k | k
        · exact absurd ⟨k.1, k.2.1⟩ e
        · omega
  · intro k
    by_cases q : 0 < nb u a b
    · exact .inr q
    · left
      split at h1
      · rename_i e
        rw [if_pos e] at k
        exact ⟨e.1, e.2, by omega⟩
      · rename_i e
        rw [if_neg e] at k
        omega
end Go.Proofs.Ytjedhjeijpbobaa.G8

/-! ## Hs -/
namespace Go.Proofs.Ytjedhjeijpbobaa.G8
set_option linter.unusedVariables false
set_option linter.unusedSimpArgs false
structure HInv (n : Int) (u : Odo) (M : Fld) : Prop where
  legal : Legal n u
  val : ∀ a b, (M a b).getD 0 = hp n u a b
  has : ∀ a b, (M a b).isSome = true ↔ key n u a b
  nn : ∀ a b, 0 ≤ hp n u a b
def addC (M : Fld) (x y t : Int) : Fld := upd M x y ((M x y).getD 0 + t)
def heapM (M : Fld) (x y t : Int) : Nat → Fld
  | 0 => upd M x y ((M x y).getD 0 - 4 * t)
  | j + 1 => addC (heapM M x y t j) (mv4 (j : Int) x y).1 (mv4 (j : Int) x y).2 t
theorem upd_get (M : Fld) (x y r a b : Int) : (upd M x y r a b).getD 0 = if a = x ∧ b = y then r else (M a b).getD 0 := by unfold upd; split <;> rfl
theorem upd_some (M : Fld) (x y r a b : Int) : (upd M x y r a b).isSome = true ↔ (M a b).isSome = true ∨ (a = x ∧ b = y) := by
  unfold upd
  by_cases e : a = x ∧ b = y
  · rw [if_pos e]; simp [e]
  · rw [if_neg e]; simp [e]
theorem addC_get (M : Fld) (x y t a b : Int) : (addC M x y t a b).getD 0 = (M a b).getD 0 + if a = x ∧ b = y then t else 0 := by
  unfold addC
  rw [upd_get]
  by_cases e : a = x ∧ b = y
  · rw [if_pos e, if_pos e, e.1, e.2]
  · rw [if_neg e, if_neg e]; omega
theorem mv4s (x y : Int) : mv4 ((0 : Nat) : Int) x y = (x + 1, y) ∧ mv4 ((1 : Nat) : Int) x y = (x, y + 1) ∧ mv4 ((2 : Nat) : Int) x y = (x - 1, y) ∧ mv4 ((3 : Nat) : Int) x y = (x, y - 1) := ⟨rfl, rfl, rfl, rfl⟩
theorem heapM_get (M : Fld) (x y t a b : Int) : (heapM M x y t 4 a b).getD 0 = (M a b).getD 0 + (if a = x ∧ b = y then -(4 * t) else 0) + (if a = x + 1 ∧ b = y then t else 0) + (if a = x ∧ b = y + 1 then t else 0) + (if a = x - 1 ∧ b = y then t else 0) + (if a = x ∧ b = y - 1 then t else 0) := by
  obtain ⟨e0, e1, e2, e3⟩ := mv4s x y
  simp only [heapM]
  rw [e0, e1, e2, e3, addC_get, addC_get, addC_get, addC_get, upd_get]
  simp only
  by_cases e : a = x ∧ b = y
  · rw [if_pos e, if_pos e, e.1, e.2]; omega
  · rw [if_neg e, if_neg e]; omega
theorem heapM_some (M : Fld) (x y t a b : Int) : (heapM M x y t 4 a b).isSome = true ↔ (M a b).isSome = true ∨ (a = x ∧ b = y) ∨ (a = x + 1 ∧ b = y) ∨ (a = x ∧ b = y + 1) ∨ (a = x - 1 ∧ b = y) ∨ (a = x ∧ b = y - 1) := by
  obtain ⟨e0, e1, e2, e3⟩ := mv4s x y
  simp only [heapM, addC]
  rw [e0, e1, e2, e3, upd_some, upd_some, upd_some, upd_some, upd_some]
  simp only [or_assoc]
theorem nb_bump (u : Odo) (x y t a b : Int) : nb (bump u x y t) a b = nb u a b + (if a = x + 1 ∧ b = y then t else 0) + (if a = x ∧ b = y + 1 then t else 0) + (if a = x - 1 ∧ b = y then t else 0) + (if a = x ∧ b = y - 1 then t else 0) := by
  have e : ∀ p q, bump u x y t p q = u p q + (if p = x ∧ q = y then t else 0) := fun p q => by unfold bump; split <;> omega
  unfold nb
  simp only [e]
  have k1 : (if a + 1 = x ∧ b = y then t else 0) = if a = x - 1 ∧ b = y then t else 0 := by split <;> split <;> omega
  have k2 : (if a - 1 = x ∧ b = y then t else 0) = if a = x + 1 ∧ b = y then t else 0 := by split <;> split <;> omega
  have k3 : (if a = x ∧ b + 1 = y then t else 0) = if a = x ∧ b = y - 1 then t else 0 := by split <;> split <;> omega
  have k4 : (if a = x ∧ b - 1 = y then t else 0) = if a = x ∧ b = y + 1 then t else 0 := by split <;> split <;> omega
  rw [k1, k2, k3, k4]
  omega
theorem hp_nb (n : Int) (u : Odo) (x y t a b : Int) : hp n (bump u x y t) a b = hp n u a b + (if a = x ∧ b = y then -(4 * t) else 0) + (if a = x + 1 ∧ b = y then t else 0) + (if a = x ∧ b = y + 1 then t else 0) + (if a = x - 1 ∧ b = y then t else 0) + (if a = x ∧ b = y - 1 then t else 0) := by
  have e : bump u x y t a b = u a b + (if a = x ∧ b = y then t else 0) := by unfold bump; split <;> omega
  unfold hp
  rw [nb_bump, e]
  have k : (if a = x ∧ b = y then -(4 * t) else 0) = -(4 * (if a = x ∧ b = y then t else 0)) := by split <;> omega
  rw [k]
  omega
theorem HInv.topple {n : Int} {u : Odo} {M : Fld} (h : HInv n u M) (hn0 : 0 ≤ n) (hn : n ≤ 250) {x y t : Int} (ht : 1 ≤ t) (h4 : 4 * t ≤ hp n u x y) : HInv n (bump u x y t) (heapM M x y t 4) := by
  refine ⟨(h.legal.topple hn ht h4).2.1, fun a b => ?_, fun a b => ?_, fun a b => ?_⟩
  · rw [heapM_get, h.val, hp_nb]
  · rw [heapM_some, h.has]
    have h0 := nb_pos h.legal a b
    have hk : a = x ∧ b = y → key n u a b := fun e => by
      rw [e.1, e.2]
      exact (key_iff h.legal hn0 h.nn x y).2 (.inl (by omega))
    unfold key at *
    rw [nb_bump]
    constructor
    · rintro ((k | k) | k | k | k | k | k)
      · exact .inl k
      · right; repeat' split
        all_goals omega
      · rcases hk k with q | q
        · exact .inl q
        · right; repeat' split
          all_goals omega
      all_goals (right; repeat' split)
      all_goals omega
    · rintro (k | k)
      · exact .inl (.inl k)
      · by_cases q1 : a = x + 1 ∧ b = y
        · exact .inr (.inr (.inl q1))
        · by_cases q2 : a = x ∧ b = y + 1
          · exact .inr (.inr (.inr (.inl q2)))
          · by_cases q3 : a = x - 1 ∧ b = y
            · exact .inr (.inr (.inr (.inr (.inl q3))))
            · by_cases q4 : a = x ∧ b = y - 1
              · exact .inr (.inr (.inr (.inr (.inr q4))))
              · rw [if_neg q1, if_neg q2, if_neg q3, if_neg q4] at k
                exact .inl (.inr (by omega))
  · have h1 := h.nn a b
    rw [hp_nb]
    by_cases e : a = x ∧ b = y
    · rw [e.1, e.2] at *
      rw [if_pos ⟨rfl, rfl⟩]
      repeat' split
      all_goals omega
    · rw [if_neg e]
      repeat' split
      all_goals omega
/-- What is not stable is on the list; all on it is near the middle. -/
structure Listed (n : Int) (u : Odo) (cs : List (Int × Int)) : Prop where
  all : ∀ a b, 4 ≤ hp n u a b → (a, b) ∈ cs
  near : ∀ c ∈ cs, -6 ≤ c.1 ∧ c.1 ≤ 6 ∧ -6 ≤ c.2 ∧ c.2 ≤ 6
def nbrs (x y : Int) (j : Nat) : List (Int × Int) := (List.range j).map fun (i : Nat) => mv4 (i : Int) x y
theorem nbrs4 (x y : Int) : nbrs x y 4 = [(x + 1, y), (x, y + 1), (x - 1, y), (x, y - 1)] := rfl
theorem nbrs_succ (x y : Int) (j : Nat) : nbrs x y (j + 1) = nbrs x y j ++ [mv4 (j : Int) x y] := by unfold nbrs; rw [List.range_succ, List.map_append]; rfl
theorem nbrs_len (x y : Int) (j : Nat) : (nbrs x y j).length = j := by simp [nbrs]
theorem Listed.pop {n : Int} {u : Odo} {cs : List (Int × Int)} {c : Int × Int} (h : Listed n u (cs ++ [c])) (h4 : ¬ 4 ≤ hp n u c.1 c.2) : Listed n u cs := by
  refine ⟨fun a b hab => ?_, fun d hd => h.near d (by simp [hd])⟩
  have := h.all a b hab
  simp only [List.mem_append, List.mem_singleton] at this
  rcases this with k | k
  · exact k
  · subst k; exact absurd hab h4
theorem Listed.topple {n : Int} {u : Odo} {cs : List (Int × Int)} {x y t : Int} (h : Listed n u cs) (hb : -5 ≤ x ∧ x ≤ 5 ∧ -5 ≤ y ∧ y ≤ 5) (ht : 1 ≤ t) (h8 : hp n u x y - 4 * t < 4) : Listed n (bump u x y t) (cs ++ nbrs x y 4) := by
  rw [nbrs4]
  refine ⟨fun a b hab => ?_, fun d hd => ?_⟩
  · rw [hp_bump] at hab
    simp only [List.mem_append, List.mem_cons, List.not_mem_nil, or_false, Prod.mk.injEq]
    split at hab
    · rename_i e
      rw [e.1, e.2] at hab
      omega
    · split at hab
      · rename_i _ e
        right
        omega
      · exact .inl (h.all a b hab)
  · simp only [List.mem_append, List.mem_cons, List.not_mem_nil, or_false] at hd
    rcases hd with hd | rfl | rfl | rfl | rfl
    · exact h.near d hd
    all_goals (simp only; omega)
theorem hp_zero (n a b : Int) : hp n (fun _ _ => 0) a b = if a = 0 ∧ b = 0 then n else 0 := by
  unfold hp nb
  simp
theorem HInv.start {n : Int} (hn : 1 ≤ n) : HInv n (fun _ _ => 0) (upd (fun _ _ => none) 0 0 n) := by
  refine ⟨Legal.zero n, fun a b => ?_, fun a b => ?_, fun a b => ?_⟩
  · rw [upd_get, hp_zero]; rfl
  · rw [upd_some]
    unfold key nb
    simp only [Option.isSome_none, Bool.false_eq_true, false_or]
    constructor
    · intro k; exact .inl ⟨k.1, k.2, by omega⟩
    · rintro (k | k)
      · exact ⟨k.1, k.2.1⟩
      · omega
  · rw [hp_zero]; split <;> omega
theorem Listed.start (n : Int) : Listed n (fun _ _ => 0) [(0, 0)] := by
  refine ⟨fun a b h => ?_, fun c hc => ?_⟩
  · rw [hp_zero] at h
    split at h
    · rename_i e; simp [e]
    · omega
  · simp at hc; subst hc; decide
theorem hp_le {n : Int} {u : Odo} (h : Legal n u) (hn : n ≤ 250) (hn0 : 0 ≤ n) (a b : Int) : hp n u a b ≤ 5000 := by
  have hb : ∀ a b, u a b ≤ 1000 := fun a b => by
    have h1 := h.le hn a b
    have h2 : v250 a b ≤ 1000 := by
      by_cases q : -5 ≤ a ∧ a ≤ 5 ∧ -5 ≤ b ∧ b ≤ 5
      · have hv : (List.range 11).all (fun i => (List.range 11).all fun j => decide (v250 ((i : Int) - 5) ((j : Int) - 5) ≤ 1000)) = true := by decide +kernel
        have h3 := List.all_eq_true.1 hv (a + 5).toNat (by rw [List.mem_range]; omega)
        have h4 := List.all_eq_true.1 h3 (b + 5).toNat (by rw [List.mem_range]; omega)
        rw [decide_eq_true_eq] at h4
        have e1 : (((a + 5).toNat : Nat) : Int) - 5 = a := by omega
        have e2 : (((b + 5).toNat : Nat) : Int) - 5 = b := by omega
        rwa [e1, e2] at h4
      · rw [v250_out q]; omega
    omega
  have h1 := hb (a + 1) b
  have h2 := hb (a - 1) b
  have h3 := hb a (b + 1)
  have h4 := hb a (b - 1)
  have h5 := h.pos a b
  unfold hp nb
  split <;> omega
end Go.Proofs.Ytjedhjeijpbobaa.G8

/-! ## Hw -/
namespace Go.Proofs.Ytjedhjeijpbobaa.G8
set_option linter.unusedVariables false
set_option linter.unusedSimpArgs false
theorem S2_nul : S2 (fun _ _ => 0) = 0 := by decide +kernel
theorem S2_bd {n : Int} {u : Odo} (h : Legal n u) (hn : n ≤ 250) : 0 ≤ S2 u ∧ S2 u ≤ 1209 := by
  constructor
  · rw [← S2_nul]; exact S2_le h.pos
  · rw [← S2_v]; exact S2_le (h.le hn)
theorem hp_out {n : Int} {u : Odo} (h : Legal n u) (hn : n ≤ 250) {a b : Int} (hab : ¬ (-6 ≤ a ∧ a ≤ 6 ∧ -6 ≤ b ∧ b ≤ 6)) : hp n u a b = 0 := by
  have h0 : ∀ p q, ¬ (-5 ≤ p ∧ p ≤ 5 ∧ -5 ≤ q ∧ q ≤ 5) → u p q = 0 := fun p q k => by
    have h1 := h.le hn p q
    have h2 := h.pos p q
    rw [v250_out k] at h1
    omega
  unfold hp nb
  rw [h0 _ _ (by omega), h0 _ _ (by omega), h0 _ _ (by omega), h0 _ _ (by omega), h0 _ _ (by omega), if_neg (by omega)]
  omega
theorem quo4' {h : Int} (h4 : 4 ≤ h) : Int.tdiv h 4 = h / 4 ∧ 1 ≤ h / 4 ∧ 4 * (h / 4) ≤ h ∧ h - 4 * (h / 4) < 4 := ⟨Int.tdiv_eq_ediv_of_nonneg (by omega), by omega, by omega, by omega⟩
/-- One scan: u ahead of it, u1 now; the cells ahead of (x, y) have been looked at. -/
structure Scan (n : Int) (u u1 : Odo) (m : Bool) (x y : Int) : Prop where
  legal : Legal n u1
  nn : ∀ a b, 0 ≤ hp n u1 a b
  more : m = true → S2 u + 1 ≤ S2 u1
  same : m = false → u1 = u ∧ ∀ a b, -59 ≤ a → a ≤ 59 → -59 ≤ b → b ≤ 59 → (a < x ∨ (a = x ∧ b < y)) → hp n u a b ≤ 3
section
variable {n : Int} {u u1 : Odo} {m : Bool} {x y : Int}
theorem Scan.start (h : Legal n u) (hn : ∀ a b, 0 ≤ hp n u a b) : Scan n u u false (-59) (-59) := ⟨h, hn, fun e => (by cases e), fun _ => ⟨rfl, fun a b h1 h2 h3 h4 h5 => by omega⟩⟩
theorem Scan.row (h : Scan n u u1 m x 60) : Scan n u u1 m (x + 1) (-59) := ⟨h.legal, h.nn, h.more, fun e => ⟨(h.same e).1, fun a b h1 h2 h3 h4 h5 => (h.same e).2 a b h1 h2 h3 h4 (by omega)⟩⟩
theorem Scan.small (h : Scan n u u1 m x y) (hs : hp n u1 x y < 4) : Scan n u u1 m x (y + 1) := by
  refine ⟨h.legal, h.nn, h.more, fun e => ⟨(h.same e).1, fun a b h1 h2 h3 h4 h5 => ?_⟩⟩
  by_cases q : a < x ∨ (a = x ∧ b < y)
  · exact (h.same e).2 a b h1 h2 h3 h4 q
  · have hx : a = x := by omega
    have hy : b = y := by omega
    rw [hx, hy, ← (h.same e).1]
    omega
theorem Scan.topple (h : Scan n u u1 m x y) (hn : n ≤ 250) {t : Int} (ht : 1 ≤ t) (h4 : 4 * t ≤ hp n u1 x y) : Scan n u (bump u1 x y t) true x (y + 1) := by
  obtain ⟨h1, h2, h3, h5⟩ := h.legal.topple hn ht h4
  refine ⟨h2, fun a b => ?_, fun _ => ?_, fun e => by cases e⟩
  · have := h.nn a b
    rw [hp_bump]
    split
    · rename_i e
      rw [e.1, e.2] at *
      omega
    · split <;> omega
  · rw [h3]
    cases m with
    | true => have := h.more rfl; omega
    | false => rw [(h.same rfl).1]; omega
theorem Scan.finish (h : Scan n u u1 m 60 (-59)) (hn : n ≤ 250) (hm : m = false) : ∀ a b, hp n u1 a b ≤ 3 := fun a b => by
  by_cases q : -59 ≤ a ∧ a ≤ 59 ∧ -59 ≤ b ∧ b ≤ 59
  · rw [(h.same hm).1]
    exact (h.same hm).2 a b q.1 q.2.1 q.2.2.1 q.2.2.2 (by omega)
  · rw [hp_out h.legal hn (by omega)]; omega
end
theorem heap_bd (M : Fld) (x y t : Int) (ht : 0 ≤ t) (a b : Int) : ∀ j, -(4 * t) ≤ (heapM M x y t j a b).getD 0 - (M a b).getD 0 ∧ (heapM M x y t j a b).getD 0 - (M a b).getD 0 ≤ j * t
  | 0 => by
    simp only [heapM]
    rw [upd_get]
    by_cases e : a = x ∧ b = y
    · rw [if_pos e, e.1, e.2]; simp; omega
    · rw [if_neg e]; simp; omega
  | j + 1 => by
    obtain ⟨h1, h2⟩ := heap_bd M x y t ht a b j
    simp only [heapM]
    rw [addC_get]
    have e : ((j + 1 : Nat) : Int) * t = j * t + t := by rw [Int.natCast_add, Int.add_mul]; simp
    rw [e]
    split <;> omega
theorem heap_bd4 {n : Int} {u1 : Odo} (hl : Legal n u1) (hn : n ≤ 250) (hn0 : 0 ≤ n) (nn : ∀ a b, 0 ≤ hp n u1 a b) {M : Fld} (hM : M = fun a b => some (hp n u1 a b)) (x y t : Int) (ht : 0 ≤ t) (ht2 : t ≤ 1250) (a b : Int) {j : Nat} (hj : j ≤ 4) :
    -5000 ≤ (heapM M x y t j a b).getD 0 ∧ (heapM M x y t j a b).getD 0 ≤ 10000 := by
  obtain ⟨h1, h2⟩ := heap_bd M x y t ht a b j
  have h3 := Int.mul_le_mul_of_nonneg_right (show (j : Int) ≤ 4 by omega) ht
  have h4 := nn a b
  have h5 := hp_le hl hn hn0 a b
  subst hM
  simp only [Option.getD_some] at h1 h2
  omega
end Go.Proofs.Ytjedhjeijpbobaa.G8

/-! ## Hv -/
namespace Go.Proofs.Ytjedhjeijpbobaa.G8
open Go.RowKit Go.Maps Go.Proofs.YtjedhjeijpbobaaW.PrintWords Go.Proofs.YtjedhjeijpbobaaW.PrintLast Go.Proofs.YtjedhjeijpbobaaW.PrintMore
open Go.Proofs.Ytjedhjeijpbobaa.GA
set_option linter.unusedVariables false
set_option linter.unusedSimpArgs false
/-- Chips and toppled cells, in memory. -/
structure HhAt (w : World) (base cb tb : Nat) (M : Fld) (T : Int → Int → Bool) : Prop where
  hc : base ≤ cb
  ht : base ≤ tb
  chips : ∃ cl : Array Value, w.heap[cb]? = some (.cells cl 3 (0, 0)) ∧ cl.size = 14641 ∧ ∀ x y, Box x → Box y → cl[atN x y]? = some (.int .i64 ((M x y).getD 0))
  tops : ∃ tl : Array Value, w.heap[tb]? = some (.cells tl 4 (0, 0)) ∧ tl.size = 14641 ∧ ∀ x y, Box x → Box y → tl[atN x y]? = some (.bool (T x y))
section
variable {w w1 : World} {base cb tb : Nat} {M : Fld} {T : Int → Int → Bool}
theorem HhAt.keep (h : HhAt w base cb tb M T) (e : ∀ b, b < w.heap.size → w1.heap[b]? = w.heap[b]?) : HhAt w1 base cb tb M T := by
  obtain ⟨cl, c1, c2, c3⟩ := h.chips
  obtain ⟨tl, t1, t2, t3⟩ := h.tops
  exact ⟨h.hc, h.ht, ⟨cl, (e cb (blk_lt c1)).trans c1, c2, c3⟩, ⟨tl, (e tb (blk_lt t1)).trans t1, t2, t3⟩⟩
theorem HhAt.drewN (h : HhAt w base cb tb M T) (n : Nat) : HhAt (w.drewN n) base cb tb M T := h.keep fun _ _ => by simp
theorem HhAt.below (h : HhAt w base cb tb M T) (hB : Below w.heap.size w w1) : HhAt w1 base cb tb M T := h.keep fun b hb => hB.block b hb
theorem HhAt.ne (h : HhAt w base cb tb M T) : cb ≠ tb := by
  obtain ⟨cl, c1, _⟩ := h.chips
  obtain ⟨tl, t1, _⟩ := h.tops
  exact blk_ne c1 t1 (.inl (by decide))
theorem HhAt.chip_at (h : HhAt w base cb tb M T) {x y : Int} (hx : Box x) (hy : Box y) : w.cell? ⟨cb, atN x y, none⟩ = some (.int .i64 ((M x y).getD 0)) ∧ w.frozen? ⟨cb, atN x y, none⟩ = false := by
  obtain ⟨cl, c1, _, c3⟩ := h.chips
  exact ⟨(blk_cell c1 _).trans (c3 x y hx hy), blk_frozen c1 _⟩
theorem HhAt.top_at (h : HhAt w base cb tb M T) {x y : Int} (hx : Box x) (hy : Box y) : w.cell? ⟨tb, atN x y, none⟩ = some (.bool (T x y)) ∧ w.frozen? ⟨tb, atN x y, none⟩ = false := by
  obtain ⟨tl, t1, _, t3⟩ := h.tops
  exact ⟨(blk_cell t1 _).trans (t3 x y hx hy), blk_frozen t1 _⟩
theorem HhAt.setC (h : HhAt w base cb tb M T) {x y : Int} (hx : Box x) (hy : Box y) (r : Int) : HhAt (w.setCell ⟨cb, atN x y, none⟩ (.int .i64 r)) base cb tb (upd M x y r) T := by
  obtain ⟨cl, c1, c2, c3⟩ := h.chips
  obtain ⟨tl, t1, t2, t3⟩ := h.tops
  have hlt := atN_lt hx hy
  refine ⟨h.hc, h.ht, ⟨_, blk_set c1 _ _, by rw [Array.size_setIfInBounds]; exact c2, fun a b ha hb => ?_⟩, ⟨tl, blk_far t1 (p := ⟨cb, atN x y, none⟩) (fun e => h.ne e.symm) _, t2, t3⟩⟩
  rw [upd_get]
  by_cases e : a = x ∧ b = y
  · rw [if_pos e, e.1, e.2, Array.getElem?_setIfInBounds_self_of_lt (by omega)]
  · rw [if_neg e, Array.getElem?_setIfInBounds_ne (fun q => e ((atN_eq hx hy ha hb).1 q.symm))]; exact c3 a b ha hb
theorem HhAt.setT (h : HhAt w base cb tb M T) {x y : Int} (hx : Box x) (hy : Box y) : HhAt (w.setCell ⟨tb, atN x y, none⟩ (.bool true)) base cb tb M (fun a b => if a = x ∧ b = y then true else T a b) := by
  obtain ⟨cl, c1, c2, c3⟩ := h.chips
  obtain ⟨tl, t1, t2, t3⟩ := h.tops
  have hlt := atN_lt hx hy
  refine ⟨h.hc, h.ht, ⟨cl, blk_far c1 (p := ⟨tb, atN x y, none⟩) h.ne _, c2, c3⟩, ⟨_, blk_set t1 _ _, by rw [Array.size_setIfInBounds]; exact t2, fun a b ha hb => ?_⟩⟩
  by_cases e : a = x ∧ b = y
  · rw [if_pos e, e.1, e.2, Array.getElem?_setIfInBounds_self_of_lt (by omega)]
  · rw [if_neg e, Array.getElem?_setIfInBounds_ne (fun q => e ((atN_eq hx hy ha hb).1 q.symm))]; exact t3 a b ha hb
theorem HhAt.like (h : HhAt w base cb tb M T) {M1 : Fld} {T1 : Int → Int → Bool} (hM : ∀ a b, (M1 a b).getD 0 = (M a b).getD 0) (hT : ∀ a b, T1 a b = T a b) : HhAt w base cb tb M1 T1 := by
  obtain ⟨cl, c1, c2, c3⟩ := h.chips
  obtain ⟨tl, t1, t2, t3⟩ := h.tops
  exact ⟨h.hc, h.ht, ⟨cl, c1, c2, fun x y hx hy => by rw [hM]; exact c3 x y hx hy⟩, ⟨tl, t1, t2, fun x y hx hy => by rw [hT]; exact t3 x y hx hy⟩⟩
end
def hpM (n : Int) (u : Odo) : Fld := fun a b => some (hp n u a b)
def hpT (u : Odo) : Int → Int → Bool := fun a b => decide (0 < u a b)
def HhOut (w : World) (n : Int) (e : Ending) (w' : World) : Prop := ∃ cb tb u, e = .returned (.tuple #[.slice (some ⟨cb, 0, none⟩) 14641 14641, .slice (some ⟨tb, 0, none⟩) 14641 14641]) ∧ Below w.heap.size w w' ∧ Aside0 (HhAt w' w.heap.size cb tb (hpM n u) (hpT u)) ∧ Aside0 (Legal n u) ∧ Aside0 (∀ a b, 0 ≤ hp n u a b ∧ hp n u a b ≤ 3)
theorem hh_start {w : World} {base cb tb : Nat} (n : Int) (hc : base ≤ cb) (ht : base ≤ tb) (h1 : w.heap[cb]? = some (.cells (madeCells #[.int .i64 0] 14641) 3 (0, 0))) (h2 : w.heap[tb]? = some (.cells (madeCells #[.bool false] 14641) 4 (0, 0))) :
    HhAt (w.setCell ⟨cb, atN 0 0, none⟩ (.int .i64 n)) base cb tb (hpM n (fun _ _ => 0)) (hpT (fun _ _ => 0)) := by
  have h : HhAt w base cb tb (fun _ _ => none) (fun _ _ => false) := ⟨hc, ht, ⟨_, h1, size_madeCells _ _, fun x y hx hy => made_at _ _ _ (atN_lt hx hy)⟩, ⟨_, h2, size_madeCells _ _, fun x y hx hy => made_at _ _ _ (atN_lt hx hy)⟩⟩
  refine (h.setC (x := 0) (y := 0) ⟨by decide, by decide⟩ ⟨by decide, by decide⟩ n).like (fun a b => ?_) (fun a b => by unfold hpT; simp)
  rw [upd_get]
  unfold hpM
  rw [hp_zero]
  rfl
theorem hh_topple {w : World} {base cb tb : Nat} {n : Int} {u : Odo} {x y t : Int} (h : HhAt w base cb tb (heapM (hpM n u) x y t 4) (fun a b => if a = x ∧ b = y then true else hpT u a b)) (hu : Legal n u) (ht : 1 ≤ t) : HhAt w base cb tb (hpM n (bump u x y t)) (hpT (bump u x y t)) := by
  refine h.like (fun a b => ?_) (fun a b => ?_)
  · rw [heapM_get]
    unfold hpM
    simp only [Option.getD_some]
    rw [hp_nb]
  · unfold hpT bump
    by_cases e : a = x ∧ b = y
    · rw [if_pos e, if_pos e]
      have := hu.pos a b
      simp
      omega
    · rw [if_neg e, if_neg e]
def Th1 : Bool × List (List Nat × List Nat) := (true, [([], []), ([], []), ([0, 0], [0]), ([1, 2, 0, 1, 2], [1])])
def Bh1 : List Nat := [0, 0, 1, 7]
theorem tabh1 : rtab .any (opsOf Try.f95 1) = Th1 := by kernel_rfl
theorem bitsh1 : waitsOk Th1.2 Bh1 = true := by kernel_rfl
theorem hbJ {j q : Nat} (h : j + (q + 1) = 4) : j + 1 + q = 4 := by omega
theorem hbJ0 {j : Nat} (h : j + 0 = 4) : j = 4 := h
theorem hbJi {j q : Nat} (h : j + (q + 1) = 4) : (j : Int) < 4 := by omega
theorem hbJl {j q : Nat} (h : j + (q + 1) = 4) : j ≤ 4 := by omega
theorem hbY {y : Int} {k : Nat} (h : -59 ≤ y ∧ y + ((k + 1 : Nat) : Int) = 60) : -59 ≤ y + 1 ∧ y + 1 + (k : Int) = 60 := by omega
theorem hbP {p : Nat} (h : p < 14641) : (p : Int) < 14641 := by omega
theorem hbMv {x y : Int} {j : Nat} (h : -5 ≤ x ∧ x ≤ 5 ∧ -5 ≤ y ∧ y ≤ 5) : Box (mv4 (j : Int) x y).1 ∧ Box (mv4 (j : Int) x y).2 := by
  unfold mv4 Box
  repeat' split
  all_goals (simp only; omega)
theorem hbW {j q : Nat} (h : j + (q + 1) = 4) : wrap64 ((j : Int) + 1) = (j : Int) + 1 := wrap_id (by omega) (by omega)
theorem hbG {g t : Int} (hg : -5000 ≤ g ∧ g ≤ 10000) (h1 : 1 ≤ t) (h2 : t ≤ 1250) : wrap64 (g + t) = g + t := wrap_id (by omega) (by omega)
theorem hbT {t : Int} (h : 1 ≤ t) : 0 ≤ t := by omega
set_option maxHeartbeats 4000000 in
set_option maxRecDepth 100000 in
theorem gwHeap_calls (n : Int) (hn : 0 ≤ n ∧ n ≤ 250) (w : World) : Calls Try.prog 95 #[.int .i64 n] w (HhOut w n) := by
  have HT0 := Aside0.mk (at_quiet (x := 0) (y := 0) ⟨by decide, by decide⟩ ⟨by decide, by decide⟩)
  go_enter Try.func95, Try.ntmps95
  go_upto_region 1 with (fail)
  refine start_ (n := 4) (S := fun w' => True) (ds := []) #[false, false, false, false] (by kernel_rfl) rfl rfl trivial (fun hHeld => ?_)
  refine with_tabW tabh1 bitsh1 (fun HT_ HW_ => ?_)
  have HB := Aside0.mk (below_drew (Below.refl w.heap.size w))
  have hsz : w.heap.size ≤ w.drew.heap.size := Nat.le_refl _
  generalize w.drew = W0 at *
  refine join_ (σ := Nat × Nat) 1 #[true, true, true, false] (fun s => [(14, .slice (some ⟨s.1, 0, none⟩) 14641 14641), (15, .slice (some ⟨s.2, 0, none⟩) 14641 14641), (4, .slice (some ⟨s.1, 0, none⟩) 14641 14641)]) (fun s w' => Aside0 (w'.heap[s.1]? = some (.cells (madeCells #[.int .i64 0] 14641) 3 (0, 0)) ∧ w'.heap[s.2]? = some (.cells (madeCells #[.bool false] 14641) 4 (0, 0)) ∧ w.heap.size ≤ s.1 ∧ w.heap.size ≤ s.2 ∧ Below w.heap.size w w')) ?_ ?_
  rotate_left
  · intro hCont
    refine two_ (i := 0) (j := 1) (Ni := some 14) (Nj := some 15) #[true, false, false, false] #[false, true, false, false] rfl rfl rfl rfl (two_of HT_.out (by kernel_rfl)) (by decide) (by decide) (fun K hK => ?_) (fun K hK => ?_)
    · refine value_ (v := .slice (some ⟨W0.heap.size, 0, none⟩) 14641 14641) (w1 := W0.alloc (.cells (madeCells #[.int .i64 0] 14641) 3)) (by rfl) rfl (by go_simp; rw [make_ints]; rfl) ?_
      refine hK.out _ _ trivial (fun hHeld => ?_)
      clear hK K
      (try simp only [Act.put, List.setIfInBounds_toArray, List.set_cons_zero, List.set_cons_succ])
      refine pure_ (i := 2) (N := some 4) (v := ?_) (a' := ?_) #[true, false, true, false] rfl rfl (any_of HT_.out (by kernel_rfl)) (fun _ _ _ h => h) (Or.inl ⟨by rfl, ?_⟩) ?_ ?_
      rotate_left
      · intro w'
        go_simp
        with_reducible rfl
      rotate_left
      · simp only [Act.put, List.setIfInBounds_toArray, List.set_cons_zero, List.set_cons_succ, i64_w, i32_w]
        rfl
      refine one_ (i := 1) (N := some 15) #[true, true, true, false] rfl rfl (one_of HT_.out (by kernel_rfl)) (by decide) (fun K hK => ?_)
      refine value_ (v := .slice (some ⟨W0.heap.size + 1, 0, none⟩) 14641 14641) (w1 := (W0.alloc (.cells (madeCells #[.int .i64 0] 14641) 3)).alloc (.cells (madeCells #[.bool false] 14641) 4)) (by rfl) rfl (by go_simp; rw [make_bools]; simp [Result.andThen]) ?_
      refine hK.out _ _ trivial (fun hHeld => ?_)
      clear hK K
      refine norm_ (by simp only [putAll, Act.put, List.setIfInBounds_toArray, List.set_cons_zero, List.set_cons_succ]) (hCont (W0.heap.size, W0.heap.size + 1) _ ⟨two_new W0 _ _, two_new1 W0 _ _, by omega, by omega, (HB.out.alloc (by omega) _).alloc (by simp; omega) _⟩)
    · refine value_ (v := .slice (some ⟨W0.heap.size, 0, none⟩) 14641 14641) (w1 := W0.alloc (.cells (madeCells #[.bool false] 14641) 4)) (by rfl) rfl (by go_simp; rw [make_bools]; rfl) ?_
      refine hK.out _ _ trivial (fun hHeld => ?_)
      clear hK K
      (try simp only [Act.put, List.setIfInBounds_toArray, List.set_cons_zero, List.set_cons_succ])
      refine one_ (i := 0) (N := some 14) #[true, true, false, false] rfl rfl (one_of HT_.out (by kernel_rfl)) (by decide) (fun K hK => ?_)
      refine value_ (v := .slice (some ⟨W0.heap.size + 1, 0, none⟩) 14641 14641) (w1 := (W0.alloc (.cells (madeCells #[.bool false] 14641) 4)).alloc (.cells (madeCells #[.int .i64 0] 14641) 3)) (by rfl) rfl (by go_simp; rw [make_ints]; simp [Result.andThen]) ?_
      refine hK.out _ _ trivial (fun hHeld => ?_)
      clear hK K
      (try simp only [Act.put, List.setIfInBounds_toArray, List.set_cons_zero, List.set_cons_succ])
      refine pure_ (i := 2) (N := some 4) (v := ?_) (a' := ?_) #[true, true, true, false] rfl rfl (any_of HT_.out (by kernel_rfl)) (fun _ _ _ h => h) (Or.inl ⟨by rfl, ?_⟩) ?_ ?_
      rotate_left
      · intro w'
        go_simp
        with_reducible rfl
      rotate_left
      · simp only [Act.put, List.setIfInBounds_toArray, List.set_cons_zero, List.set_cons_succ, i64_w, i32_w]
        rfl
      refine norm_ (by simp only [putAll, Act.put, List.setIfInBounds_toArray, List.set_cons_zero, List.set_cons_succ]) (hCont (W0.heap.size + 1, W0.heap.size) _ ⟨two_new1 W0 _ _, two_new W0 _ _, by omega, by omega, (HB.out.alloc (by omega) _).alloc (by simp; omega) _⟩)
  rintro ⟨cb, tb⟩ W1 hF
  obtain ⟨hcb, htb, hc0, ht0, hB⟩ := hF.out
  have HC0 := Aside0.mk hcb
  have HTB := Aside0.mk htb
  have HB1 := Aside0.mk hB
  clear hF hcb htb hB HB hsz hHeld
  refine norm_ (a' := ?_) ?_ ?_
  rotate_left
  · simp only [putAll, Act.put, List.setIfInBounds_toArray, List.set_cons_zero, List.set_cons_succ]
    rfl
  refine pure_ (i := 3) (N := some 5) (v := ?_) (a' := ?_) #[true, true, true, true] rfl rfl (any_of HT_.out (by kernel_rfl)) (fun _ _ _ h => h) (Or.inl ⟨by rfl, ?_⟩) ?_ ?_
  rotate_left
  · intro w'
    go_simp
    with_reducible rfl
  rotate_left
  · simp only [Act.put, List.setIfInBounds_toArray, List.set_cons_zero, List.set_cons_succ, i64_w, i32_w]
    rfl
  refine done_ (done_of HT_.out (by kernel_rfl)) ?_
  clear HT_ HW_
  have hb00 : Box 0 := ⟨by decide, by decide⟩
  have hplt := atN_lt hb00 hb00
  obtain ⟨p, hpe⟩ : ∃ p, p = atN 0 0 := ⟨_, rfl⟩
  rw [← hpe] at HT0 hplt
  have hpi : (p : Int) < 14641 := by omega
  obtain ⟨cv, fv⟩ : W1.cell? ⟨cb, p, none⟩ = some (.int .i64 0) ∧ W1.frozen? ⟨cb, p, none⟩ = false := ⟨(blk_cell HC0.out p).trans (made_at _ _ _ hplt), blk_frozen HC0.out p⟩
  replace hpe := Aside0.mk hpe
  go_wp2_with (first | (go_at_call 73; (with_reducible refine (HT0.out _).mono ?_); rintro e w9 ⟨rfl, ⟨nd0, rfl⟩⟩))
  have HH0 : Aside0 (HhAt ((W1.drewN nd0).setCell ⟨cb, p, none⟩ (.int .i64 n)) w.heap.size cb tb (hpM n (fun _ _ => 0)) (hpT (fun _ _ => 0))) := ⟨by
    rw [hpe.out]
    exact hh_start n hc0 ht0 HC0.out HTB.out⟩
  have HBB : Aside0 (Below w.heap.size w ((W1.drewN nd0).setCell ⟨cb, p, none⟩ (.int .i64 n))) := ⟨(pw_below_drewN HB1.out nd0).setCell (p := ⟨cb, p, none⟩) hc0 _⟩
  have HL0 := Aside0.mk (Legal.zero n)
  have HN0 : Aside0 (∀ a b, 0 ≤ hp n (fun _ _ => 0) a b) := ⟨fun a b => by rw [hp_zero]; split <;> omega⟩
  clear HC0 HTB HB1 HT0 cv fv
  go_loopg [6] 1210 (fun m v6 wr => ∃ (more : Bool) (u : Odo), v6 = .bool more ∧ Aside0 (1209 - S2 u + (if more = true then 1 else 0) ≤ m) ∧ Aside0 (HhAt wr w.heap.size cb tb (hpM n u) (hpT u)) ∧ Aside0 (Legal n u) ∧ Aside0 (∀ a b, 0 ≤ hp n u a b) ∧ Aside0 (more = false → ∀ a b, hp n u a b ≤ 3) ∧ Aside0 (Below w.heap.size w wr))
  case atStart => exact ⟨true, fun _ _ => 0, rfl, ⟨by rw [S2_nul]; decide⟩, HH0, HL0, HN0, ⟨fun e => by cases e⟩, HBB⟩
  case round =>
    clear HH0 HBB HL0 HN0 hpe hplt hpi
    obtain ⟨more, u, rfl, HI, HH, HL, HN, HS, HB⟩ := hrel
    cases more with
    | false =>
      go_wp2_with (fail)
      refine bodyPost_ret (v := .tuple #[.slice (some ⟨cb, 0, none⟩) 14641 14641, .slice (some ⟨tb, 0, none⟩) 14641 14641]) (by simp [results, Try.results95, go_sem]) rfl ?_
      exact ⟨cb, tb, u, rfl, HB.out, HH, HL, ⟨fun a b => ⟨HN.out a b, HS.out (by first | rfl | trivial) a b⟩⟩⟩
    | true =>
      cases gk with
      | zero => exact absurd HI.out (by have := (S2_bd HL.out hn.2).2; simp; omega)
      | succ m =>
        have HSC := Aside0.mk (Scan.start HL.out HN.out)
        go_upto_region 6 with (fail)
        go_wp2_with (fail)
        go_loopg [6, 7] 119 (fun k v6 v7 wq => ∃ (more : Bool) (u1 : Odo) (x : Int), v6 = .bool more ∧ v7 = .int .i64 x ∧ Aside0 (-59 ≤ x ∧ x + (k : Int) = 60) ∧ Aside0 (Scan n u u1 more x (-59)) ∧ Aside0 (HhAt wq w.heap.size cb tb (hpM n u1) (hpT u1)) ∧ Aside0 (Below w.heap.size w wq))
        case atStart => exact ⟨false, u, -59, rfl, rfl, ⟨by decide⟩, HSC, HH, HB⟩
        case round =>
          clear HSC HH HB HS HN HL
          obtain ⟨more, u1, x, rfl, rfl, HX, HC, HH, HB⟩ := hrel
          cases gk with
          | zero =>
            have hx60 : x = 60 := by have := HX.out.2; omega
            subst hx60
            have hle : ¬ ((60 : Int) ≤ 59) := by omega
            have hfin := Aside0.mk (fun hm => HC.out.finish hn.2 hm)
            have hmo := Aside0.mk HC.out.more
            have HL1 := Aside0.mk HC.out.legal
            have HN1 := Aside0.mk HC.out.nn
            have hsm := Aside0.mk HC.out.same
            go_wp2_with (fail)
            go_roundg m
            case measure => omega
            case rel =>
              refine ⟨more, u1, rfl, ⟨?_⟩, HH, HL1, HN1, hfin, HB⟩
              have hI := HI.out
              simp only [if_true] at hI
              cases more with
              | true => have := hmo.out rfl; simp only [if_true]; omega
              | false => rw [(hsm.out rfl).1]; simp only [Bool.false_eq_true, if_false]; omega
          | succ kx =>
            have hle : x ≤ 59 := by have := HX.out.2; omega
            have hxb : Box x := ⟨by have := HX.out.1; omega, by omega⟩
            have hx1 := HX.out.1
            have hwx := wrap_id (x := x + 1) (by omega) (by omega)
            go_upto_region 9 with (fail)
            go_wp2_with (fail)
            go_loopg [6, 8] 119 (fun k v6 v8 wq => ∃ (more : Bool) (u1 : Odo) (y : Int), v6 = .bool more ∧ v8 = .int .i64 y ∧ Aside0 (-59 ≤ y ∧ y + (k : Int) = 60) ∧ Aside0 (Scan n u u1 more x y) ∧ Aside0 (HhAt wq w.heap.size cb tb (hpM n u1) (hpT u1)) ∧ Aside0 (Below w.heap.size w wq))
            case atStart => exact ⟨more, u1, -59, rfl, rfl, ⟨by decide⟩, HC, HH, HB⟩
            case round =>
              clear HC HH HB
              obtain ⟨more, u1, y, rfl, rfl, HY, HC, HH, HB⟩ := hrel
              cases gk with
              | zero =>
                have hy60 : y = 60 := by have := HY.out.2; omega
                subst hy60
                have hley : ¬ ((60 : Int) ≤ 59) := by omega
                go_wp2_with (fail)
                (try simp only [hwx])
                go_roundg kx
                case measure => omega
                case rel => exact ⟨more, u1, x + 1, rfl, by first | rfl | go_num, ⟨by have := HX.out; omega⟩, ⟨HC.out.row⟩, HH, HB⟩
              | succ ky =>
                have hley : y ≤ 59 := by have := HY.out.2; omega
                have hyb : Box y := ⟨by have := HY.out.1; omega, by omega⟩
                have hy1 := HY.out.1
                have hwy := wrap_id (x := y + 1) (by omega) (by omega)
                have HN := Aside0.mk (at_quiet hxb hyb)
                have hplt := atN_lt hxb hyb
                obtain ⟨p, hpe⟩ : ∃ p, p = atN x y := ⟨_, rfl⟩
                rw [← hpe] at HN hplt
                have hpi : (p : Int) < 14641 := by omega
                have hp0 : (0 : Int) ≤ (p : Int) := by omega
                replace hpe := Aside0.mk hpe
                go_upto_region 12 with (fail)
                go_upto_region 13 with (first | (go_at_call 73; (with_reducible refine (HN.out _).mono ?_); rintro e w9 ⟨rfl, ⟨nd, rfl⟩⟩))
                have HH1 := Aside0.mk (HH.out.drewN nd)
                have HB1 : Aside0 (Below w.heap.size w (wr.drewN nd)) := ⟨pw_below_drewN HB.out nd⟩
                clear HH HB
                generalize wr.drewN nd = W2 at *
                obtain ⟨cv, fv⟩ := HH1.out.chip_at hxb hyb
                obtain ⟨tv, gv⟩ := HH1.out.top_at hxb hyb
                rw [← hpe.out] at cv fv tv gv
                have hh0 := hp_le HC.out.legal hn.2 hn.1 x y
                have hh1 := HC.out.nn x y
                obtain ⟨h, hh⟩ : ∃ h, h = hp n u1 x y := ⟨_, rfl⟩
                have hMh : (hpM n u1 x y).getD 0 = h := by rw [hh]; rfl
                rw [hMh] at cv
                rw [← hh] at hh0 hh1
                replace hh := Aside0.mk hh
                by_cases h4 : h < 4
                · go_wp2_with (fail)
                  (try simp only [hwy])
                  go_roundg ky
                  case measure => omega
                  case rel => exact ⟨more, u1, y + 1, rfl, by first | rfl | go_num, ⟨hbY HY.out⟩, ⟨HC.out.small (by rw [← hh.out]; exact h4)⟩, HH1, HB1⟩
                · obtain ⟨k1, k2, k3, k4⟩ := quo4' (h := h) (by omega)
                  obtain ⟨t, ht⟩ : ∃ t, t = h / 4 := ⟨_, rfl⟩
                  rw [← ht] at k1 k2 k3 k4
                  have ht2 : t ≤ 1250 := by omega
                  replace ht := Aside0.mk ht
                  have hwa := wrap_id (x := 4 * t) (by omega) (by omega)
                  have hwb : IntKind.i64.wrap (4 * t) = 4 * t := by rw [i64_w]; exact hwa
                  have hwc := wrap_id (x := h - 4 * t) (by omega) (by omega)
                  have hwd : IntKind.i64.wrap (h - 4 * t) = h - 4 * t := by rw [i64_w]; exact hwc
                  go_upto_region 16 with (fail)
                  obtain ⟨T, hT⟩ : ∃ T, T = fun a b => if a = x ∧ b = y then true else hpT u1 a b := ⟨_, rfl⟩
                  have HH2 : Aside0 (HhAt (W2.setCell ⟨tb, p, none⟩ (.bool true)) w.heap.size cb tb (hpM n u1) T) := ⟨by rw [hT, hpe.out]; exact HH1.out.setT hxb hyb⟩
                  have HB2 : Aside0 (Below w.heap.size w (W2.setCell ⟨tb, p, none⟩ (.bool true))) := ⟨HB1.out.setCell (p := ⟨tb, p, none⟩) ht0 _⟩
                  replace hT := Aside0.mk hT
                  clear HH1 HB1 cv fv tv gv
                  generalize W2.setCell ⟨tb, p, none⟩ (.bool true) = W3 at *
                  obtain ⟨cv, fv⟩ := HH2.out.chip_at hxb hyb
                  rw [← hpe.out] at cv fv
                  rw [hMh] at cv
                  go_wp2_with (fail)
                  (try simp only [hwa, hwc])
                  have HH3 : Aside0 (HhAt (W3.setCell ⟨cb, p, none⟩ (.int .i64 (h - 4 * t))) w.heap.size cb tb (heapM (hpM n u1) x y t 0) T) := ⟨by
                    have e : heapM (hpM n u1) x y t 0 = upd (hpM n u1) x y (h - 4 * t) := by rw [← hMh]; rfl
                    rw [hpe.out, e]
                    exact HH2.out.setC hxb hyb _⟩
                  have HB3 : Aside0 (Below w.heap.size w (W3.setCell ⟨cb, p, none⟩ (.int .i64 (h - 4 * t)))) := ⟨HB2.out.setCell (p := ⟨cb, p, none⟩) hc0 _⟩
                  clear HH2 HB2 cv fv
                  have hbx5 := (HC.out.legal.topple hn.2 k2 (by rw [← hh.out]; exact k3)).1
                  go_loopg [11] 4 (fun q v11 wq => ∃ (j : Nat), v11 = .int .i64 (j : Int) ∧ Aside0 (j + q = 4) ∧ Aside0 (HhAt wq w.heap.size cb tb (heapM (hpM n u1) x y t j) T) ∧ Aside0 (Below w.heap.size w wq))
                  case atStart => exact ⟨0, rfl, ⟨rfl⟩, HH3, HB3⟩
                  case round =>
                    clear HH3 HB3 HN hpe hplt hpi hp0
                    obtain ⟨j, rfl, HJ, HH, HB⟩ := hrel
                    cases gk with
                    | zero =>
                      have hj : j = 4 := hbJ0 HJ.out
                      have hji : ¬ ((j : Int) < 4) := by rw [hj]; decide
                      have HHe := HH
                      rw [hj, hT.out] at HHe
                      go_wp2_with (fail)
                      (try simp only [hwy])
                      go_roundg ky
                      case measure => omega
                      case rel => exact ⟨true, bump u1 x y t, y + 1, rfl, by first | rfl | go_num, ⟨hbY HY.out⟩, ⟨HC.out.topple hn.2 k2 (by rw [← hh.out]; exact k3)⟩, ⟨hh_topple HHe.out HC.out.legal k2⟩, HB⟩
                    | succ q =>
                      have hji : (j : Int) < 4 := hbJi HJ.out
                      have hj4 : j ≤ 4 := hbJl HJ.out
                      have hwj := hbW HJ.out
                      have HM := Aside0.mk (move_quiet (r := (j : Int)) hxb hyb)
                      obtain ⟨pq, hpq⟩ : ∃ pq, pq = mv4 (j : Int) x y := ⟨_, rfl⟩
                      have hpb2 : Box pq.1 ∧ Box pq.2 := by
                        rw [hpq]
                        exact hbMv hbx5
                      rw [← hpq] at HM
                      have HN := Aside0.mk (at_quiet hpb2.1 hpb2.2)
                      have hplt := atN_lt hpb2.1 hpb2.2
                      obtain ⟨p2, hp2⟩ : ∃ p2, p2 = atN pq.1 pq.2 := ⟨_, rfl⟩
                      rw [← hp2] at HN hplt
                      have hpi : (p2 : Int) < 14641 := hbP hplt
                      obtain ⟨g, hgg⟩ : ∃ g, g = (heapM (hpM n u1) x y t j pq.1 pq.2).getD 0 := ⟨_, rfl⟩
                      have hgb : -5000 ≤ g ∧ g ≤ 10000 := by
                        rw [hgg]
                        exact heap_bd4 HC.out.legal hn.2 hn.1 HC.out.nn rfl x y t (hbT k2) ht2 pq.1 pq.2 hj4
                      have hMn : heapM (hpM n u1) x y t (j + 1) = upd (heapM (hpM n u1) x y t j) pq.1 pq.2 (g + t) := by rw [hgg, hpq]; rfl
                      obtain ⟨cv, fv⟩ := HH.out.chip_at hpb2.1 hpb2.2
                      rw [← hp2] at cv fv
                      rw [← hgg] at cv
                      replace hMn := Aside0.mk hMn
                      replace hgg := Aside0.mk hgg
                      replace hp2 := Aside0.mk hp2
                      clear hpq
                      have hga := hbG hgb k2 ht2
                      have hgc : IntKind.i64.wrap (g + t) = g + t := by rw [i64_w]; exact hga
                      have hbx1 := hpb2.1
                      have hbx2 := hpb2.2
                      go_upto_region 22 with (first | (go_at_call 96; (with_reducible refine (HM.out _).mono ?_); rintro e w9 ⟨rfl, ⟨ne, rfl⟩⟩))
                      go_wp2_with (first | (go_at_call 73; (with_reducible refine (HN.out _).mono ?_); rintro e w9 ⟨rfl, ⟨nf, rfl⟩⟩))
                      (try simp only [hwj, hga])
                      go_roundg q
                      case measure => omega
                      case rel => exact ⟨j + 1, by first | rfl | go_num, ⟨hbJ HJ.out⟩, ⟨by rw [hMn.out, hp2.out]; exact (HH.out.drewN _).setC hpb2.1 hpb2.2 _⟩, ⟨(pw_below_drewN HB.out (ne + nf)).setCell (p := ⟨cb, p2, none⟩) hc0 _⟩⟩
end Go.Proofs.Ytjedhjeijpbobaa.G8

/-! ## Hx -/
namespace Go.Proofs.Ytjedhjeijpbobaa.G8
open Go.RowKit Go.Maps Go.Proofs.YtjedhjeijpbobaaW.PrintWords Go.Proofs.YtjedhjeijpbobaaW.PrintLast Go.Proofs.YtjedhjeijpbobaaW.PrintMore
open Go.Proofs.Ytjedhjeijpbobaa.GA
set_option linter.unusedVariables false
set_option linter.unusedSimpArgs false
def rowV (r : List Int) : Array Value := (r.map (Value.int .i64)).toArray
/-- Rows of numbers, in memory. -/
def RowsAt (w : World) (base : Nat) (vc : Value) (rows : List (List Int)) : Prop := ∃ L, w.ownsRow base 29 1 vc rows.length L ∧ ∀ (i : Nat) (r : List Int), rows[i]? = some r → ∃ b, L[i]? = some (.slice (some ⟨b, 0, none⟩) r.length r.length) ∧ base ≤ b ∧ w.heap[b]? = some (.cells (rowV r) 3 (0, 0))
section
variable {w w1 : World} {base : Nat} {vc : Value} {rows : List (List Int)}
theorem RowsAt.nil (w : World) (base : Nat) : RowsAt w base (.slice none 0 0) [] := ⟨[], own_nil _ _ _ _, fun i r h => by simp at h⟩
theorem RowsAt.keep (h : RowsAt w base vc rows) (e : ∀ b, b < w.heap.size → w1.heap[b]? = w.heap[b]?) : RowsAt w1 base vc rows := by
  obtain ⟨L, h1, h2⟩ := h
  refine ⟨L, own_move h1 (fun k hk => e k (own_lt h1 k hk)), fun i r hr => ?_⟩
  obtain ⟨b, q1, q2, q3⟩ := h2 i r hr
  exact ⟨b, q1, q2, (e b (blk_lt q3)).trans q3⟩
theorem RowsAt.drewN (h : RowsAt w base vc rows) (n : Nat) : RowsAt (w.drewN n) base vc rows := h.keep fun _ _ => by simp
theorem RowsAt.alloc (h : RowsAt w base vc rows) (o : Obj) : RowsAt (w.alloc o) base vc rows := h.keep fun b hb => (MapKept.heap_alloc w o).2 b hb
theorem RowsAt.below (h : RowsAt w base vc rows) (hB : Below w.heap.size w w1) : RowsAt w1 base vc rows := h.keep fun b hb => hB.block b hb
theorem RowsAt.form (h : RowsAt w base vc rows) (hp : 0 < rows.length) : ∃ g cap, vc = .slice (some ⟨g, 0, none⟩) rows.length cap ∧ ∀ (i : Nat) (r : List Int), rows[i]? = some r → ∃ b, w.cell? ⟨g, i, none⟩ = some (.slice (some ⟨b, 0, none⟩) r.length r.length) ∧ base ≤ b ∧ w.heap[b]? = some (.cells (rowV r) 3 (0, 0)) := by
  obtain ⟨L, hL, hE⟩ := h
  rcases hL.2 with ⟨_, h2⟩ | ⟨g, cap, cur, h1, _, hh, h3, _, h5, h6⟩
  · omega
  · refine ⟨g, cap, h1, fun i c hc => ?_⟩
    obtain ⟨b, q1, q2, q3⟩ := hE i c hc
    refine ⟨b, (blk_cell hh i).trans ?_, q2, q3⟩
    rw [← h6, List.getElem?_take] at q1
    split at q1
    · simpa using q1
    · cases q1
theorem RowsAt.reads (h : RowsAt w base vc rows) : ∃ A c, vc = .slice A rows.length c ∧ rows.length ≤ c := by
  obtain ⟨L, hL, hE⟩ := h
  rcases hL.2 with ⟨h1, h2⟩ | ⟨g, cap, cur, h1, _, hh, h3, _, h5, h6⟩
  · exact ⟨none, 0, by rw [h1, h2], by omega⟩
  · exact ⟨_, cap, h1, h3⟩
end
theorem HhAt.own {w : World} {base cb tb : Nat} {M : Fld} {T : Int → Int → Bool} (h : HhAt w base cb tb M T) {vc : Value} {n : Nat} {L : List Value} (ho : w.ownsRow base 29 1 vc n L) : some cb ≠ vc.ownBlock ∧ some tb ≠ vc.ownBlock := by
  obtain ⟨cl, c1, _⟩ := h.chips
  obtain ⟨tl, t1, _⟩ := h.tops
  exact ⟨own_ne ho c1 (by decide), own_ne ho t1 (by decide)⟩
theorem HhAt.grown {w w1 : World} {base cb tb : Nat} {M : Fld} {T : Int → Int → Bool} (h : HhAt w base cb tb M T) {vc : Value} {n : Nat} {L : List Value} (ho : w.ownsRow base 29 1 vc n L) (hg : w.grownBy w1 vc.ownBlock) : HhAt w1 base cb tb M T := by
  obtain ⟨k1, k2⟩ := h.own ho
  obtain ⟨cl, c1, c2, c3⟩ := h.chips
  obtain ⟨tl, t1, t2, t3⟩ := h.tops
  exact ⟨h.hc, h.ht, ⟨cl, (hg.block cb (blk_lt c1) k1).trans c1, c2, c3⟩, ⟨tl, (hg.block tb (blk_lt t1) k2).trans t1, t2, t3⟩⟩
theorem HhAt.alloc {w : World} {base cb tb : Nat} {M : Fld} {T : Int → Int → Bool} (h : HhAt w base cb tb M T) (o : Obj) : HhAt (w.alloc o) base cb tb M T := h.keep fun b hb => (MapKept.heap_alloc w o).2 b hb
theorem wpList_appR {ops : Array Oper} {rest : List Oper} {o : Oper} {a : Act} {Q : Exit → Act → World → Prop} {W : World} {base cb tb : Nat} {M : Fld} {T : Int → Int → Bool} {vc : Value} {rows : List (List Int)} {r : List Int} {B C : Nat} (hgd : o.guard = none) (sv xv : Operand) (ho : o.op = .call { callee := .builtin .append, args := #[sv, xv], argTypes := #[40, 40] })
    (hs : a.eval sv = vc) (hx : a.eval xv = .slice (some ⟨C, 0, none⟩) 1 1) (hh : HhAt W base cb tb M T) (h : RowsAt W base vc rows) (hbase : base ≤ W.heap.size) (hl : rows.length ≤ 1000000) (hB : W.heap[B]? = some (.cells (rowV r) 3 (0, 0))) (hb : base ≤ B) (hC : W.heap[C]? = some (.cells #[.slice (some ⟨B, 0, none⟩) r.length r.length] 29 (0, 0)))
    (k : ∀ g1 cap w1, RowsAt w1 base (.slice (some ⟨g1, 0, none⟩) (rows.length + 1) cap) (rows ++ [r]) → HhAt w1 base cb tb M T → Below base W w1 →
      wpList Try.prog ops Q rest (a.put o.dst (.slice (some ⟨g1, 0, none⟩) (rows.length + 1) cap)) w1) : wpList Try.prog ops Q (o :: rest) a W := by
  obtain ⟨i0, hi0, hz⟩ := Option.map_eq_some_iff.1 info29
  simp only [Prod.mk.injEq] at hz
  obtain ⟨hz0, hz1, hz2⟩ := hz
  obtain ⟨L, hL, hE⟩ := h
  refine wpList_append_lies (w := W) hgd sv xv 40 ho base 29 i0 (.slice none 0 0) 1 24 Try.underlying40 hi0 hz0 hz1 hz2 rfl (by omega) vc rows.length L hs hL ⟨C, 0, none⟩ 1 1 [.slice (some ⟨B, 0, none⟩) r.length r.length] hx rfl (World.news_of_block hC) (by intro u hu; simp at hu; subst hu; rfl) (by omega) (by unfold maxLen; omega) (by omega) hbase _ rfl ?_
  intro g1 cap w1 hown hg hat hlt
  have hel : ∀ (b : Nat) (r : List Int), W.heap[b]? = some (Obj.cells (rowV r) 3 (0, 0)) → w1.heap[b]? = some (Obj.cells (rowV r) 3 (0, 0)) := fun b r hb => (hg.block b (blk_lt hb) (own_ne hL hb (by decide))).trans hb
  refine k g1 cap w1 ⟨L ++ [.slice (some ⟨B, 0, none⟩) r.length r.length], by rw [List.length_append, List.length_singleton]; exact hown, ?_⟩ (hh.grown hL hg) ((Below.refl base W).grown hg hbase (own_base hL))
  have hLl : L.length = rows.length := by have := hL.1; omega
  intro i c hc
  rcases Nat.lt_trichotomy i rows.length with hi | hi | hi
  · rw [List.getElem?_append_left hi] at hc
    obtain ⟨b, p1, p2, p3⟩ := hE i c hc
    exact ⟨b, by rw [List.getElem?_append_left (by omega)]; exact p1, p2, hel b _ p3⟩
  · subst hi
    rw [List.getElem?_append_right (Nat.le_refl _)] at hc
    simp at hc
    subst hc
    exact ⟨B, by rw [List.getElem?_append_right (by omega), hLl]; simp, hb, hel B _ hB⟩
  · rw [List.getElem?_append_right (by omega)] at hc
    rw [List.getElem?_eq_none (by simp; omega)] at hc
    cases hc
def lexLt (c d : Int × Int) : Prop := c.1 < d.1 ∨ (c.1 = d.1 ∧ c.2 < d.2)
def hot (n : Int) (u : Odo) (a b : Int) : Prop := 0 < hp n u a b ∨ 0 < u a b
/-- The cells listed so far: those ahead of (x, y), by rows. -/
structure HList (n : Int) (u : Odo) (x y : Int) (cs : List (Int × Int)) : Prop where
  sorted : cs.Pairwise lexLt
  is : ∀ a b, (a, b) ∈ cs ↔ (Box a ∧ Box b ∧ (a < x ∨ (a = x ∧ b < y))) ∧ hot n u a b
  few : (cs.length : Int) ≤ (x + 60) * 121 + (y + 60)
section
variable {n : Int} {u : Odo} {x y : Int} {cs : List (Int × Int)}
theorem HList.start (n : Int) (u : Odo) : HList n u (-60) (-60) [] := ⟨List.Pairwise.nil, fun a b => by unfold Box; simp; omega, by decide⟩
theorem HList.row (h : HList n u x 61 cs) : HList n u (x + 1) (-60) cs := ⟨h.sorted, fun a b => by rw [h.is]; unfold Box; constructor <;> (rintro ⟨⟨h1, h2, h3⟩, h4⟩; exact ⟨⟨h1, h2, by omega⟩, h4⟩), by have := h.few; omega⟩
theorem HList.cold (h : HList n u x y cs) (hc : ¬ hot n u x y) : HList n u x (y + 1) cs := ⟨h.sorted, fun a b => by
  rw [h.is]
  constructor
  · rintro ⟨⟨h1, h2, h3⟩, h4⟩; exact ⟨⟨h1, h2, by omega⟩, h4⟩
  · rintro ⟨⟨h1, h2, h3⟩, h4⟩
    refine ⟨⟨h1, h2, ?_⟩, h4⟩
    by_cases e : a = x ∧ b = y
    · rw [e.1, e.2] at h4; exact absurd h4 hc
    · omega, by have := h.few; omega⟩
theorem HList.hot (h : HList n u x y cs) (hx : Box x) (hy : Box y) (hc : G8.hot n u x y) : HList n u x (y + 1) (cs ++ [(x, y)]) := by
  refine ⟨?_, fun a b => ?_, by rw [List.length_append, List.length_singleton]; have := h.few; omega⟩
  · rw [List.pairwise_append]
    refine ⟨h.sorted, List.pairwise_singleton _ _, fun c hc d hd => ?_⟩
    simp at hd
    subst hd
    exact ((h.is c.1 c.2).1 hc).1.2.2
  · simp only [List.mem_append, List.mem_singleton, Prod.mk.injEq]
    rw [h.is]
    constructor
    · rintro (⟨⟨h1, h2, h3⟩, h4⟩ | ⟨rfl, rfl⟩)
      · exact ⟨⟨h1, h2, by omega⟩, h4⟩
      · exact ⟨⟨hx, hy, by omega⟩, hc⟩
    · rintro ⟨⟨h1, h2, h3⟩, h4⟩
      by_cases e : a = x ∧ b = y
      · exact .inr e
      · exact .inl ⟨⟨h1, h2, by omega⟩, h4⟩
theorem HList.finish (h : HList n u 61 (-60) cs) (a b : Int) : (a, b) ∈ cs ↔ Box a ∧ Box b ∧ G8.hot n u a b := by
  rw [h.is]
  constructor
  · rintro ⟨⟨h1, h2, h3⟩, h4⟩; exact ⟨h1, h2, h4⟩
  · rintro ⟨h1, h2, h4⟩; exact ⟨⟨h1, h2, by unfold Box at *; omega⟩, h4⟩
end
def hrows (n : Int) (u : Odo) (cs : List (Int × Int)) : List (List Int) := cs.map fun c => [c.1, c.2, hp n u c.1 c.2]
theorem hot_no {n : Int} {u : Odo} {x y : Int} (h1 : ¬ hp n u x y > 0) (h2 : hpT u x y = false) : ¬ hot n u x y := by
  unfold hpT at h2
  have h3 := of_decide_eq_false h2
  unfold hot
  omega
theorem hot_top {n : Int} {u : Odo} {x y : Int} (h2 : hpT u x y = true) : hot n u x y := .inr (of_decide_eq_true h2)
theorem hrows_app (n : Int) (u : Odo) (cs : List (Int × Int)) (x y : Int) : hrows n u (cs ++ [(x, y)]) = hrows n u cs ++ [[x, y, hp n u x y]] := by unfold hrows; simp
theorem hrows_len (n : Int) (u : Odo) (cs : List (Int × Int)) : (hrows n u cs).length = cs.length := by unfold hrows; simp
def HcOut (w : World) (n : Int) (e : Ending) (w' : World) : Prop := ∃ vc cs u, e = .returned (.tuple #[vc, .bool true]) ∧ Below w.heap.size w w' ∧ Aside0 (RowsAt w' w.heap.size vc (hrows n u cs)) ∧ Aside0 (Legal n u) ∧ Aside0 (∀ a b, 0 ≤ hp n u a b ∧ hp n u a b ≤ 3) ∧ Aside0 (HList n u 61 (-60) cs)
theorem HList.many {n : Int} {u : Odo} {x y : Int} {cs : List (Int × Int)} (h : HList n u x y cs) (hx : x ≤ 60) (hy : y ≤ 60) : (hrows n u cs).length ≤ 1000000 := by
  rw [hrows_len]
  have := h.few
  omega
theorem in_bad {n : Int} (h : ¬ (0 ≤ n ∧ n ≤ 250)) : spec_l1In.f n 0 250 = some false := by
  unfold spec_l1In.f
  by_cases q : n ≥ 0
  · rw [if_pos q, decide_eq_false (by omega)]
  · rw [if_neg q]
theorem in_good {n : Int} (h : 0 ≤ n ∧ n ≤ 250) : spec_l1In.f n 0 250 = some true := by
  unfold spec_l1In.f
  rw [if_pos h.1, decide_eq_true h.2]
set_option maxHeartbeats 4000000 in
set_option maxRecDepth 100000 in
theorem heapCells_bad (n : Int) (hn : ¬ (0 ≤ n ∧ n ≤ 250)) (w : World) : Calls Try.prog 61 #[.int .i64 n] w fun e w' => e = .returned (.tuple #[.slice none 0 0, .bool false]) ∧ Below w.heap.size w w' := by
  have HA := Aside0.mk (fun W => spec_l1In.calls n 0 250 false W (in_bad hn))
  go_enter Try.func61, Try.ntmps61
  go_wp2_with (first | (go_at_call 72; (with_reducible refine (HA.out _).mono ?_); rintro e w1 ⟨rfl, ⟨nd, rfl⟩⟩))
  go_ret2
  exact ⟨rfl, by repeat (first | exact Below.refl _ _ | apply pw_below_drewN)⟩
set_option maxHeartbeats 4000000 in
set_option maxRecDepth 100000 in
theorem heapCells_calls (n : Int) (hn : 0 ≤ n ∧ n ≤ 250) (w : World) : Calls Try.prog 61 #[.int .i64 n] w (HcOut w n) := by
  have HA := Aside0.mk (fun W => spec_l1In.calls n 0 250 true W (in_good hn))
  have HG := Aside0.mk (fun W => gwHeap_calls n hn W)
  go_enter Try.func61, Try.ntmps61
  go_upto_region 3 with (first | (go_at_call 72; (with_reducible refine (HA.out _).mono ?_); rintro e w1 ⟨rfl, ⟨nd, rfl⟩⟩))
  go_upto_region 4 with (first | (go_at_call 95; (with_reducible refine (HG.out _).mono ?_); rintro e w1 ⟨cb, tb, u, rfl, hB, hH, hL, hS⟩))
  have HB0 := Aside0.mk (below_then (pw_below_drewN (Below.refl w.heap.size w) nd) (by simp) hB)
  have HH0 : Aside0 (HhAt w1 w.heap.size cb tb (hpM n u) (hpT u)) := ⟨by simpa using hH.out⟩
  have HL := hL
  have HS := hS
  have HL0 := Aside0.mk (HList.start n u)
  have HR0 := Aside0.mk (RowsAt.nil w1 w.heap.size)
  clear hB hH hL hS HA HG
  go_upto_region 5 with (fail)
  go_wp2_with (fail)
  go_loopg [6, 7] 121 (fun k v6 v7 wq => ∃ (vc : Value) (cs : List (Int × Int)) (x : Int), v6 = vc ∧ v7 = .int .i64 x ∧ Aside0 (-60 ≤ x ∧ x + (k : Int) = 61) ∧ Aside0 (HList n u x (-60) cs) ∧ Aside0 (HhAt wq w.heap.size cb tb (hpM n u) (hpT u)) ∧ Aside0 (RowsAt wq w.heap.size vc (hrows n u cs)) ∧ Aside0 (Below w.heap.size w wq))
  case atStart => exact ⟨_, [], -60, rfl, rfl, ⟨by decide⟩, HL0, HH0, HR0, HB0⟩
  case round =>
    clear HL0 HH0 HR0 HB0
    obtain ⟨vc, cs, x, hvc, rfl, HX, HC, HH, HR, HB⟩ := hrel
    replace hvc := hvc.symm
    subst hvc
    cases gk with
    | zero =>
      have hx60 : x = 61 := by have := HX.out.2; omega
      subst hx60
      have hle : ¬ ((61 : Int) ≤ 60) := by omega
      go_wp2_with (fail)
      refine bodyPost_ret (v := .tuple #[vc, .bool true]) (by simp [results, Try.results61, go_sem]) rfl ?_
      exact ⟨vc, cs, u, rfl, HB.out, HR, HL, HS, HC⟩
    | succ kx =>
      have hle : x ≤ 60 := by have := HX.out.2; omega
      have hx1 := HX.out.1
      have hxb : Box x := ⟨hx1, hle⟩
      have hwx := wrap_id (x := x + 1) (by omega) (by omega)
      go_upto_region 8 with (fail)
      go_wp2_with (fail)
      go_loopg [6, 8] 121 (fun k v6 v8 wq => ∃ (vc : Value) (cs : List (Int × Int)) (y : Int), v6 = vc ∧ v8 = .int .i64 y ∧ Aside0 (-60 ≤ y ∧ y + (k : Int) = 61) ∧ Aside0 (HList n u x y cs) ∧ Aside0 (HhAt wq w.heap.size cb tb (hpM n u) (hpT u)) ∧ Aside0 (RowsAt wq w.heap.size vc (hrows n u cs)) ∧ Aside0 (Below w.heap.size w wq))
      case atStart => exact ⟨_, cs, -60, rfl, rfl, ⟨by decide⟩, HC, HH, HR, HB⟩
      case round =>
        clear HC HH HR HB
        obtain ⟨vc, cs, y, hvc, rfl, HY, HC, HH, HR, HB⟩ := hrel
        replace hvc := hvc.symm
        subst hvc
        cases gk with
        | zero =>
          have hy60 : y = 61 := by have := HY.out.2; omega
          subst hy60
          have hley : ¬ ((61 : Int) ≤ 60) := by omega
          go_wp2_with (fail)
          (try simp only [hwx])
          go_roundg kx
          case measure => omega
          case rel => exact ⟨vc, cs, x + 1, rfl, by first | rfl | go_num, ⟨by have := HX.out; omega⟩, ⟨HC.out.row⟩, HH, HR, HB⟩
        | succ ky =>
          have hley : y ≤ 60 := by have := HY.out.2; omega
          have hy1 := HY.out.1
          have hyb : Box y := ⟨hy1, hley⟩
          have hwy := wrap_id (x := y + 1) (by omega) (by omega)
          have HN := Aside0.mk (at_quiet hxb hyb)
          have hplt := atN_lt hxb hyb
          obtain ⟨p, hpe⟩ : ∃ p, p = atN x y := ⟨_, rfl⟩
          rw [← hpe] at HN hplt
          have hpi : (p : Int) < 14641 := by omega
          have hp0 : (0 : Int) ≤ (p : Int) := by omega
          replace hpe := Aside0.mk hpe
          go_upto_region 11 with (fail)
          go_upto_region 12 with (first | (go_at_call 73; (with_reducible refine (HN.out _).mono ?_); rintro e w9 ⟨rfl, ⟨nd, rfl⟩⟩))
          have HH1 := Aside0.mk (HH.out.drewN nd)
          have HR1 := Aside0.mk (HR.out.drewN nd)
          have HB1 : Aside0 (Below w.heap.size w (wr.drewN nd)) := ⟨pw_below_drewN HB.out nd⟩
          clear HH HB HR
          generalize wr.drewN nd = W2 at *
          obtain ⟨cv, fv⟩ := HH1.out.chip_at hxb hyb
          obtain ⟨tv, gv⟩ := HH1.out.top_at hxb hyb
          rw [← hpe.out] at cv fv tv gv
          obtain ⟨h, hh⟩ : ∃ h, h = hp n u x y := ⟨_, rfl⟩
          have hMh : (hpM n u x y).getD 0 = h := by rw [hh]; rfl
          rw [hMh] at cv
          obtain ⟨b, hb⟩ : ∃ b, b = hpT u x y := ⟨_, rfl⟩
          rw [← hb] at tv
          replace hh := Aside0.mk hh
          replace hb := Aside0.mk hb
          by_cases h4 : h > 0
          · go_upto_region 13 with (fail)
            have HHo : Aside0 (hot n u x y) := ⟨.inl (by rw [← hh.out]; exact h4)⟩
            have hs2 := HB1.out.size
            have HHb : Aside0 (HhAt ((W2.alloc (.cells #[.int .i64 x, .int .i64 y, .int .i64 h] 3)).alloc (.cells #[.slice (some ⟨W2.heap.size, 0, none⟩) 3 3] 29)) w.heap.size cb tb (hpM n u) (hpT u)) := ⟨(HH1.out.alloc _).alloc _⟩
            have HRb : Aside0 (RowsAt ((W2.alloc (.cells #[.int .i64 x, .int .i64 y, .int .i64 h] 3)).alloc (.cells #[.slice (some ⟨W2.heap.size, 0, none⟩) 3 3] 29)) w.heap.size vc (hrows n u cs)) := ⟨(HR1.out.alloc _).alloc _⟩
            have HBb : Aside0 (Below w.heap.size w ((W2.alloc (.cells #[.int .i64 x, .int .i64 y, .int .i64 h] 3)).alloc (.cells #[.slice (some ⟨W2.heap.size, 0, none⟩) 3 3] 29))) := ⟨(HB1.out.alloc hs2 _).alloc (by simp; omega) _⟩
            have hcl := HC.out.many hle hley
            go_wp2_with (first | ((with_reducible refine gate_builtin (b := .append) (xs := #[.tmp 40, .tmp 48]) rfl ?_); refine wpList_appR (r := [x, y, h]) rfl (.tmp 40) (.tmp 48) rfl rfl rfl HHb.out HRb.out HBb.out.size hcl (two_new W2 _ _) hs2 (two_new1 W2 _ _) ?_; intro g1 cap1 w11 hR hH hB; have HR11 := Aside0.mk hR; have HH11 := Aside0.mk hH; have HB11 := Aside0.mk (HBb.out.trans hB); clear hR hH hB))
            (try simp only [hwy])
            go_roundg ky
            case measure => omega
            case rel => exact ⟨_, cs ++ [(x, y)], y + 1, rfl, by first | rfl | go_num, ⟨by have := HY.out; omega⟩, ⟨HC.out.hot hxb hyb HHo.out⟩, HH11, ⟨by rw [hrows_app, ← hh.out]; exact HR11.out⟩, HB11⟩
          · cases b with
            | true =>
              go_upto_region 13 with (fail)
              have HHo : Aside0 (hot n u x y) := ⟨hot_top hb.out.symm⟩
              have hs2 := HB1.out.size
              have HHb : Aside0 (HhAt ((W2.alloc (.cells #[.int .i64 x, .int .i64 y, .int .i64 h] 3)).alloc (.cells #[.slice (some ⟨W2.heap.size, 0, none⟩) 3 3] 29)) w.heap.size cb tb (hpM n u) (hpT u)) := ⟨(HH1.out.alloc _).alloc _⟩
              have HRb : Aside0 (RowsAt ((W2.alloc (.cells #[.int .i64 x, .int .i64 y, .int .i64 h] 3)).alloc (.cells #[.slice (some ⟨W2.heap.size, 0, none⟩) 3 3] 29)) w.heap.size vc (hrows n u cs)) := ⟨(HR1.out.alloc _).alloc _⟩
              have HBb : Aside0 (Below w.heap.size w ((W2.alloc (.cells #[.int .i64 x, .int .i64 y, .int .i64 h] 3)).alloc (.cells #[.slice (some ⟨W2.heap.size, 0, none⟩) 3 3] 29))) := ⟨(HB1.out.alloc hs2 _).alloc (by simp; omega) _⟩
              have hcl := HC.out.many hle hley
              go_wp2_with (first | ((with_reducible refine gate_builtin (b := .append) (xs := #[.tmp 40, .tmp 48]) rfl ?_); refine wpList_appR (r := [x, y, h]) rfl (.tmp 40) (.tmp 48) rfl rfl rfl HHb.out HRb.out HBb.out.size hcl (two_new W2 _ _) hs2 (two_new1 W2 _ _) ?_; intro g1 cap1 w11 hR hH hB; have HR11 := Aside0.mk hR; have HH11 := Aside0.mk hH; have HB11 := Aside0.mk (HBb.out.trans hB); clear hR hH hB))
              (try simp only [hwy])
              go_roundg ky
              case measure => omega
              case rel => exact ⟨_, cs ++ [(x, y)], y + 1, rfl, by first | rfl | go_num, ⟨by have := HY.out; omega⟩, ⟨HC.out.hot hxb hyb HHo.out⟩, HH11, ⟨by rw [hrows_app, ← hh.out]; exact HR11.out⟩, HB11⟩
            | false =>
              go_wp2_with (fail)
              (try simp only [hwy])
              go_roundg ky
              case measure => omega
              case rel => exact ⟨vc, cs, y + 1, rfl, by first | rfl | go_num, ⟨by have := HY.out; omega⟩, ⟨HC.out.cold (hot_no (by rw [← hh.out]; omega) hb.out.symm)⟩, HH1, HR1, HB1⟩
end Go.Proofs.Ytjedhjeijpbobaa.G8
