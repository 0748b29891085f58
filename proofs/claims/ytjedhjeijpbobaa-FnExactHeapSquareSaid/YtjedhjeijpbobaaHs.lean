/-
  The program's heap, as plain maps: what one topple does to the map of chips and to the list.
-/
import Derived.Test.YtjedhjeijpbobaaHq
import Derived.Test.YtjedhjeijpbobaaMa
namespace Go.Proofs.Ytjedhjeijpbobaa.G8
set_option linter.unusedVariables false
set_option linter.unusedSimpArgs false
structure HInv (n : Int) (u : Odo) (M : Fld) : Prop where
  legal : Legal n u
  val : ∀ a b, (M a b).getD 0 = hp n u a b
  has : ∀ a b, (M a b).isSome = true ↔ key n u a b
  nn : ∀ a b, 0 ≤ hp n u a b
def addC (M : Fld) (x y t : Int) : Fld := upd M x y ((M x y).getD 0 + t)
def heapM (M : Fld) (x y t : Int) : Nat → Fld
  | 0 => upd M x y ((M x y).getD 0 - 4 * t)
  | j + 1 => addC (heapM M x y t j) (mv4 (j : Int) x y).1 (mv4 (j : Int) x y).2 t
theorem upd_get (M : Fld) (x y r a b : Int) : (upd M x y r a b).getD 0 = if a = x ∧ b = y then r else (M a b).getD 0 := by unfold upd; split <;> rfl
theorem upd_some (M : Fld) (x y r a b : Int) : (upd M x y r a b).isSome = true ↔ (M a b).isSome = true ∨ (a = x ∧ b = y) := by
  unfold upd
  by_cases e : a = x ∧ b = y
  · rw [if_pos e]; simp [e]
  · rw [if_neg e]; simp [e]
theorem addC_get (M : Fld) (x y t a b : Int) : (addC M x y t a b).getD 0 = (M a b).getD 0 + if a = x ∧ b = y then t else 0 := by
  unfold addC
  rw [upd_get]
  by_cases e : a = x ∧ b = y
  · rw [if_pos e, if_pos e, e.1, e.2]
  · rw [if_neg e, if_neg e]; omega
theorem mv4s (x y : Int) : mv4 ((0 : Nat) : Int) x y = (x + 1, y) ∧ mv4 ((1 : Nat) : Int) x y = (x, y + 1) ∧ mv4 ((2 : Nat) : Int) x y = (x - 1, y) ∧ mv4 ((3 : Nat) : Int) x y = (x, y - 1) := ⟨rfl, rfl, rfl, rfl⟩
theorem heapM_get (M : Fld) (x y t a b : Int) : (heapM M x y t 4 a b).getD 0 = (M a b).getD 0 + (if a = x ∧ b = y then -(4 * t) else 0) + (if a = x + 1 ∧ b = y then t else 0) + (if a = x ∧ b = y + 1 then t else 0) + (if a = x - 1 ∧ b = y then t else 0) + (if a = x ∧ b = y - 1 then t else 0) := by
  obtain ⟨e0, e1, e2, e3⟩ := mv4s x y
  simp only [heapM]
  rw [e0, e1, e2, e3, addC_get, addC_get, addC_get, addC_get, upd_get]
  simp only
  by_cases e : a = x ∧ b = y
  · rw [if_pos e, if_pos e, e.1, e.2]; omega
  · rw [if_neg e, if_neg e]; omega
theorem heapM_some (M : Fld) (x y t a b : Int) : (heapM M x y t 4 a b).isSome = true ↔ (M a b).isSome = true ∨ (a = x ∧ b = y) ∨ (a = x + 1 ∧ b = y) ∨ (a = x ∧ b = y + 1) ∨ (a = x - 1 ∧ b = y) ∨ (a = x ∧ b = y - 1) := by
  obtain ⟨e0, e1, e2, e3⟩ := mv4s x y
  simp only [heapM, addC]
  rw [e0, e1, e2, e3, upd_some, upd_some, upd_some, upd_some, upd_some]
  simp only [or_assoc]
theorem nb_bump (u : Odo) (x y t a b : Int) : nb (bump u x y t) a b = nb u a b + (if a = x + 1 ∧ b = y then t else 0) + (if a = x ∧ b = y + 1 then t else 0) + (if a = x - 1 ∧ b = y then t else 0) + (if a = x ∧ b = y - 1 then t else 0) := by
  have e : ∀ p q, bump u x y t p q = u p q + (if p = x ∧ q = y then t else 0) := fun p q => by unfold bump; split <;> omega
  unfold nb
  simp only [e]
  have k1 : (if a + 1 = x ∧ b = y then t else 0) = if a = x - 1 ∧ b = y then t else 0 := by split <;> split <;> omega
  have k2 : (if a - 1 = x ∧ b = y then t else 0) = if a = x + 1 ∧ b = y then t else 0 := by split <;> split <;> omega
  have k3 : (if a = x ∧ b + 1 = y then t else 0) = if a = x ∧ b = y - 1 then t else 0 := by split <;> split <;> omega
  have k4 : (if a = x ∧ b - 1 = y then t else 0) = if a = x ∧ b = y + 1 then t else 0 := by split <;> split <;> omega
  rw [k1, k2, k3, k4]
  omega
theorem hp_nb (n : Int) (u : Odo) (x y t a b : Int) : hp n (bump u x y t) a b = hp n u a b + (if a = x ∧ b = y then -(4 * t) else 0) + (if a = x + 1 ∧ b = y then t else 0) + (if a = x ∧ b = y + 1 then t else 0) + (if a = x - 1 ∧ b = y then t else 0) + (if a = x ∧ b = y - 1 then t else 0) := by
  have e : bump u x y t a b = u a b + (if a = x ∧ b = y then t else 0) := by unfold bump; split <;> omega
  unfold hp
  rw [nb_bump, e]
  have k : (if a = x ∧ b = y then -(4 * t) else 0) = -(4 * (if a = x ∧ b = y then t else 0)) := by split <;> omega
  rw [k]
  omega
theorem HInv.topple {n : Int} {u : Odo} {M : Fld} (h : HInv n u M) (hn0 : 0 ≤ n) (hn : n ≤ 250) {x y t : Int} (ht : 1 ≤ t) (h4 : 4 * t ≤ hp n u x y) : HInv n (bump u x y t) (heapM M x y t 4) := by
  refine ⟨(h.legal.topple hn ht h4).2.1, fun a b => ?_, fun a b => ?_, fun a b => ?_⟩
  · rw [heapM_get, h.val, hp_nb]
  · rw [heapM_some, h.has]
    have h0 := nb_pos h.legal a b
    have hk : a = x ∧ b = y → key n u a b := fun e => by
      rw [e.1, e.2]
      exact (key_iff h.legal hn0 h.nn x y).2 (.inl (by omega))
    unfold key at *
    rw [nb_bump]
    constructor
    · rintro ((k | k) | k | k | k | k | k)
      · exact .inl k
      · right; repeat' split
        all_goals omega
      · rcases hk k with q | q
        · exact .inl q
        · right; repeat' split
          all_goals omega
      all_goals (right; repeat' split)
      all_goals omega
    · rintro (k | k)
      · exact .inl (.inl k)
      · by_cases q1 : a = x + 1 ∧ b = y
        · exact .inr (.inr (.inl q1))
        · by_cases q2 : a = x ∧ b = y + 1
          · exact .inr (.inr (.inr (.inl q2)))
          · by_cases q3 : a = x - 1 ∧ b = y
            · exact .inr (.inr (.inr (.inr (.inl q3))))
            · by_cases q4 : a = x ∧ b = y - 1
              · exact .inr (.inr (.inr (.inr (.inr q4))))
              · rw [if_neg q1, if_neg q2, if_neg q3, if_neg q4] at k
                exact .inl (.inr (by omega))
  · have h1 := h.nn a b
    rw [hp_nb]
    by_cases e : a = x ∧ b = y
    · rw [e.1, e.2] at *
      rw [if_pos ⟨rfl, rfl⟩]
      repeat' split
      all_goals omega
    · rw [if_neg e]
      repeat' split
      all_goals omega
/-- What is not stable is on the list; all on it is near the middle. -/
structure Listed (n : Int) (u : Odo) (cs : List (Int × Int)) : Prop where
  all : ∀ a b, 4 ≤ hp n u a b → (a, b) ∈ cs
  near : ∀ c ∈ cs, -6 ≤ c.1 ∧ c.1 ≤ 6 ∧ -6 ≤ c.2 ∧ c.2 ≤ 6
def nbrs (x y : Int) (j : Nat) : List (Int × Int) := (List.range j).map fun (i : Nat) => mv4 (i : Int) x y
theorem nbrs4 (x y : Int) : nbrs x y 4 = [(x + 1, y), (x, y + 1), (x - 1, y), (x, y - 1)] := rfl
theorem nbrs_succ (x y : Int) (j : Nat) : nbrs x y (j + 1) = nbrs x y j ++ [mv4 (j : Int) x y] := by unfold nbrs; rw [List.range_succ, List.map_append]; rfl
theorem nbrs_len (x y : Int) (j : Nat) : (nbrs x y j).length = j := by simp [nbrs]
theorem Listed.pop {n : Int} {u : Odo} {cs : List (Int × Int)} {c : Int × Int} (h : Listed n u (cs ++ [c])) (h4 : ¬ 4 ≤ hp n u c.1 c.2) : Listed n u cs := by
  refine ⟨fun a b hab => ?_, fun d hd => h.near d (by simp [hd])⟩
  have := h.all a b hab
  simp only [List.mem_append, List.mem_singleton] at this
  rcases this with k | k
  · exact k
  · subst k; exact absurd hab h4
theorem Listed.topple {n : Int} {u : Odo} {cs : List (Int × Int)} {x y t : Int} (h : Listed n u cs) (hb : -5 ≤ x ∧ x ≤ 5 ∧ -5 ≤ y ∧ y ≤ 5) (ht : 1 ≤ t) (h8 : hp n u x y - 4 * t < 4) : Listed n (bump u x y t) (cs ++ nbrs x y 4) := by
  rw [nbrs4]
  refine ⟨fun a b hab => ?_, fun d hd => ?_⟩
  · rw [hp_bump] at hab
    simp only [List.mem_append, List.mem_cons, List.not_mem_nil, or_false, Prod.mk.injEq]
    split at hab
    · rename_i e
      rw [e.1, e.2] at hab
      omega
    · split at hab
      · rename_i _ e
        right
        omega
      · exact .inl (h.all a b hab)
  · simp only [List.mem_append, List.mem_cons, List.not_mem_nil, or_false] at hd
    rcases hd with hd | rfl | rfl | rfl | rfl
    · exact h.near d hd
    all_goals (simp only; omega)
theorem hp_zero (n a b : Int) : hp n (fun _ _ => 0) a b = if a = 0 ∧ b = 0 then n else 0 := by
  unfold hp nb
  simp
theorem HInv.start {n : Int} (hn : 1 ≤ n) : HInv n (fun _ _ => 0) (upd (fun _ _ => none) 0 0 n) := by
  refine ⟨Legal.zero n, fun a b => ?_, fun a b => ?_, fun a b => ?_⟩
  · rw [upd_get, hp_zero]; rfl
  · rw [upd_some]
    unfold key nb
    simp only [Option.isSome_none, Bool.false_eq_true, false_or]
    constructor
    · intro k; exact .inl ⟨k.1, k.2, by omega⟩
    · rintro (k | k)
      · exact ⟨k.1, k.2.1⟩
      · omega
  · rw [hp_zero]; split <;> omega
theorem Listed.start (n : Int) : Listed n (fun _ _ => 0) [(0, 0)] := by
  refine ⟨fun a b h => ?_, fun c hc => ?_⟩
  · rw [hp_zero] at h
    split at h
    · rename_i e; simp [e]
    · omega
  · simp at hc; subst hc; decide
theorem hp_le {n : Int} {u : Odo} (h : Legal n u) (hn : n ≤ 250) (hn0 : 0 ≤ n) (a b : Int) : hp n u a b ≤ 5000 := by
  have hb : ∀ a b, u a b ≤ 1000 := fun a b => by
    have h1 := h.le hn a b
    have h2 : v250 a b ≤ 1000 := by
      by_cases q : -5 ≤ a ∧ a ≤ 5 ∧ -5 ≤ b ∧ b ≤ 5
      · have hv : (List.range 11).all (fun i => (List.range 11).all fun j => decide (v250 ((i : Int) - 5) ((j : Int) - 5) ≤ 1000)) = true := by decide +kernel
        have h3 := List.all_eq_true.1 hv (a + 5).toNat (by rw [List.mem_range]; omega)
        have h4 := List.all_eq_true.1 h3 (b + 5).toNat (by rw [List.mem_range]; omega)
        rw [decide_eq_true_eq] at h4
        have e1 : (((a + 5).toNat : Nat) : Int) - 5 = a := by omega
        have e2 : (((b + 5).toNat : Nat) : Int) - 5 = b := by omega
        rwa [e1, e2] at h4
      · rw [v250_out q]; omega
    omega
  have h1 := hb (a + 1) b
  have h2 := hb (a - 1) b
  have h3 := hb a (b + 1)
  have h4 := hb a (b - 1)
  have h5 := h.pos a b
  unfold hp nb
  split <;> omega
end Go.Proofs.Ytjedhjeijpbobaa.G8
