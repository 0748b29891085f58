/-
  Texts of the seat, merged (part 2).
-/
import Derived.WideKeyEntry
import Derived.Maps.RangeWalk
import Derived.Test.YtjedhjeijpbobaaProg
import Derived.Below
import Derived.Deep.Draws
import Derived.Deep.AppendLies
import Derived.Maps.AppendAt
import Derived.OwnWalk
import Derived.Laws.BytesArg
import Derived.Laws.MakeOwn
import Derived.Laws.OwnMore
import Derived.Deep.OwnRows
import Derived.Tactics
import Derived.Lib.ConvBytes
import Derived.Laws.Slices
import Derived.WalkKit
import Derived.KernelRfl
import Derived.RowKit3
import Derived.Deep.LoopGhost
import Derived.Deep.QuietTactic
import Derived.BigQuiet
import Derived.WideLaws
import Derived.Deep.DeepCutAuto
import Derived.Deep.CutBlock
import Derived.Deep.RegionHeld3
import Derived.Laws.Rows
import Derived.Lib.AppendStr
import Derived.ArgAppend
import Derived.Laws.IdiomCopy
import Derived.OrdersHeld
import Derived.Laws.BitsLemmas
import Derived.RowKit
import Derived.Test.YtjedhjeijpbobaaX48WWords
import Derived.Test.YtjedhjeijpbobaaX48WLast
import Derived.Test.YtjedhjeijpbobaaX48WTab
import Derived.Test.YtjedhjeijpbobaaX48WFour
import Derived.Test.YtjedhjeijpbobaaX48WQPut
import Derived.Test.YtjedhjeijpbobaaX48WApart
import Derived.Test.YtjedhjeijpbobaaX48WArr
import Derived.Test.YtjedhjeijpbobaaX48WZeros
import Derived.Test.YtjedhjeijpbobaaX48WFoot
import Derived.Test.YtjedhjeijpbobaaX48WKept
import Derived.Test.YtjedhjeijpbobaaX48WShare
import Derived.Test.YtjedhjeijpbobaaX48WN
import Derived.Test.YtjedhjeijpbobaaX48WFootNe
import Derived.Test.YtjedhjeijpbobaaX48WAt
import Derived.Test.YtjedhjeijpbobaaX48WEqStruct
import Derived.Test.YtjedhjeijpbobaaX48WRepsOne
import Derived.Test.YtjedhjeijpbobaaX48WInv
import Derived.Test.YtjedhjeijpbobaaX48WInvWords
import Derived.Test.YtjedhjeijpbobaaX48WGuard
import Derived.Test.YtjedhjeijpbobaaX48WNEv
import Derived.Test.YtjedhjeijpbobaaX48WMore
import Derived.Shelf.SlSortCmp.QuietGrown
import Derived.RangeFuncNested
import Derived.RangeFuncBox
import Derived.RangeFuncLeaves
import Derived.Shelf.Abstract
import Derived.OwnWalkIn
import Derived.TacticsInMore
import Derived.LoopNIn
import Derived.LoopIn
import Derived.Test.YtjedhjeijpbobaaX481
set_option linter.unusedVariables false
set_option linter.unusedSimpArgs false
namespace Go.Proofs.Ytjedhjeijpbobaa.G8
abbrev Odo := Int → Int → Int
def nb (u : Odo) (x y : Int) : Int := u (x + 1) y + u (x - 1) y + u x (y + 1) + u x (y - 1)
def hp (n : Int) (u : Odo) (x y : Int) : Int := (if x = 0 ∧ y = 0 then n else 0) + nb u x y - 4 * u x y
def bump (u : Odo) (x y t : Int) : Odo := fun a b => if a = x ∧ b = y then u a b + t else u a b
structure Legal (n : Int) (u : Odo) : Prop where
 pos : ∀ a b, 0 ≤ u a b
 least : ∀ v : Odo, (∀ a b, 0 ≤ v a b) → (∀ a b, hp n v a b ≤ 3) → ∀ a b, u a b ≤ v a b
theorem Legal.zero (n : Int) : Legal n (fun _ _ => 0) := ⟨fun _ _ => Int.le_refl _, fun v h0 _ => h0⟩
theorem Legal.bump {n : Int} {u : Odo} (h : Legal n u) {x y t : Int} (ht : 0 ≤ t) (h4 : 4 * t ≤ hp n u x y) : Legal n (bump u x y t) := by
 refine ⟨fun a b => ?_, fun v h0 hv a b => ?_⟩
 ·have := h.pos a b
  unfold G8.bump
  split <;> omega
 ·have hu := h.least v h0 hv
  unfold G8.bump
  split
  ·rename_i e
   obtain ⟨rfl, rfl⟩ := e
   have e0 := hv a b
   have e1 := hu (a + 1) b
   have e2 := hu (a - 1) b
   have e3 := hu a (b + 1)
   have e4 := hu a (b - 1)
   unfold hp nb at *
   omega
  ·exact hu a b
theorem Legal.unique {n : Int} {u v : Odo} (hu : Legal n u) (hv : Legal n v) (su : ∀ a b, hp n u a b ≤ 3) (sv : ∀ a b, hp n v a b ≤ 3) : u = v := by
 funext a b
 have h1 := hu.least v hv.pos sv a b
 have h2 := hv.least u hu.pos su a b
 omega
theorem hp_bump (n : Int) (u : Odo) (x y t a b : Int) : hp n (bump u x y t) a b = if a = x ∧ b = y then hp n u a b - 4 * t else if (a = x + 1 ∧ b = y) ∨ (a = x - 1 ∧ b = y) ∨ (a = x ∧ b = y + 1) ∨ (a = x ∧ b = y - 1) then hp n u a b + t else hp n u a b := by
 have e : ∀ p q, bump u x y t p q = u p q + (if p = x ∧ q = y then t else 0) := fun p q => by unfold bump; split <;> omega
 unfold hp nb
 simp only [e]
 generalize (if a = 0 ∧ b = 0 then n else 0) = z
 repeat' split
 all_goals omega
def heapTab : List (List Nat) := [[117, 55, 28, 14, 6, 2], [55, 39, 23, 12, 5, 2], [28, 23, 15, 8, 3, 1], [14, 12, 8, 4, 1, 0], [6, 5, 3, 1, 0, 0], [2, 2, 1, 0, 0, 0]]
def v250 : Odo := fun x y => if x.natAbs ≤ 5 ∧ y.natAbs ≤ 5 then (((heapTab.getD x.natAbs []).getD y.natAbs 0 : Nat) : Int) else 0
theorem v250_pos (a b : Int) : 0 ≤ v250 a b := by unfold v250; split <;> omega
theorem v250_box {a b : Int} (h : 0 < v250 a b) : -5 ≤ a ∧ a ≤ 5 ∧ -5 ≤ b ∧ b ≤ 5 := by
 unfold v250 at h
 split at h
 ·omega
 ·omega
theorem v250_out {a b : Int} (h : ¬ (-5 ≤ a ∧ a ≤ 5 ∧ -5 ≤ b ∧ b ≤ 5)) : v250 a b = 0 := by unfold v250; rw [if_neg (by omega)]
theorem v250_in : (List.range 13).all (fun i => (List.range 13).all fun j => decide (hp 250 v250 ((i : Int) - 6) ((j : Int) - 6) ≤ 3)) = true := by decide +kernel
theorem v250_stable (n : Int) (hn : n ≤ 250) (a b : Int) : hp n v250 a b ≤ 3 := by
 by_cases h : -6 ≤ a ∧ a ≤ 6 ∧ -6 ≤ b ∧ b ≤ 6
 ·have h1 := List.all_eq_true.1 v250_in (a + 6).toNat (by rw [List.mem_range]; omega)
  have h2 := List.all_eq_true.1 h1 (b + 6).toNat (by rw [List.mem_range]; omega)
  rw [decide_eq_true_eq] at h2
  have e1 : (((a + 6).toNat : Nat) : Int) - 6 = a := by omega
  have e2 : (((b + 6).toNat : Nat) : Int) - 6 = b := by omega
  rw [e1, e2] at h2
  unfold hp at *
  split at h2 <;> omega
 ·unfold hp nb
  rw [v250_out (by omega), v250_out (by omega), v250_out (by omega), v250_out (by omega), v250_out (by omega), if_neg (by omega)]
  omega
theorem Legal.le {n : Int} {u : Odo} (h : Legal n u) (hn : n ≤ 250) (a b : Int) : u a b ≤ v250 a b := h.least v250 v250_pos (v250_stable n hn) a b
def S2 (u : Odo) : Int := psum (fun x => psum (u x) 13 (-6)) 13 (-6)
theorem psum_le (f g : Int → Int) : ∀ (n : Nat) (lo : Int), (∀ c, f c ≤ g c) → psum f n lo ≤ psum g n lo
 | 0, _, _ => Int.le_refl _
 | n + 1, lo, h => by
  have h1 := h lo
  have h2 := psum_le f g n (lo + 1) h
  simp only [psum]
  omega
theorem S2_le {u v : Odo} (h : ∀ a b, u a b ≤ v a b) : S2 u ≤ S2 v := psum_le _ _ _ _ fun c => psum_le _ _ _ _ fun d => h c d
theorem S2_v : S2 v250 = 1209 := by decide +kernel
theorem S2_bump (u : Odo) {x y : Int} (t : Int) (hx : -6 ≤ x ∧ x ≤ 6) (hy : -6 ≤ y ∧ y ≤ 6) : S2 (bump u x y t) = S2 u + t := by
 unfold S2
 rw [psum_upd (fun a => psum (u a) 13 (-6)) (fun a => psum (bump u x y t a) 13 (-6)) x (fun c hc => ?_) 13 (-6) (by omega) (by omega)]
 ·have h1 := psum_upd (u x) (bump u x y t x) y (fun d hd => by unfold bump; rw [if_neg (by omega)]) 13 (-6) (by omega) (by omega)
  have h2 : bump u x y t x y = u x y + t := by unfold bump; rw [if_pos ⟨rfl, rfl⟩]
  skip
  rw [h1, h2]
  omega
 ·have e : bump u x y t c = u c := by
   funext d
   unfold bump
   rw [if_neg (fun q => hc q.1)]
  skip
  rw [e]
theorem Legal.topple {n : Int} {u : Odo} (h : Legal n u) (hn : n ≤ 250) {x y t : Int} (ht : 1 ≤ t) (h4 : 4 * t ≤ hp n u x y) : (-5 ≤ x ∧ x ≤ 5 ∧ -5 ≤ y ∧ y ≤ 5) ∧ Legal n (G8.bump u x y t) ∧ S2 (G8.bump u x y t) = S2 u + t ∧ S2 (G8.bump u x y t) ≤ 1209 := by
 have hb := h.bump (t := t) (by omega) h4
 have hl := hb.le hn x y
 have hp0 := h.pos x y
 have e : G8.bump u x y t x y = u x y + t := by unfold G8.bump; rw [if_pos ⟨rfl, rfl⟩]
 have hbox := v250_box (a := x) (b := y) (by omega)
 refine ⟨hbox, hb, S2_bump u t (by omega) (by omega), ?_⟩
 rw [← S2_v]
 exact S2_le (hb.le hn)
def key (n : Int) (u : Odo) (a b : Int) : Prop := (a = 0 ∧ b = 0 ∧ 0 < n) ∨ 0 < nb u a b
theorem nb_pos {n : Int} {u : Odo} (h : Legal n u) (a b : Int) : 0 ≤ nb u a b := by
 have h1 := h.pos (a + 1) b
 have h2 := h.pos (a - 1) b
 have h3 := h.pos a (b + 1)
 have h4 := h.pos a (b - 1)
 unfold nb
 omega
theorem key_iff {n : Int} {u : Odo} (h : Legal n u) (hn : 0 ≤ n) (hc : ∀ a b, 0 ≤ hp n u a b) (a b : Int) : key n u a b ↔ 0 < hp n u a b ∨ 0 < u a b := by
 have h0 := nb_pos h a b
 have h1 := hc a b
 have h2 := h.pos a b
 unfold key
 unfold hp at *
 constructor
 ·intro k
  by_cases q : 0 < u a b
  ·exact .inr q
  ·left
   split at h1
   ·rename_i e
    rw [if_pos e]
    rcases k with k | k <;> omega
   ·rename_i e
    rw [if_neg e]
    rcases k with k | k
    ·exact absurd ⟨k.1, k.2.1⟩ e
    ·omega
 ·intro k
  by_cases q : 0 < nb u a b
  ·exact .inr q
  ·left
   split at h1
   ·rename_i e
    rw [if_pos e] at k
    exact ⟨e.1, e.2, by omega⟩
   ·rename_i e
    rw [if_neg e] at k
    omega
end Go.Proofs.Ytjedhjeijpbobaa.G8
namespace Go.Proofs.Ytjedhjeijpbobaa.G8
structure HInv (n : Int) (u : Odo) (M : Fld) : Prop where
 legal : Legal n u
 val : ∀ a b, (M a b).getD 0 = hp n u a b
 has : ∀ a b, (M a b).isSome = true ↔ key n u a b
 nn : ∀ a b, 0 ≤ hp n u a b
def addC (M : Fld) (x y t : Int) : Fld := upd M x y ((M x y).getD 0 + t)
def heapM (M : Fld) (x y t : Int) : Nat → Fld
 | 0 => upd M x y ((M x y).getD 0 - 4 * t)
 | j + 1 => addC (heapM M x y t j) (mv4 (j : Int) x y).1 (mv4 (j : Int) x y).2 t
theorem upd_get (M : Fld) (x y r a b : Int) : (upd M x y r a b).getD 0 = if a = x ∧ b = y then r else (M a b).getD 0 := by unfold upd; split <;> rfl
theorem upd_some (M : Fld) (x y r a b : Int) : (upd M x y r a b).isSome = true ↔ (M a b).isSome = true ∨ (a = x ∧ b = y) := by
 unfold upd
 by_cases e : a = x ∧ b = y
 ·rw [if_pos e]; simp [e]
 ·rw [if_neg e]; simp [e]
theorem addC_get (M : Fld) (x y t a b : Int) : (addC M x y t a b).getD 0 = (M a b).getD 0 + if a = x ∧ b = y then t else 0 := by
 unfold addC
 rw [upd_get]
 by_cases e : a = x ∧ b = y
 ·rw [if_pos e, if_pos e, e.1, e.2]
 ·rw [if_neg e, if_neg e]; omega
theorem mv4s (x y : Int) : mv4 ((0 : Nat) : Int) x y = (x + 1, y) ∧ mv4 ((1 : Nat) : Int) x y = (x, y + 1) ∧ mv4 ((2 : Nat) : Int) x y = (x - 1, y) ∧ mv4 ((3 : Nat) : Int) x y = (x, y - 1) := ⟨rfl, rfl, rfl, rfl⟩
theorem heapM_get (M : Fld) (x y t a b : Int) : (heapM M x y t 4 a b).getD 0 = (M a b).getD 0 + (if a = x ∧ b = y then -(4 * t) else 0) + (if a = x + 1 ∧ b = y then t else 0) + (if a = x ∧ b = y + 1 then t else 0) + (if a = x - 1 ∧ b = y then t else 0) + (if a = x ∧ b = y - 1 then t else 0) := by
 obtain ⟨e0, e1, e2, e3⟩ := mv4s x y
 simp only [heapM]
 rw [e0, e1, e2, e3, addC_get, addC_get, addC_get, addC_get, upd_get]
 simp only
 by_cases e : a = x ∧ b = y
 ·rw [if_pos e, if_pos e, e.1, e.2]; omega
 ·rw [if_neg e, if_neg e]; omega
theorem heapM_some (M : Fld) (x y t a b : Int) : (heapM M x y t 4 a b).isSome = true ↔ (M a b).isSome = true ∨ (a = x ∧ b = y) ∨ (a = x + 1 ∧ b = y) ∨ (a = x ∧ b = y + 1) ∨ (a = x - 1 ∧ b = y) ∨ (a = x ∧ b = y - 1) := by
 obtain ⟨e0, e1, e2, e3⟩ := mv4s x y
 simp only [heapM, addC]
 rw [e0, e1, e2, e3, upd_some, upd_some, upd_some, upd_some, upd_some]
 simp only [or_assoc]
theorem nb_bump (u : Odo) (x y t a b : Int) : nb (bump u x y t) a b = nb u a b + (if a = x + 1 ∧ b = y then t else 0) + (if a = x ∧ b = y + 1 then t else 0) + (if a = x - 1 ∧ b = y then t else 0) + (if a = x ∧ b = y - 1 then t else 0) := by
 have e : ∀ p q, bump u x y t p q = u p q + (if p = x ∧ q = y then t else 0) := fun p q => by unfold bump; split <;> omega
 unfold nb
 simp only [e]
 have k1 : (if a + 1 = x ∧ b = y then t else 0) = if a = x - 1 ∧ b = y then t else 0 := by split <;> split <;> omega
 have k2 : (if a - 1 = x ∧ b = y then t else 0) = if a = x + 1 ∧ b = y then t else 0 := by split <;> split <;> omega
 have k3 : (if a = x ∧ b + 1 = y then t else 0) = if a = x ∧ b = y - 1 then t else 0 := by split <;> split <;> omega
 have k4 : (if a = x ∧ b - 1 = y then t else 0) = if a = x ∧ b = y + 1 then t else 0 := by split <;> split <;> omega
 rw [k1, k2, k3, k4]
 omega
theorem hp_nb (n : Int) (u : Odo) (x y t a b : Int) : hp n (bump u x y t) a b = hp n u a b + (if a = x ∧ b = y then -(4 * t) else 0) + (if a = x + 1 ∧ b = y then t else 0) + (if a = x ∧ b = y + 1 then t else 0) + (if a = x - 1 ∧ b = y then t else 0) + (if a = x ∧ b = y - 1 then t else 0) := by
 have e : bump u x y t a b = u a b + (if a = x ∧ b = y then t else 0) := by unfold bump; split <;> omega
 unfold hp
 rw [nb_bump, e]
 have k : (if a = x ∧ b = y then -(4 * t) else 0) = -(4 * (if a = x ∧ b = y then t else 0)) := by split <;> omega
 rw [k]
 omega
theorem HInv.topple {n : Int} {u : Odo} {M : Fld} (h : HInv n u M) (hn0 : 0 ≤ n) (hn : n ≤ 250) {x y t : Int} (ht : 1 ≤ t) (h4 : 4 * t ≤ hp n u x y) : HInv n (bump u x y t) (heapM M x y t 4) := by
 refine ⟨(h.legal.topple hn ht h4).2.1, fun a b => ?_, fun a b => ?_, fun a b => ?_⟩
 ·rw [heapM_get, h.val, hp_nb]
 ·rw [heapM_some, h.has]
  have h0 := nb_pos h.legal a b
  have hk : a = x ∧ b = y → key n u a b := fun e => by
   rw [e.1, e.2]
   exact (key_iff h.legal hn0 h.nn x y).2 (.inl (by omega))
  unfold key at *
  rw [nb_bump]
  constructor
  ·rintro ((k | k) | k | k | k | k | k)
   ·exact .inl k
   ·right; repeat' split
    all_goals omega
   ·rcases hk k with q | q
    ·exact .inl q
    ·right; repeat' split
     all_goals omega
   all_goals (right; repeat' split)
   all_goals omega
  ·rintro (k | k)
   ·exact .inl (.inl k)
   ·by_cases q1 : a = x + 1 ∧ b = y
    ·exact .inr (.inr (.inl q1))
    ·by_cases q2 : a = x ∧ b = y + 1
     ·exact .inr (.inr (.inr (.inl q2)))
     ·by_cases q3 : a = x - 1 ∧ b = y
      ·exact .inr (.inr (.inr (.inr (.inl q3))))
      ·by_cases q4 : a = x ∧ b = y - 1
       ·exact .inr (.inr (.inr (.inr (.inr q4))))
       ·rw [if_neg q1, if_neg q2, if_neg q3, if_neg q4] at k
        exact .inl (.inr (by omega))
 ·have h1 := h.nn a b
  rw [hp_nb]
  by_cases e : a = x ∧ b = y
  ·rw [e.1, e.2] at *
   rw [if_pos ⟨rfl, rfl⟩]
   repeat' split
   all_goals omega
  ·rw [if_neg e]
   repeat' split
   all_goals omega
structure Listed (n : Int) (u : Odo) (cs : List (Int × Int)) : Prop where
 all : ∀ a b, 4 ≤ hp n u a b → (a, b) ∈ cs
 near : ∀ c ∈ cs, -6 ≤ c.1 ∧ c.1 ≤ 6 ∧ -6 ≤ c.2 ∧ c.2 ≤ 6
def nbrs (x y : Int) (j : Nat) : List (Int × Int) := (List.range j).map fun (i : Nat) => mv4 (i : Int) x y
theorem nbrs4 (x y : Int) : nbrs x y 4 = [(x + 1, y), (x, y + 1), (x - 1, y), (x, y - 1)] := rfl
theorem nbrs_succ (x y : Int) (j : Nat) : nbrs x y (j + 1) = nbrs x y j ++ [mv4 (j : Int) x y] := by unfold nbrs; rw [List.range_succ, List.map_append]; rfl
theorem nbrs_len (x y : Int) (j : Nat) : (nbrs x y j).length = j := by simp [nbrs]
theorem Listed.pop {n : Int} {u : Odo} {cs : List (Int × Int)} {c : Int × Int} (h : Listed n u (cs ++ [c])) (h4 : ¬ 4 ≤ hp n u c.1 c.2) : Listed n u cs := by
 refine ⟨fun a b hab => ?_, fun d hd => h.near d (by simp [hd])⟩
 have := h.all a b hab
 simp only [List.mem_append, List.mem_singleton] at this
 rcases this with k | k
 ·exact k
 ·subst k; exact absurd hab h4
theorem Listed.topple {n : Int} {u : Odo} {cs : List (Int × Int)} {x y t : Int} (h : Listed n u cs) (hb : -5 ≤ x ∧ x ≤ 5 ∧ -5 ≤ y ∧ y ≤ 5) (ht : 1 ≤ t) (h8 : hp n u x y - 4 * t < 4) : Listed n (bump u x y t) (cs ++ nbrs x y 4) := by
 rw [nbrs4]
 refine ⟨fun a b hab => ?_, fun d hd => ?_⟩
 ·rw [hp_bump] at hab
  simp only [List.mem_append, List.mem_cons, List.not_mem_nil, or_false, Prod.mk.injEq]
  split at hab
  ·rename_i e
   rw [e.1, e.2] at hab
   omega
  ·split at hab
   ·rename_i _ e
    right
    omega
   ·exact .inl (h.all a b hab)
 ·simp only [List.mem_append, List.mem_cons, List.not_mem_nil, or_false] at hd
  rcases hd with hd | rfl | rfl | rfl | rfl
  ·exact h.near d hd
  all_goals (simp only; omega)
theorem hp_zero (n a b : Int) : hp n (fun _ _ => 0) a b = if a = 0 ∧ b = 0 then n else 0 := by
 unfold hp nb
 simp
theorem HInv.start {n : Int} (hn : 1 ≤ n) : HInv n (fun _ _ => 0) (upd (fun _ _ => none) 0 0 n) := by
 refine ⟨Legal.zero n, fun a b => ?_, fun a b => ?_, fun a b => ?_⟩
 ·rw [upd_get, hp_zero]; rfl
 ·rw [upd_some]
  unfold key nb
  simp only [Option.isSome_none, Bool.false_eq_true, false_or]
  constructor
  ·intro k; exact .inl ⟨k.1, k.2, by omega⟩
  ·rintro (k | k)
   ·exact ⟨k.1, k.2.1⟩
   ·omega
 ·rw [hp_zero]; split <;> omega
theorem Listed.start (n : Int) : Listed n (fun _ _ => 0) [(0, 0)] := by
 refine ⟨fun a b h => ?_, fun c hc => ?_⟩
 ·rw [hp_zero] at h
  split at h
  ·rename_i e; simp [e]
  ·omega
 ·simp at hc; subst hc; decide
theorem hp_le {n : Int} {u : Odo} (h : Legal n u) (hn : n ≤ 250) (hn0 : 0 ≤ n) (a b : Int) : hp n u a b ≤ 5000 := by
 have hb : ∀ a b, u a b ≤ 1000 := fun a b => by
  have h1 := h.le hn a b
  have h2 : v250 a b ≤ 1000 := by
   by_cases q : -5 ≤ a ∧ a ≤ 5 ∧ -5 ≤ b ∧ b ≤ 5
   ·have hv : (List.range 11).all (fun i => (List.range 11).all fun j => decide (v250 ((i : Int) - 5) ((j : Int) - 5) ≤ 1000)) = true := by decide +kernel
    have h3 := List.all_eq_true.1 hv (a + 5).toNat (by rw [List.mem_range]; omega)
    have h4 := List.all_eq_true.1 h3 (b + 5).toNat (by rw [List.mem_range]; omega)
    rw [decide_eq_true_eq] at h4
    have e1 : (((a + 5).toNat : Nat) : Int) - 5 = a := by omega
    have e2 : (((b + 5).toNat : Nat) : Int) - 5 = b := by omega
    rwa [e1, e2] at h4
   ·rw [v250_out q]; omega
  omega
 have h1 := hb (a + 1) b
 have h2 := hb (a - 1) b
 have h3 := hb a (b + 1)
 have h4 := hb a (b - 1)
 have h5 := h.pos a b
 unfold hp nb
 split <;> omega
end Go.Proofs.Ytjedhjeijpbobaa.G8
namespace Go.Proofs.Ytjedhjeijpbobaa.G8
theorem S2_nul : S2 (fun _ _ => 0) = 0 := by decide +kernel
theorem S2_bd {n : Int} {u : Odo} (h : Legal n u) (hn : n ≤ 250) : 0 ≤ S2 u ∧ S2 u ≤ 1209 := by
 constructor
 ·rw [← S2_nul]; exact S2_le h.pos
 ·rw [← S2_v]; exact S2_le (h.le hn)
theorem hp_out {n : Int} {u : Odo} (h : Legal n u) (hn : n ≤ 250) {a b : Int} (hab : ¬ (-6 ≤ a ∧ a ≤ 6 ∧ -6 ≤ b ∧ b ≤ 6)) : hp n u a b = 0 := by
 have h0 : ∀ p q, ¬ (-5 ≤ p ∧ p ≤ 5 ∧ -5 ≤ q ∧ q ≤ 5) → u p q = 0 := fun p q k => by
  have h1 := h.le hn p q
  have h2 := h.pos p q
  rw [v250_out k] at h1
  omega
 unfold hp nb
 rw [h0 _ _ (by omega), h0 _ _ (by omega), h0 _ _ (by omega), h0 _ _ (by omega), h0 _ _ (by omega), if_neg (by omega)]
 omega
theorem quo4' {h : Int} (h4 : 4 ≤ h) : Int.tdiv h 4 = h / 4 ∧ 1 ≤ h / 4 ∧ 4 * (h / 4) ≤ h ∧ h - 4 * (h / 4) < 4 := ⟨Int.tdiv_eq_ediv_of_nonneg (by omega), by omega, by omega, by omega⟩
structure Scan (n : Int) (u u1 : Odo) (m : Bool) (x y : Int) : Prop where
 legal : Legal n u1
 nn : ∀ a b, 0 ≤ hp n u1 a b
 more : m = true → S2 u + 1 ≤ S2 u1
 same : m = false → u1 = u ∧ ∀ a b, -59 ≤ a → a ≤ 59 → -59 ≤ b → b ≤ 59 → (a < x ∨ (a = x ∧ b < y)) → hp n u a b ≤ 3
section
variable {n : Int} {u u1 : Odo} {m : Bool} {x y : Int}
theorem Scan.start (h : Legal n u) (hn : ∀ a b, 0 ≤ hp n u a b) : Scan n u u false (-59) (-59) := ⟨h, hn, fun e => (by cases e), fun _ => ⟨rfl, fun a b h1 h2 h3 h4 h5 => by omega⟩⟩
theorem Scan.row (h : Scan n u u1 m x 60) : Scan n u u1 m (x + 1) (-59) := ⟨h.legal, h.nn, h.more, fun e => ⟨(h.same e).1, fun a b h1 h2 h3 h4 h5 => (h.same e).2 a b h1 h2 h3 h4 (by omega)⟩⟩
theorem Scan.small (h : Scan n u u1 m x y) (hs : hp n u1 x y < 4) : Scan n u u1 m x (y + 1) := by
 refine ⟨h.legal, h.nn, h.more, fun e => ⟨(h.same e).1, fun a b h1 h2 h3 h4 h5 => ?_⟩⟩
 by_cases q : a < x ∨ (a = x ∧ b < y)
 ·exact (h.same e).2 a b h1 h2 h3 h4 q
 ·have hx : a = x := by omega
  have hy : b = y := by omega
  rw [hx, hy, ← (h.same e).1]
  omega
theorem Scan.topple (h : Scan n u u1 m x y) (hn : n ≤ 250) {t : Int} (ht : 1 ≤ t) (h4 : 4 * t ≤ hp n u1 x y) : Scan n u (bump u1 x y t) true x (y + 1) := by
 obtain ⟨h1, h2, h3, h5⟩ := h.legal.topple hn ht h4
 refine ⟨h2, fun a b => ?_, fun _ => ?_, fun e => by cases e⟩
 ·have := h.nn a b
  rw [hp_bump]
  split
  ·rename_i e
   rw [e.1, e.2] at *
   omega
  ·split <;> omega
 ·rw [h3]
  cases m with
  | true => have := h.more rfl; omega
  | false => rw [(h.same rfl).1]; omega
theorem Scan.finish (h : Scan n u u1 m 60 (-59)) (hn : n ≤ 250) (hm : m = false) : ∀ a b, hp n u1 a b ≤ 3 := fun a b => by
 by_cases q : -59 ≤ a ∧ a ≤ 59 ∧ -59 ≤ b ∧ b ≤ 59
 ·rw [(h.same hm).1]
  exact (h.same hm).2 a b q.1 q.2.1 q.2.2.1 q.2.2.2 (by omega)
 ·rw [hp_out h.legal hn (by omega)]; omega
end
theorem heap_bd (M : Fld) (x y t : Int) (ht : 0 ≤ t) (a b : Int) : ∀ j, -(4 * t) ≤ (heapM M x y t j a b).getD 0 - (M a b).getD 0 ∧ (heapM M x y t j a b).getD 0 - (M a b).getD 0 ≤ j * t
 | 0 => by
  simp only [heapM]
  rw [upd_get]
  by_cases e : a = x ∧ b = y
  ·rw [if_pos e, e.1, e.2]; simp; omega
  ·rw [if_neg e]; simp; omega
 | j + 1 => by
  obtain ⟨h1, h2⟩ := heap_bd M x y t ht a b j
  simp only [heapM]
  rw [addC_get]
  have e : ((j + 1 : Nat) : Int) * t = j * t + t := by rw [Int.natCast_add, Int.add_mul]; simp
  rw [e]
  split <;> omega
theorem heap_bd4 {n : Int} {u1 : Odo} (hl : Legal n u1) (hn : n ≤ 250) (hn0 : 0 ≤ n) (nn : ∀ a b, 0 ≤ hp n u1 a b) {M : Fld} (hM : M = fun a b => some (hp n u1 a b)) (x y t : Int) (ht : 0 ≤ t) (ht2 : t ≤ 1250) (a b : Int) {j : Nat} (hj : j ≤ 4) :
  -5000 ≤ (heapM M x y t j a b).getD 0 ∧ (heapM M x y t j a b).getD 0 ≤ 10000 := by
 obtain ⟨h1, h2⟩ := heap_bd M x y t ht a b j
 have h3 := Int.mul_le_mul_of_nonneg_right (show (j : Int) ≤ 4 by omega) ht
 have h4 := nn a b
 have h5 := hp_le hl hn hn0 a b
 subst hM
 simp only [Option.getD_some] at h1 h2
 omega
end Go.Proofs.Ytjedhjeijpbobaa.G8
namespace Go.Proofs.Ytjedhjeijpbobaa.G8
open Go.RowKit Go.Maps YtjedhjeijpbobaaW.PrintWords YtjedhjeijpbobaaW.PrintLast YtjedhjeijpbobaaW.PrintMore
open GA
structure HhAt (w : World) (base cb tb : Nat) (M : Fld) (T : Int → Int → Bool) : Prop where
 hc : base ≤ cb
 ht : base ≤ tb
 chips : ∃ cl : Array Value, w.heap[cb]? = some (.cells cl 3 (0, 0)) ∧ cl.size = 14641 ∧ ∀ x y, Box x → Box y → cl[atN x y]? = some (.int .i64 ((M x y).getD 0))
 tops : ∃ tl : Array Value, w.heap[tb]? = some (.cells tl 4 (0, 0)) ∧ tl.size = 14641 ∧ ∀ x y, Box x → Box y → tl[atN x y]? = some (.bool (T x y))
section
variable {w w1 : World} {base cb tb : Nat} {M : Fld} {T : Int → Int → Bool}
theorem HhAt.keep (h : HhAt w base cb tb M T) (e : ∀ b, b < w.heap.size → w1.heap[b]? = w.heap[b]?) : HhAt w1 base cb tb M T := by
 obtain ⟨cl, c1, c2, c3⟩ := h.chips
 obtain ⟨tl, t1, t2, t3⟩ := h.tops
 exact ⟨h.hc, h.ht, ⟨cl, (e cb (blk_lt c1)).trans c1, c2, c3⟩, ⟨tl, (e tb (blk_lt t1)).trans t1, t2, t3⟩⟩
theorem HhAt.drewN (h : HhAt w base cb tb M T) (n : Nat) : HhAt (w.drewN n) base cb tb M T := h.keep fun _ _ => by simp
theorem HhAt.ne (h : HhAt w base cb tb M T) : cb ≠ tb := by
 obtain ⟨cl, c1, _⟩ := h.chips
 obtain ⟨tl, t1, _⟩ := h.tops
 exact blk_ne c1 t1 (.inl (by decide))
theorem HhAt.chip_at (h : HhAt w base cb tb M T) {x y : Int} (hx : Box x) (hy : Box y) : w.cell? ⟨cb, atN x y, none⟩ = some (.int .i64 ((M x y).getD 0)) ∧ w.frozen? ⟨cb, atN x y, none⟩ = false := by
 obtain ⟨cl, c1, _, c3⟩ := h.chips
 exact ⟨(blk_cell c1 _).trans (c3 x y hx hy), kF_ c1 _⟩
theorem HhAt.top_at (h : HhAt w base cb tb M T) {x y : Int} (hx : Box x) (hy : Box y) : w.cell? ⟨tb, atN x y, none⟩ = some (.bool (T x y)) ∧ w.frozen? ⟨tb, atN x y, none⟩ = false := by
 obtain ⟨tl, t1, _, t3⟩ := h.tops
 exact ⟨(blk_cell t1 _).trans (t3 x y hx hy), kF_ t1 _⟩
theorem HhAt.setC (h : HhAt w base cb tb M T) {x y : Int} (hx : Box x) (hy : Box y) (r : Int) : HhAt (w.setCell ⟨cb, atN x y, none⟩ (.int .i64 r)) base cb tb (upd M x y r) T := by
 obtain ⟨cl, c1, c2, c3⟩ := h.chips
 obtain ⟨tl, t1, t2, t3⟩ := h.tops
 have hlt := atN_lt hx hy
 refine ⟨h.hc, h.ht, ⟨_, blk_set c1 _ _, by rw [Array.size_setIfInBounds]; exact c2, fun a b ha hb => ?_⟩, ⟨tl, blk_far t1 (p := ⟨cb, atN x y, none⟩) (fun e => h.ne e.symm) _, t2, t3⟩⟩
 rw [upd_get]
 by_cases e : a = x ∧ b = y
 ·rw [if_pos e, e.1, e.2, Array.getElem?_setIfInBounds_self_of_lt (by omega)]
 ·rw [if_neg e, Array.getElem?_setIfInBounds_ne (fun q => e ((atN_eq hx hy ha hb).1 q.symm))]; exact c3 a b ha hb
theorem HhAt.setT (h : HhAt w base cb tb M T) {x y : Int} (hx : Box x) (hy : Box y) : HhAt (w.setCell ⟨tb, atN x y, none⟩ (.bool true)) base cb tb M (fun a b => if a = x ∧ b = y then true else T a b) := by
 obtain ⟨cl, c1, c2, c3⟩ := h.chips
 obtain ⟨tl, t1, t2, t3⟩ := h.tops
 have hlt := atN_lt hx hy
 refine ⟨h.hc, h.ht, ⟨cl, blk_far c1 (p := ⟨tb, atN x y, none⟩) h.ne _, c2, c3⟩, ⟨_, blk_set t1 _ _, by rw [Array.size_setIfInBounds]; exact t2, fun a b ha hb => ?_⟩⟩
 by_cases e : a = x ∧ b = y
 ·rw [if_pos e, e.1, e.2, Array.getElem?_setIfInBounds_self_of_lt (by omega)]
 ·rw [if_neg e, Array.getElem?_setIfInBounds_ne (fun q => e ((atN_eq hx hy ha hb).1 q.symm))]; exact t3 a b ha hb
theorem HhAt.like (h : HhAt w base cb tb M T) {M1 : Fld} {T1 : Int → Int → Bool} (hM : ∀ a b, (M1 a b).getD 0 = (M a b).getD 0) (hT : ∀ a b, T1 a b = T a b) : HhAt w base cb tb M1 T1 := by
 obtain ⟨cl, c1, c2, c3⟩ := h.chips
 obtain ⟨tl, t1, t2, t3⟩ := h.tops
 exact ⟨h.hc, h.ht, ⟨cl, c1, c2, fun x y hx hy => by rw [hM]; exact c3 x y hx hy⟩, ⟨tl, t1, t2, fun x y hx hy => by rw [hT]; exact t3 x y hx hy⟩⟩
end
def hpM (n : Int) (u : Odo) : Fld := fun a b => some (hp n u a b)
def hpT (u : Odo) : Int → Int → Bool := fun a b => decide (0 < u a b)
def HhOut (w : World) (n : Int) (e : Ending) (w' : World) : Prop := ∃ cb tb u, e = .returned (.tuple #[.slice (some ⟨cb, 0, none⟩) 14641 14641, .slice (some ⟨tb, 0, none⟩) 14641 14641]) ∧ Below w.heap.size w w' ∧ Aside0 (HhAt w' w.heap.size cb tb (hpM n u) (hpT u)) ∧ Aside0 (Legal n u) ∧ Aside0 (∀ a b, 0 ≤ hp n u a b ∧ hp n u a b ≤ 3)
theorem hh_start {w : World} {base cb tb : Nat} (n : Int) (hc : base ≤ cb) (ht : base ≤ tb) (h1 : w.heap[cb]? = some (.cells (madeCells #[.int .i64 0] 14641) 3 (0, 0))) (h2 : w.heap[tb]? = some (.cells (madeCells #[.bool false] 14641) 4 (0, 0))) :
  HhAt (w.setCell ⟨cb, atN 0 0, none⟩ (.int .i64 n)) base cb tb (hpM n (fun _ _ => 0)) (hpT (fun _ _ => 0)) := by
 have h : HhAt w base cb tb (fun _ _ => none) (fun _ _ => false) := ⟨hc, ht, ⟨_, h1, size_madeCells _ _, fun x y hx hy => made_at _ _ _ (atN_lt hx hy)⟩, ⟨_, h2, size_madeCells _ _, fun x y hx hy => made_at _ _ _ (atN_lt hx hy)⟩⟩
 refine (h.setC (x := 0) (y := 0) ⟨by decide, by decide⟩ ⟨by decide, by decide⟩ n).like (fun a b => ?_) (fun a b => by unfold hpT; simp)
 rw [upd_get]
 unfold hpM
 rw [hp_zero]
 rfl
theorem hh_topple {w : World} {base cb tb : Nat} {n : Int} {u : Odo} {x y t : Int} (h : HhAt w base cb tb (heapM (hpM n u) x y t 4) (fun a b => if a = x ∧ b = y then true else hpT u a b)) (hu : Legal n u) (ht : 1 ≤ t) : HhAt w base cb tb (hpM n (bump u x y t)) (hpT (bump u x y t)) := by
 refine h.like (fun a b => ?_) (fun a b => ?_)
 ·rw [heapM_get]
  unfold hpM
  simp only [Option.getD_some]
  rw [hp_nb]
 ·unfold hpT bump
  by_cases e : a = x ∧ b = y
  ·rw [if_pos e, if_pos e]
   have := hu.pos a b
   simp
   omega
  ·rw [if_neg e, if_neg e]
def Th1 : Bool × List (List Nat × List Nat) := (true, [([], []), ([], []), ([0, 0], [0]), ([1, 2, 0, 1, 2], [1])])
def Bh1 : List Nat := [0, 0, 1, 7]
theorem tabh1 : rtab .any (opsOf Try.f95 1) = Th1 := by kernel_rfl
theorem bitsh1 : waitsOk Th1.2 Bh1 = true := by kernel_rfl
theorem hbJ {j q : Nat} (h : j + (q + 1) = 4) : j + 1 + q = 4 := by omega
theorem hbJ0 {j : Nat} (h : j + 0 = 4) : j = 4 := h
theorem hbJi {j q : Nat} (h : j + (q + 1) = 4) : (j : Int) < 4 := by omega
theorem hbJl {j q : Nat} (h : j + (q + 1) = 4) : j ≤ 4 := by omega
theorem hbY {y : Int} {k : Nat} (h : -59 ≤ y ∧ y + ((k + 1 : Nat) : Int) = 60) : -59 ≤ y + 1 ∧ y + 1 + (k : Int) = 60 := by omega
theorem hbP {p : Nat} (h : p < 14641) : (p : Int) < 14641 := by omega
theorem hbMv {x y : Int} {j : Nat} (h : -5 ≤ x ∧ x ≤ 5 ∧ -5 ≤ y ∧ y ≤ 5) : Box (mv4 (j : Int) x y).1 ∧ Box (mv4 (j : Int) x y).2 := by
 unfold mv4 Box
 repeat' split
 all_goals (simp only; omega)
theorem hbW {j q : Nat} (h : j + (q + 1) = 4) : wrap64 ((j : Int) + 1) = (j : Int) + 1 := wrap_id (by omega) (by omega)
theorem hbG {g t : Int} (hg : -5000 ≤ g ∧ g ≤ 10000) (h1 : 1 ≤ t) (h2 : t ≤ 1250) : wrap64 (g + t) = g + t := wrap_id (by omega) (by omega)
theorem hbT {t : Int} (h : 1 ≤ t) : 0 ≤ t := by omega
set_option maxHeartbeats 4000000 in
set_option maxRecDepth 100000 in
theorem gwHeap_calls (n : Int) (hn : 0 ≤ n ∧ n ≤ 250) (w : World) : Calls Try.prog 95 #[.int .i64 n] w (HhOut w n) := by
 have HT0 := Aside0.mk (at_quiet (x := 0) (y := 0) ⟨by decide, by decide⟩ ⟨by decide, by decide⟩)
 go_enter Try.func95, Try.ntmps95
 go_upto_region 1 with (fail)
 refine start_ (n := 4) (S := fun w' => True) (ds := []) #[false, false, false, false] (by kernel_rfl) rfl rfl trivial (fun hHeld => ?_)
 refine with_tabW tabh1 bitsh1 (fun HT_ HW_ => ?_)
 have HB := Aside0.mk (below_drew (Below.refl w.heap.size w))
 have hsz : w.heap.size ≤ w.drew.heap.size := Nat.le_refl _
 generalize w.drew = W0 at *
 refine join_ (σ := Nat × Nat) 1 #[true, true, true, false] (fun s => [(14, .slice (some ⟨s.1, 0, none⟩) 14641 14641), (15, .slice (some ⟨s.2, 0, none⟩) 14641 14641), (4, .slice (some ⟨s.1, 0, none⟩) 14641 14641)]) (fun s w' => Aside0 (w'.heap[s.1]? = some (.cells (madeCells #[.int .i64 0] 14641) 3 (0, 0)) ∧ w'.heap[s.2]? = some (.cells (madeCells #[.bool false] 14641) 4 (0, 0)) ∧ w.heap.size ≤ s.1 ∧ w.heap.size ≤ s.2 ∧ Below w.heap.size w w')) ?_ ?_
 rotate_left
 ·intro hCont
  refine two_ (i := 0) (j := 1) (Ni := some 14) (Nj := some 15) #[true, false, false, false] #[false, true, false, false] rfl rfl rfl rfl (two_of HT_.out (by kernel_rfl)) (by decide) (by decide) (fun K hK => ?_) (fun K hK => ?_)
  ·refine value_ (v := .slice (some ⟨W0.heap.size, 0, none⟩) 14641 14641) (w1 := W0.alloc (.cells (madeCells #[.int .i64 0] 14641) 3)) (by rfl) rfl (by go_simp; rw [make_ints]; rfl) ?_
   refine hK.out _ _ trivial (fun hHeld => ?_)
   clear hK K
   (try simp only [Act.put, List.setIfInBounds_toArray, List.set_cons_zero, List.set_cons_succ])
   refine pu_ (i := 2) (N := some 4) (v := ?_) (a' := ?_) HT_.out rfl rfl (Or.inl ⟨by rfl, ?_⟩) ?_ ?_
   rotate_left
   ·intro w'
    go_simp
    with_reducible rfl
   rotate_left
   ·simp only [sp_]
    rfl
   refine one_ (i := 1) (N := some 15) #[true, true, true, false] rfl rfl (one_of HT_.out (by kernel_rfl)) (by decide) (fun K hK => ?_)
   refine value_ (v := .slice (some ⟨W0.heap.size + 1, 0, none⟩) 14641 14641) (w1 := (W0.alloc (.cells (madeCells #[.int .i64 0] 14641) 3)).alloc (.cells (madeCells #[.bool false] 14641) 4)) (by rfl) rfl (by go_simp; rw [make_bools]; simp [Result.andThen]) ?_
   refine hK.out _ _ trivial (fun hHeld => ?_)
   clear hK K
   refine norm_ (by simp only [putAll, Act.put, List.setIfInBounds_toArray, List.set_cons_zero, List.set_cons_succ]) (hCont (W0.heap.size, W0.heap.size + 1) _ ⟨two_new W0 _ _, two_new1 W0 _ _, by omega, by omega, (HB.out.alloc (by omega) _).alloc (by simp; omega) _⟩)
  ·refine value_ (v := .slice (some ⟨W0.heap.size, 0, none⟩) 14641 14641) (w1 := W0.alloc (.cells (madeCells #[.bool false] 14641) 4)) (by rfl) rfl (by go_simp; rw [make_bools]; rfl) ?_
   refine hK.out _ _ trivial (fun hHeld => ?_)
   clear hK K
   (try simp only [Act.put, List.setIfInBounds_toArray, List.set_cons_zero, List.set_cons_succ])
   refine one_ (i := 0) (N := some 14) #[true, true, false, false] rfl rfl (one_of HT_.out (by kernel_rfl)) (by decide) (fun K hK => ?_)
   refine value_ (v := .slice (some ⟨W0.heap.size + 1, 0, none⟩) 14641 14641) (w1 := (W0.alloc (.cells (madeCells #[.bool false] 14641) 4)).alloc (.cells (madeCells #[.int .i64 0] 14641) 3)) (by rfl) rfl (by go_simp; rw [make_ints]; simp [Result.andThen]) ?_
   refine hK.out _ _ trivial (fun hHeld => ?_)
   clear hK K
   (try simp only [Act.put, List.setIfInBounds_toArray, List.set_cons_zero, List.set_cons_succ])
   refine pu_ (i := 2) (N := some 4) (v := ?_) (a' := ?_) HT_.out rfl rfl (Or.inl ⟨by rfl, ?_⟩) ?_ ?_
   rotate_left
   ·intro w'
    go_simp
    with_reducible rfl
   rotate_left
   ·simp only [sp_]
    rfl
   refine norm_ (by simp only [putAll, Act.put, List.setIfInBounds_toArray, List.set_cons_zero, List.set_cons_succ]) (hCont (W0.heap.size + 1, W0.heap.size) _ ⟨two_new1 W0 _ _, two_new W0 _ _, by omega, by omega, (HB.out.alloc (by omega) _).alloc (by simp; omega) _⟩)
 rintro ⟨cb, tb⟩ W1 hF
 obtain ⟨hcb, htb, hc0, ht0, hB⟩ := hF.out
 have HC0 := Aside0.mk hcb
 have HTB := Aside0.mk htb
 have HB1 := Aside0.mk hB
 clear hF hcb htb hB HB hsz hHeld
 refine norm_ (a' := ?_) ?_ ?_
 rotate_left
 ·simp only [putAll, Act.put, List.setIfInBounds_toArray, List.set_cons_zero, List.set_cons_succ]
  rfl
 refine pu_ (i := 3) (N := some 5) (v := ?_) (a' := ?_) HT_.out rfl rfl (Or.inl ⟨by rfl, ?_⟩) ?_ ?_
 rotate_left
 ·intro w'
  go_simp
  with_reducible rfl
 rotate_left
 ·simp only [sp_]
  rfl
 refine done_ (done_of HT_.out (by kernel_rfl)) ?_
 clear HT_ HW_
 have hb00 : Box 0 := ⟨by decide, by decide⟩
 have hplt := atN_lt hb00 hb00
 obtain ⟨p, hpe⟩ : ∃ p, p = atN 0 0 := ⟨_, rfl⟩
 rw [← hpe] at HT0 hplt
 have hpi : (p : Int) < 14641 := by omega
 obtain ⟨cv, fv⟩ : W1.cell? ⟨cb, p, none⟩ = some (.int .i64 0) ∧ W1.frozen? ⟨cb, p, none⟩ = false := ⟨(blk_cell HC0.out p).trans (made_at _ _ _ hplt), kF_ HC0.out p⟩
 replace hpe := Aside0.mk hpe
 go_wp2_with (first | (go_at_call 73; (with_reducible refine (HT0.out _).mono ?_); rintro e w9 ⟨rfl, ⟨nd0, rfl⟩⟩))
 have HH0 : Aside0 (HhAt ((W1.drewN nd0).setCell ⟨cb, p, none⟩ (.int .i64 n)) w.heap.size cb tb (hpM n (fun _ _ => 0)) (hpT (fun _ _ => 0))) := ⟨by
  rw [hpe.out]
  exact hh_start n hc0 ht0 HC0.out HTB.out⟩
 have HBB : Aside0 (Below w.heap.size w ((W1.drewN nd0).setCell ⟨cb, p, none⟩ (.int .i64 n))) := ⟨(bN_ HB1.out nd0).setCell (p := ⟨cb, p, none⟩) hc0 _⟩
 have HL0 := Aside0.mk (Legal.zero n)
 have HN0 : Aside0 (∀ a b, 0 ≤ hp n (fun _ _ => 0) a b) := ⟨fun a b => by rw [hp_zero]; split <;> omega⟩
 clear HC0 HTB HB1 HT0 cv fv
 go_loopg [6] 1210 (fun m v6 wr => ∃ (more : Bool) (u : Odo), v6 = .bool more ∧ Aside0 (1209 - S2 u + (if more = true then 1 else 0) ≤ m) ∧ Aside0 (HhAt wr w.heap.size cb tb (hpM n u) (hpT u)) ∧ Aside0 (Legal n u) ∧ Aside0 (∀ a b, 0 ≤ hp n u a b) ∧ Aside0 (more = false → ∀ a b, hp n u a b ≤ 3) ∧ Aside0 (Below w.heap.size w wr))
 case atStart => exact ⟨true, fun _ _ => 0, rfl, ⟨by rw [S2_nul]; decide⟩, HH0, HL0, HN0, ⟨fun e => by cases e⟩, HBB⟩
 case round =>
  clear HH0 HBB HL0 HN0 hpe hplt hpi
  obtain ⟨more, u, rfl, HI, HH, HL, HN, HS, HB⟩ := hrel
  cases more with
  | false =>
   go_wp2_with (fail)
   refine bodyPost_ret (v := .tuple #[.slice (some ⟨cb, 0, none⟩) 14641 14641, .slice (some ⟨tb, 0, none⟩) 14641 14641]) (by simp [results, Try.results95, go_sem]) rfl ?_
   exact ⟨cb, tb, u, rfl, HB.out, HH, HL, ⟨fun a b => ⟨HN.out a b, HS.out (by first | rfl | trivial) a b⟩⟩⟩
  | true =>
   cases gk with
   | zero => exact absurd HI.out (by have := (S2_bd HL.out hn.2).2; simp; omega)
   | succ m =>
    have HSC := Aside0.mk (Scan.start HL.out HN.out)
    go_upto_region 6 with (fail)
    go_wp2_with (fail)
    go_loopg [6, 7] 119 (fun k v6 v7 wq => ∃ (more : Bool) (u1 : Odo) (x : Int), v6 = .bool more ∧ v7 = .int .i64 x ∧ Aside0 (-59 ≤ x ∧ x + (k : Int) = 60) ∧ Aside0 (Scan n u u1 more x (-59)) ∧ Aside0 (HhAt wq w.heap.size cb tb (hpM n u1) (hpT u1)) ∧ Aside0 (Below w.heap.size w wq))
    case atStart => exact ⟨false, u, -59, rfl, rfl, ⟨by decide⟩, HSC, HH, HB⟩
    case round =>
     clear HSC HH HB HS HN HL
     obtain ⟨more, u1, x, rfl, rfl, HX, HC, HH, HB⟩ := hrel
     cases gk with
     | zero =>
      have hx60 : x = 60 := by have := HX.out.2; omega
      subst hx60
      have hle : ¬ ((60 : Int) ≤ 59) := by omega
      have hfin := Aside0.mk (fun hm => HC.out.finish hn.2 hm)
      have hmo := Aside0.mk HC.out.more
      have HL1 := Aside0.mk HC.out.legal
      have HN1 := Aside0.mk HC.out.nn
      have hsm := Aside0.mk HC.out.same
      go_wp2_with (fail)
      go_roundg m
      case measure => omega
      case rel =>
       refine ⟨more, u1, rfl, ⟨?_⟩, HH, HL1, HN1, hfin, HB⟩
       have hI := HI.out
       simp only [if_true] at hI
       cases more with
       | true => have := hmo.out rfl; simp only [if_true]; omega
       | false => rw [(hsm.out rfl).1]; simp only [Bool.false_eq_true, if_false]; omega
     | succ kx =>
      have hle : x ≤ 59 := by have := HX.out.2; omega
      have hxb : Box x := ⟨by have := HX.out.1; omega, by omega⟩
      have hx1 := HX.out.1
      have hwx := wrap_id (x := x + 1) (by omega) (by omega)
      go_upto_region 9 with (fail)
      go_wp2_with (fail)
      go_loopg [6, 8] 119 (fun k v6 v8 wq => ∃ (more : Bool) (u1 : Odo) (y : Int), v6 = .bool more ∧ v8 = .int .i64 y ∧ Aside0 (-59 ≤ y ∧ y + (k : Int) = 60) ∧ Aside0 (Scan n u u1 more x y) ∧ Aside0 (HhAt wq w.heap.size cb tb (hpM n u1) (hpT u1)) ∧ Aside0 (Below w.heap.size w wq))
      case atStart => exact ⟨more, u1, -59, rfl, rfl, ⟨by decide⟩, HC, HH, HB⟩
      case round =>
       clear HC HH HB
       obtain ⟨more, u1, y, rfl, rfl, HY, HC, HH, HB⟩ := hrel
       cases gk with
       | zero =>
        have hy60 : y = 60 := by have := HY.out.2; omega
        subst hy60
        have hley : ¬ ((60 : Int) ≤ 59) := by omega
        go_wp2_with (fail)
        (try simp only [hwx])
        go_roundg kx
        case measure => omega
        case rel => exact ⟨more, u1, x + 1, rfl, by first | rfl | go_num, ⟨by have := HX.out; omega⟩, ⟨HC.out.row⟩, HH, HB⟩
       | succ ky =>
        have hley : y ≤ 59 := by have := HY.out.2; omega
        have hyb : Box y := ⟨by have := HY.out.1; omega, by omega⟩
        have hy1 := HY.out.1
        have hwy := wrap_id (x := y + 1) (by omega) (by omega)
        have HN := Aside0.mk (at_quiet hxb hyb)
        have hplt := atN_lt hxb hyb
        obtain ⟨p, hpe⟩ : ∃ p, p = atN x y := ⟨_, rfl⟩
        rw [← hpe] at HN hplt
        have hpi : (p : Int) < 14641 := by omega
        have hp0 : (0 : Int) ≤ (p : Int) := by omega
        replace hpe := Aside0.mk hpe
        go_upto_region 12 with (fail)
        go_upto_region 13 with (first | (go_at_call 73; (with_reducible refine (HN.out _).mono ?_); rintro e w9 ⟨rfl, ⟨nd, rfl⟩⟩))
        have HH1 := Aside0.mk (HH.out.drewN nd)
        have HB1 : Aside0 (Below w.heap.size w (wr.drewN nd)) := ⟨bN_ HB.out nd⟩
        clear HH HB
        generalize wr.drewN nd = W2 at *
        obtain ⟨cv, fv⟩ := HH1.out.chip_at hxb hyb
        obtain ⟨tv, gv⟩ := HH1.out.top_at hxb hyb
        rw [← hpe.out] at cv fv tv gv
        have hh0 := hp_le HC.out.legal hn.2 hn.1 x y
        have hh1 := HC.out.nn x y
        obtain ⟨h, hh⟩ : ∃ h, h = hp n u1 x y := ⟨_, rfl⟩
        have hMh : (hpM n u1 x y).getD 0 = h := by rw [hh]; rfl
        rw [hMh] at cv
        rw [← hh] at hh0 hh1
        replace hh := Aside0.mk hh
        by_cases h4 : h < 4
        ·go_wp2_with (fail)
         (try simp only [hwy])
         go_roundg ky
         case measure => omega
         case rel => exact ⟨more, u1, y + 1, rfl, by first | rfl | go_num, ⟨hbY HY.out⟩, ⟨HC.out.small (by rw [← hh.out]; exact h4)⟩, HH1, HB1⟩
        ·obtain ⟨k1, k2, k3, k4⟩ := quo4' (h := h) (by omega)
         obtain ⟨t, ht⟩ : ∃ t, t = h / 4 := ⟨_, rfl⟩
         rw [← ht] at k1 k2 k3 k4
         have ht2 : t ≤ 1250 := by omega
         replace ht := Aside0.mk ht
         have hwa := wrap_id (x := 4 * t) (by omega) (by omega)
         have hwb : IntKind.i64.wrap (4 * t) = 4 * t := by rw [i64_w]; exact hwa
         have hwc := wrap_id (x := h - 4 * t) (by omega) (by omega)
         have hwd : IntKind.i64.wrap (h - 4 * t) = h - 4 * t := by rw [i64_w]; exact hwc
         go_upto_region 16 with (fail)
         obtain ⟨T, hT⟩ : ∃ T, T = fun a b => if a = x ∧ b = y then true else hpT u1 a b := ⟨_, rfl⟩
         have HH2 : Aside0 (HhAt (W2.setCell ⟨tb, p, none⟩ (.bool true)) w.heap.size cb tb (hpM n u1) T) := ⟨by rw [hT, hpe.out]; exact HH1.out.setT hxb hyb⟩
         have HB2 : Aside0 (Below w.heap.size w (W2.setCell ⟨tb, p, none⟩ (.bool true))) := ⟨HB1.out.setCell (p := ⟨tb, p, none⟩) ht0 _⟩
         replace hT := Aside0.mk hT
         clear HH1 HB1 cv fv tv gv
         generalize W2.setCell ⟨tb, p, none⟩ (.bool true) = W3 at *
         obtain ⟨cv, fv⟩ := HH2.out.chip_at hxb hyb
         rw [← hpe.out] at cv fv
         rw [hMh] at cv
         go_wp2_with (fail)
         (try simp only [hwa, hwc])
         have HH3 : Aside0 (HhAt (W3.setCell ⟨cb, p, none⟩ (.int .i64 (h - 4 * t))) w.heap.size cb tb (heapM (hpM n u1) x y t 0) T) := ⟨by
          have e : heapM (hpM n u1) x y t 0 = upd (hpM n u1) x y (h - 4 * t) := by rw [← hMh]; rfl
          rw [hpe.out, e]
          exact HH2.out.setC hxb hyb _⟩
         have HB3 : Aside0 (Below w.heap.size w (W3.setCell ⟨cb, p, none⟩ (.int .i64 (h - 4 * t)))) := ⟨HB2.out.setCell (p := ⟨cb, p, none⟩) hc0 _⟩
         clear HH2 HB2 cv fv
         have hbx5 := (HC.out.legal.topple hn.2 k2 (by rw [← hh.out]; exact k3)).1
         go_loopg [11] 4 (fun q v11 wq => ∃ (j : Nat), v11 = .int .i64 (j : Int) ∧ Aside0 (j + q = 4) ∧ Aside0 (HhAt wq w.heap.size cb tb (heapM (hpM n u1) x y t j) T) ∧ Aside0 (Below w.heap.size w wq))
         case atStart => exact ⟨0, rfl, ⟨rfl⟩, HH3, HB3⟩
         case round =>
          clear HH3 HB3 HN hpe hplt hpi hp0
          obtain ⟨j, rfl, HJ, HH, HB⟩ := hrel
          cases gk with
          | zero =>
           have hj : j = 4 := hbJ0 HJ.out
           have hji : ¬ ((j : Int) < 4) := by rw [hj]; decide
           have HHe := HH
           rw [hj, hT.out] at HHe
           go_wp2_with (fail)
           (try simp only [hwy])
           go_roundg ky
           case measure => omega
           case rel => exact ⟨true, bump u1 x y t, y + 1, rfl, by first | rfl | go_num, ⟨hbY HY.out⟩, ⟨HC.out.topple hn.2 k2 (by rw [← hh.out]; exact k3)⟩, ⟨hh_topple HHe.out HC.out.legal k2⟩, HB⟩
          | succ q =>
           have hji : (j : Int) < 4 := hbJi HJ.out
           have hj4 : j ≤ 4 := hbJl HJ.out
           have hwj := hbW HJ.out
           have HM := Aside0.mk (move_quiet (r := (j : Int)) hxb hyb)
           obtain ⟨pq, hpq⟩ : ∃ pq, pq = mv4 (j : Int) x y := ⟨_, rfl⟩
           have hpb2 : Box pq.1 ∧ Box pq.2 := by
            rw [hpq]
            exact hbMv hbx5
           rw [← hpq] at HM
           have HN := Aside0.mk (at_quiet hpb2.1 hpb2.2)
           have hplt := atN_lt hpb2.1 hpb2.2
           obtain ⟨p2, hp2⟩ : ∃ p2, p2 = atN pq.1 pq.2 := ⟨_, rfl⟩
           rw [← hp2] at HN hplt
           have hpi : (p2 : Int) < 14641 := hbP hplt
           obtain ⟨g, hgg⟩ : ∃ g, g = (heapM (hpM n u1) x y t j pq.1 pq.2).getD 0 := ⟨_, rfl⟩
           have hgb : -5000 ≤ g ∧ g ≤ 10000 := by
            rw [hgg]
            exact heap_bd4 HC.out.legal hn.2 hn.1 HC.out.nn rfl x y t (hbT k2) ht2 pq.1 pq.2 hj4
           have hMn : heapM (hpM n u1) x y t (j + 1) = upd (heapM (hpM n u1) x y t j) pq.1 pq.2 (g + t) := by rw [hgg, hpq]; rfl
           obtain ⟨cv, fv⟩ := HH.out.chip_at hpb2.1 hpb2.2
           rw [← hp2] at cv fv
           rw [← hgg] at cv
           replace hMn := Aside0.mk hMn
           replace hgg := Aside0.mk hgg
           replace hp2 := Aside0.mk hp2
           clear hpq
           have hga := hbG hgb k2 ht2
           have hgc : IntKind.i64.wrap (g + t) = g + t := by rw [i64_w]; exact hga
           have hbx1 := hpb2.1
           have hbx2 := hpb2.2
           go_upto_region 22 with (first | (go_at_call 96; (with_reducible refine (HM.out _).mono ?_); rintro e w9 ⟨rfl, ⟨ne, rfl⟩⟩))
           go_wp2_with (first | (go_at_call 73; (with_reducible refine (HN.out _).mono ?_); rintro e w9 ⟨rfl, ⟨nf, rfl⟩⟩))
           (try simp only [hwj, hga])
           go_roundg q
           case measure => omega
           case rel => exact ⟨j + 1, by first | rfl | go_num, ⟨hbJ HJ.out⟩, ⟨by rw [hMn.out, hp2.out]; exact (HH.out.drewN _).setC hpb2.1 hpb2.2 _⟩, ⟨(bN_ HB.out (ne + nf)).setCell (p := ⟨cb, p2, none⟩) hc0 _⟩⟩
end Go.Proofs.Ytjedhjeijpbobaa.G8
namespace Go.Proofs.Ytjedhjeijpbobaa.G8
open Go.RowKit Go.Maps YtjedhjeijpbobaaW.PrintWords YtjedhjeijpbobaaW.PrintLast YtjedhjeijpbobaaW.PrintMore
open GA
def rowV (r : List Int) : Array Value := (r.map (Value.int .i64)).toArray
def RowsAt (w : World) (base : Nat) (vc : Value) (rows : List (List Int)) : Prop := ∃ L, w.ownsRow base 29 1 vc rows.length L ∧ ∀ (i : Nat) (r : List Int), rows[i]? = some r → ∃ b, L[i]? = some (.slice (some ⟨b, 0, none⟩) r.length r.length) ∧ base ≤ b ∧ w.heap[b]? = some (.cells (rowV r) 3 (0, 0))
section
variable {w w1 : World} {base : Nat} {vc : Value} {rows : List (List Int)}
theorem RowsAt.nil (w : World) (base : Nat) : RowsAt w base (.slice none 0 0) [] := ⟨[], own_nil _ _ _ _, fun i r h => by simp at h⟩
theorem RowsAt.keep (h : RowsAt w base vc rows) (e : ∀ b, b < w.heap.size → w1.heap[b]? = w.heap[b]?) : RowsAt w1 base vc rows := by
 obtain ⟨L, h1, h2⟩ := h
 refine ⟨L, own_move h1 (fun k hk => e k (own_lt h1 k hk)), fun i r hr => ?_⟩
 obtain ⟨b, q1, q2, q3⟩ := h2 i r hr
 exact ⟨b, q1, q2, (e b (blk_lt q3)).trans q3⟩
theorem RowsAt.drewN (h : RowsAt w base vc rows) (n : Nat) : RowsAt (w.drewN n) base vc rows := h.keep fun _ _ => by simp
theorem RowsAt.alloc (h : RowsAt w base vc rows) (o : Obj) : RowsAt (w.alloc o) base vc rows := h.keep fun b hb => (MapKept.heap_alloc w o).2 b hb
theorem RowsAt.form (h : RowsAt w base vc rows) (hp : 0 < rows.length) : ∃ g cap, vc = .slice (some ⟨g, 0, none⟩) rows.length cap ∧ ∀ (i : Nat) (r : List Int), rows[i]? = some r → ∃ b, w.cell? ⟨g, i, none⟩ = some (.slice (some ⟨b, 0, none⟩) r.length r.length) ∧ base ≤ b ∧ w.heap[b]? = some (.cells (rowV r) 3 (0, 0)) := by
 obtain ⟨L, hL, hE⟩ := h
 rcases hL.2 with ⟨_, h2⟩ | ⟨g, cap, cur, h1, _, hh, h3, _, h5, h6⟩
 ·omega
 ·refine ⟨g, cap, h1, fun i c hc => ?_⟩
  obtain ⟨b, q1, q2, q3⟩ := hE i c hc
  refine ⟨b, (blk_cell hh i).trans ?_, q2, q3⟩
  rw [← h6, List.getElem?_take] at q1
  split at q1
  ·simpa using q1
  ·cases q1
theorem RowsAt.reads (h : RowsAt w base vc rows) : ∃ A c, vc = .slice A rows.length c ∧ rows.length ≤ c := by
 obtain ⟨L, hL, hE⟩ := h
 rcases hL.2 with ⟨h1, h2⟩ | ⟨g, cap, cur, h1, _, hh, h3, _, h5, h6⟩
 ·exact ⟨none, 0, by rw [h1, h2], by omega⟩
 ·exact ⟨_, cap, h1, h3⟩
end
theorem HhAt.own {w : World} {base cb tb : Nat} {M : Fld} {T : Int → Int → Bool} (h : HhAt w base cb tb M T) {vc : Value} {n : Nat} {L : List Value} (ho : w.ownsRow base 29 1 vc n L) : some cb ≠ vc.ownBlock ∧ some tb ≠ vc.ownBlock := by
 obtain ⟨cl, c1, _⟩ := h.chips
 obtain ⟨tl, t1, _⟩ := h.tops
 exact ⟨own_ne ho c1 (by decide), own_ne ho t1 (by decide)⟩
theorem HhAt.grown {w w1 : World} {base cb tb : Nat} {M : Fld} {T : Int → Int → Bool} (h : HhAt w base cb tb M T) {vc : Value} {n : Nat} {L : List Value} (ho : w.ownsRow base 29 1 vc n L) (hg : w.grownBy w1 vc.ownBlock) : HhAt w1 base cb tb M T := by
 obtain ⟨k1, k2⟩ := h.own ho
 obtain ⟨cl, c1, c2, c3⟩ := h.chips
 obtain ⟨tl, t1, t2, t3⟩ := h.tops
 exact ⟨h.hc, h.ht, ⟨cl, (hg.block cb (blk_lt c1) k1).trans c1, c2, c3⟩, ⟨tl, (hg.block tb (blk_lt t1) k2).trans t1, t2, t3⟩⟩
theorem HhAt.alloc {w : World} {base cb tb : Nat} {M : Fld} {T : Int → Int → Bool} (h : HhAt w base cb tb M T) (o : Obj) : HhAt (w.alloc o) base cb tb M T := h.keep fun b hb => (MapKept.heap_alloc w o).2 b hb
theorem wpList_appR {ops : Array Oper} {rest : List Oper} {o : Oper} {a : Act} {Q : Exit → Act → World → Prop} {W : World} {base cb tb : Nat} {M : Fld} {T : Int → Int → Bool} {vc : Value} {rows : List (List Int)} {r : List Int} {B C : Nat} (hgd : o.guard = none) (sv xv : Operand) (ho : o.op = .call { callee := .builtin .append, args := #[sv, xv], argTypes := #[40, 40] })
  (hs : a.eval sv = vc) (hx : a.eval xv = .slice (some ⟨C, 0, none⟩) 1 1) (hh : HhAt W base cb tb M T) (h : RowsAt W base vc rows) (hbase : base ≤ W.heap.size) (hl : rows.length ≤ 1000000) (hB : W.heap[B]? = some (.cells (rowV r) 3 (0, 0))) (hb : base ≤ B) (hC : W.heap[C]? = some (.cells #[.slice (some ⟨B, 0, none⟩) r.length r.length] 29 (0, 0)))
  (k : ∀ g1 cap w1, RowsAt w1 base (.slice (some ⟨g1, 0, none⟩) (rows.length + 1) cap) (rows ++ [r]) → HhAt w1 base cb tb M T → Below base W w1 →
   wpList Try.prog ops Q rest (a.put o.dst (.slice (some ⟨g1, 0, none⟩) (rows.length + 1) cap)) w1) : wpList Try.prog ops Q (o :: rest) a W := by
 obtain ⟨i0, hi0, hz⟩ := Option.map_eq_some_iff.1 info29
 simp only [Prod.mk.injEq] at hz
 obtain ⟨hz0, hz1, hz2⟩ := hz
 obtain ⟨L, hL, hE⟩ := h
 refine wpList_append_lies (w := W) hgd sv xv 40 ho base 29 i0 (.slice none 0 0) 1 24 Try.underlying40 hi0 hz0 hz1 hz2 rfl (by omega) vc rows.length L hs hL ⟨C, 0, none⟩ 1 1 [.slice (some ⟨B, 0, none⟩) r.length r.length] hx rfl (World.news_of_block hC) (by intro u hu; simp at hu; subst hu; rfl) (by omega) (by unfold maxLen; omega) (by omega) hbase _ rfl ?_
 intro g1 cap w1 hown hg hat hlt
 have hel : ∀ (b : Nat) (r : List Int), W.heap[b]? = some (Obj.cells (rowV r) 3 (0, 0)) → w1.heap[b]? = some (Obj.cells (rowV r) 3 (0, 0)) := fun b r hb => (hg.block b (blk_lt hb) (own_ne hL hb (by decide))).trans hb
 refine k g1 cap w1 ⟨L ++ [.slice (some ⟨B, 0, none⟩) r.length r.length], by rw [List.length_append, List.length_singleton]; exact hown, ?_⟩ (hh.grown hL hg) ((Below.refl base W).grown hg hbase (own_base hL))
 have hLl : L.length = rows.length := by have := hL.1; omega
 intro i c hc
 rcases Nat.lt_trichotomy i rows.length with hi | hi | hi
 ·rw [List.getElem?_append_left hi] at hc
  obtain ⟨b, p1, p2, p3⟩ := hE i c hc
  exact ⟨b, by rw [List.getElem?_append_left (by omega)]; exact p1, p2, hel b _ p3⟩
 ·subst hi
  rw [List.getElem?_append_right (Nat.le_refl _)] at hc
  simp at hc
  subst hc
  exact ⟨B, by rw [List.getElem?_append_right (by omega), hLl]; simp, hb, hel B _ hB⟩
 ·rw [List.getElem?_append_right (by omega)] at hc
  rw [List.getElem?_eq_none (by simp; omega)] at hc
  cases hc
def lexLt (c d : Int × Int) : Prop := c.1 < d.1 ∨ (c.1 = d.1 ∧ c.2 < d.2)
def hot (n : Int) (u : Odo) (a b : Int) : Prop := 0 < hp n u a b ∨ 0 < u a b
structure HList (n : Int) (u : Odo) (x y : Int) (cs : List (Int × Int)) : Prop where
 sorted : cs.Pairwise lexLt
 is : ∀ a b, (a, b) ∈ cs ↔ (Box a ∧ Box b ∧ (a < x ∨ (a = x ∧ b < y))) ∧ hot n u a b
 few : (cs.length : Int) ≤ (x + 60) * 121 + (y + 60)
section
variable {n : Int} {u : Odo} {x y : Int} {cs : List (Int × Int)}
theorem HList.start (n : Int) (u : Odo) : HList n u (-60) (-60) [] := ⟨List.Pairwise.nil, fun a b => by unfold Box; simp; omega, by decide⟩
theorem HList.row (h : HList n u x 61 cs) : HList n u (x + 1) (-60) cs := ⟨h.sorted, fun a b => by rw [h.is]; unfold Box; constructor <;> (rintro ⟨⟨h1, h2, h3⟩, h4⟩; exact ⟨⟨h1, h2, by omega⟩, h4⟩), by have := h.few; omega⟩
theorem HList.cold (h : HList n u x y cs) (hc : ¬ hot n u x y) : HList n u x (y + 1) cs := ⟨h.sorted, fun a b => by
 rw [h.is]
 constructor
 ·rintro ⟨⟨h1, h2, h3⟩, h4⟩; exact ⟨⟨h1, h2, by omega⟩, h4⟩
 ·rintro ⟨⟨h1, h2, h3⟩, h4⟩
  refine ⟨⟨h1, h2, ?_⟩, h4⟩
  by_cases e : a = x ∧ b = y
  ·rw [e.1, e.2] at h4; exact absurd h4 hc
  ·omega, by have := h.few; omega⟩
theorem HList.hot (h : HList n u x y cs) (hx : Box x) (hy : Box y) (hc : G8.hot n u x y) : HList n u x (y + 1) (cs ++ [(x, y)]) := by
 refine ⟨?_, fun a b => ?_, by rw [List.length_append, List.length_singleton]; have := h.few; omega⟩
 ·rw [List.pairwise_append]
  refine ⟨h.sorted, List.pairwise_singleton _ _, fun c hc d hd => ?_⟩
  simp at hd
  subst hd
  exact ((h.is c.1 c.2).1 hc).1.2.2
 ·simp only [List.mem_append, List.mem_singleton, Prod.mk.injEq]
  rw [h.is]
  constructor
  ·rintro (⟨⟨h1, h2, h3⟩, h4⟩ | ⟨rfl, rfl⟩)
   ·exact ⟨⟨h1, h2, by omega⟩, h4⟩
   ·exact ⟨⟨hx, hy, by omega⟩, hc⟩
  ·rintro ⟨⟨h1, h2, h3⟩, h4⟩
   by_cases e : a = x ∧ b = y
   ·exact .inr e
   ·exact .inl ⟨⟨h1, h2, by omega⟩, h4⟩
theorem HList.finish (h : HList n u 61 (-60) cs) (a b : Int) : (a, b) ∈ cs ↔ Box a ∧ Box b ∧ G8.hot n u a b := by
 rw [h.is]
 constructor
 ·rintro ⟨⟨h1, h2, h3⟩, h4⟩; exact ⟨h1, h2, h4⟩
 ·rintro ⟨h1, h2, h4⟩; exact ⟨⟨h1, h2, by unfold Box at *; omega⟩, h4⟩
end
def hrows (n : Int) (u : Odo) (cs : List (Int × Int)) : List (List Int) := cs.map fun c => [c.1, c.2, hp n u c.1 c.2]
theorem hot_no {n : Int} {u : Odo} {x y : Int} (h1 : ¬ hp n u x y > 0) (h2 : hpT u x y = false) : ¬ hot n u x y := by
 unfold hpT at h2
 have h3 := of_decide_eq_false h2
 unfold hot
 omega
theorem hot_top {n : Int} {u : Odo} {x y : Int} (h2 : hpT u x y = true) : hot n u x y := .inr (of_decide_eq_true h2)
theorem hrows_app (n : Int) (u : Odo) (cs : List (Int × Int)) (x y : Int) : hrows n u (cs ++ [(x, y)]) = hrows n u cs ++ [[x, y, hp n u x y]] := by unfold hrows; simp
theorem hrows_len (n : Int) (u : Odo) (cs : List (Int × Int)) : (hrows n u cs).length = cs.length := by unfold hrows; simp
def HcOut (w : World) (n : Int) (e : Ending) (w' : World) : Prop := ∃ vc cs u, e = .returned (.tuple #[vc, .bool true]) ∧ Below w.heap.size w w' ∧ Aside0 (RowsAt w' w.heap.size vc (hrows n u cs)) ∧ Aside0 (Legal n u) ∧ Aside0 (∀ a b, 0 ≤ hp n u a b ∧ hp n u a b ≤ 3) ∧ Aside0 (HList n u 61 (-60) cs)
theorem HList.many {n : Int} {u : Odo} {x y : Int} {cs : List (Int × Int)} (h : HList n u x y cs) (hx : x ≤ 60) (hy : y ≤ 60) : (hrows n u cs).length ≤ 1000000 := by
 rw [hrows_len]
 have := h.few
 omega
theorem in_bad {n : Int} (h : ¬ (0 ≤ n ∧ n ≤ 250)) : spec_l1In.f n 0 250 = some false := by
 unfold spec_l1In.f
 by_cases q : n ≥ 0
 ·rw [if_pos q, decide_eq_false (by omega)]
 ·rw [if_neg q]
theorem in_good {n : Int} (h : 0 ≤ n ∧ n ≤ 250) : spec_l1In.f n 0 250 = some true := by
 unfold spec_l1In.f
 rw [if_pos h.1, decide_eq_true h.2]
set_option maxHeartbeats 4000000 in
set_option maxRecDepth 100000 in
theorem heapCells_bad (n : Int) (hn : ¬ (0 ≤ n ∧ n ≤ 250)) (w : World) : Calls Try.prog 61 #[.int .i64 n] w fun e w' => e = .returned (.tuple #[.slice none 0 0, .bool false]) ∧ Below w.heap.size w w' := by
 have HA := Aside0.mk (fun W => spec_l1In.calls n 0 250 false W (in_bad hn))
 go_enter Try.func61, Try.ntmps61
 go_wp2_with (first | (go_at_call 72; (with_reducible refine (HA.out _).mono ?_); rintro e w1 ⟨rfl, ⟨nd, rfl⟩⟩))
 go_ret2
 exact ⟨rfl, by repeat (first | exact Below.refl _ _ | apply bN_)⟩
set_option maxHeartbeats 4000000 in
set_option maxRecDepth 100000 in
theorem heapCells_calls (n : Int) (hn : 0 ≤ n ∧ n ≤ 250) (w : World) : Calls Try.prog 61 #[.int .i64 n] w (HcOut w n) := by
 have HA := Aside0.mk (fun W => spec_l1In.calls n 0 250 true W (in_good hn))
 have HG := Aside0.mk (fun W => gwHeap_calls n hn W)
 go_enter Try.func61, Try.ntmps61
 go_upto_region 3 with (first | (go_at_call 72; (with_reducible refine (HA.out _).mono ?_); rintro e w1 ⟨rfl, ⟨nd, rfl⟩⟩))
 go_upto_region 4 with (first | (go_at_call 95; (with_reducible refine (HG.out _).mono ?_); rintro e w1 ⟨cb, tb, u, rfl, hB, hH, hL, hS⟩))
 have HB0 := Aside0.mk (below_then (bN_ (Below.refl w.heap.size w) nd) (by simp) hB)
 have HH0 : Aside0 (HhAt w1 w.heap.size cb tb (hpM n u) (hpT u)) := ⟨by simpa using hH.out⟩
 have HL := hL
 have HS := hS
 have HL0 := Aside0.mk (HList.start n u)
 have HR0 := Aside0.mk (RowsAt.nil w1 w.heap.size)
 clear hB hH hL hS HA HG
 go_upto_region 5 with (fail)
 go_wp2_with (fail)
 go_loopg [6, 7] 121 (fun k v6 v7 wq => ∃ (vc : Value) (cs : List (Int × Int)) (x : Int), v6 = vc ∧ v7 = .int .i64 x ∧ Aside0 (-60 ≤ x ∧ x + (k : Int) = 61) ∧ Aside0 (HList n u x (-60) cs) ∧ Aside0 (HhAt wq w.heap.size cb tb (hpM n u) (hpT u)) ∧ Aside0 (RowsAt wq w.heap.size vc (hrows n u cs)) ∧ Aside0 (Below w.heap.size w wq))
 case atStart => exact ⟨_, [], -60, rfl, rfl, ⟨by decide⟩, HL0, HH0, HR0, HB0⟩
 case round =>
  clear HL0 HH0 HR0 HB0
  obtain ⟨vc, cs, x, hvc, rfl, HX, HC, HH, HR, HB⟩ := hrel
  replace hvc := hvc.symm
  subst hvc
  cases gk with
  | zero =>
   have hx60 : x = 61 := by have := HX.out.2; omega
   subst hx60
   have hle : ¬ ((61 : Int) ≤ 60) := by omega
   go_wp2_with (fail)
   refine bodyPost_ret (v := .tuple #[vc, .bool true]) (by simp [results, Try.results61, go_sem]) rfl ?_
   exact ⟨vc, cs, u, rfl, HB.out, HR, HL, HS, HC⟩
  | succ kx =>
   have hle : x ≤ 60 := by have := HX.out.2; omega
   have hx1 := HX.out.1
   have hxb : Box x := ⟨hx1, hle⟩
   have hwx := wrap_id (x := x + 1) (by omega) (by omega)
   go_upto_region 8 with (fail)
   go_wp2_with (fail)
   go_loopg [6, 8] 121 (fun k v6 v8 wq => ∃ (vc : Value) (cs : List (Int × Int)) (y : Int), v6 = vc ∧ v8 = .int .i64 y ∧ Aside0 (-60 ≤ y ∧ y + (k : Int) = 61) ∧ Aside0 (HList n u x y cs) ∧ Aside0 (HhAt wq w.heap.size cb tb (hpM n u) (hpT u)) ∧ Aside0 (RowsAt wq w.heap.size vc (hrows n u cs)) ∧ Aside0 (Below w.heap.size w wq))
   case atStart => exact ⟨_, cs, -60, rfl, rfl, ⟨by decide⟩, HC, HH, HR, HB⟩
   case round =>
    clear HC HH HR HB
    obtain ⟨vc, cs, y, hvc, rfl, HY, HC, HH, HR, HB⟩ := hrel
    replace hvc := hvc.symm
    subst hvc
    cases gk with
    | zero =>
     have hy60 : y = 61 := by have := HY.out.2; omega
     subst hy60
     have hley : ¬ ((61 : Int) ≤ 60) := by omega
     go_wp2_with (fail)
     (try simp only [hwx])
     go_roundg kx
     case measure => omega
     case rel => exact ⟨vc, cs, x + 1, rfl, by first | rfl | go_num, ⟨by have := HX.out; omega⟩, ⟨HC.out.row⟩, HH, HR, HB⟩
    | succ ky =>
     have hley : y ≤ 60 := by have := HY.out.2; omega
     have hy1 := HY.out.1
     have hyb : Box y := ⟨hy1, hley⟩
     have hwy := wrap_id (x := y + 1) (by omega) (by omega)
     have HN := Aside0.mk (at_quiet hxb hyb)
     have hplt := atN_lt hxb hyb
     obtain ⟨p, hpe⟩ : ∃ p, p = atN x y := ⟨_, rfl⟩
     rw [← hpe] at HN hplt
     have hpi : (p : Int) < 14641 := by omega
     have hp0 : (0 : Int) ≤ (p : Int) := by omega
     replace hpe := Aside0.mk hpe
     go_upto_region 11 with (fail)
     go_upto_region 12 with (first | (go_at_call 73; (with_reducible refine (HN.out _).mono ?_); rintro e w9 ⟨rfl, ⟨nd, rfl⟩⟩))
     have HH1 := Aside0.mk (HH.out.drewN nd)
     have HR1 := Aside0.mk (HR.out.drewN nd)
     have HB1 : Aside0 (Below w.heap.size w (wr.drewN nd)) := ⟨bN_ HB.out nd⟩
     clear HH HB HR
     generalize wr.drewN nd = W2 at *
     obtain ⟨cv, fv⟩ := HH1.out.chip_at hxb hyb
     obtain ⟨tv, gv⟩ := HH1.out.top_at hxb hyb
     rw [← hpe.out] at cv fv tv gv
     obtain ⟨h, hh⟩ : ∃ h, h = hp n u x y := ⟨_, rfl⟩
     have hMh : (hpM n u x y).getD 0 = h := by rw [hh]; rfl
     rw [hMh] at cv
     obtain ⟨b, hb⟩ : ∃ b, b = hpT u x y := ⟨_, rfl⟩
     rw [← hb] at tv
     replace hh := Aside0.mk hh
     replace hb := Aside0.mk hb
     by_cases h4 : h > 0
     ·go_upto_region 13 with (fail)
      have HHo : Aside0 (hot n u x y) := ⟨.inl (by rw [← hh.out]; exact h4)⟩
      have hs2 := HB1.out.size
      have HHb : Aside0 (HhAt ((W2.alloc (.cells #[.int .i64 x, .int .i64 y, .int .i64 h] 3)).alloc (.cells #[.slice (some ⟨W2.heap.size, 0, none⟩) 3 3] 29)) w.heap.size cb tb (hpM n u) (hpT u)) := ⟨(HH1.out.alloc _).alloc _⟩
      have HRb : Aside0 (RowsAt ((W2.alloc (.cells #[.int .i64 x, .int .i64 y, .int .i64 h] 3)).alloc (.cells #[.slice (some ⟨W2.heap.size, 0, none⟩) 3 3] 29)) w.heap.size vc (hrows n u cs)) := ⟨(HR1.out.alloc _).alloc _⟩
      have HBb : Aside0 (Below w.heap.size w ((W2.alloc (.cells #[.int .i64 x, .int .i64 y, .int .i64 h] 3)).alloc (.cells #[.slice (some ⟨W2.heap.size, 0, none⟩) 3 3] 29))) := ⟨(HB1.out.alloc hs2 _).alloc (by simp; omega) _⟩
      have hcl := HC.out.many hle hley
      go_wp2_with (first | ((with_reducible refine gate_builtin (b := .append) (xs := #[.tmp 40, .tmp 48]) rfl ?_); refine wpList_appR (r := [x, y, h]) rfl (.tmp 40) (.tmp 48) rfl rfl rfl HHb.out HRb.out HBb.out.size hcl (two_new W2 _ _) hs2 (two_new1 W2 _ _) ?_; intro g1 cap1 w11 hR hH hB; have HR11 := Aside0.mk hR; have HH11 := Aside0.mk hH; have HB11 := Aside0.mk (HBb.out.trans hB); clear hR hH hB))
      (try simp only [hwy])
      go_roundg ky
      case measure => omega
      case rel => exact ⟨_, cs ++ [(x, y)], y + 1, rfl, by first | rfl | go_num, ⟨by have := HY.out; omega⟩, ⟨HC.out.hot hxb hyb HHo.out⟩, HH11, ⟨by rw [hrows_app, ← hh.out]; exact HR11.out⟩, HB11⟩
     ·cases b with
      | true =>
       go_upto_region 13 with (fail)
       have HHo : Aside0 (hot n u x y) := ⟨hot_top hb.out.symm⟩
       have hs2 := HB1.out.size
       have HHb : Aside0 (HhAt ((W2.alloc (.cells #[.int .i64 x, .int .i64 y, .int .i64 h] 3)).alloc (.cells #[.slice (some ⟨W2.heap.size, 0, none⟩) 3 3] 29)) w.heap.size cb tb (hpM n u) (hpT u)) := ⟨(HH1.out.alloc _).alloc _⟩
       have HRb : Aside0 (RowsAt ((W2.alloc (.cells #[.int .i64 x, .int .i64 y, .int .i64 h] 3)).alloc (.cells #[.slice (some ⟨W2.heap.size, 0, none⟩) 3 3] 29)) w.heap.size vc (hrows n u cs)) := ⟨(HR1.out.alloc _).alloc _⟩
       have HBb : Aside0 (Below w.heap.size w ((W2.alloc (.cells #[.int .i64 x, .int .i64 y, .int .i64 h] 3)).alloc (.cells #[.slice (some ⟨W2.heap.size, 0, none⟩) 3 3] 29))) := ⟨(HB1.out.alloc hs2 _).alloc (by simp; omega) _⟩
       have hcl := HC.out.many hle hley
       go_wp2_with (first | ((with_reducible refine gate_builtin (b := .append) (xs := #[.tmp 40, .tmp 48]) rfl ?_); refine wpList_appR (r := [x, y, h]) rfl (.tmp 40) (.tmp 48) rfl rfl rfl HHb.out HRb.out HBb.out.size hcl (two_new W2 _ _) hs2 (two_new1 W2 _ _) ?_; intro g1 cap1 w11 hR hH hB; have HR11 := Aside0.mk hR; have HH11 := Aside0.mk hH; have HB11 := Aside0.mk (HBb.out.trans hB); clear hR hH hB))
       (try simp only [hwy])
       go_roundg ky
       case measure => omega
       case rel => exact ⟨_, cs ++ [(x, y)], y + 1, rfl, by first | rfl | go_num, ⟨by have := HY.out; omega⟩, ⟨HC.out.hot hxb hyb HHo.out⟩, HH11, ⟨by rw [hrows_app, ← hh.out]; exact HR11.out⟩, HB11⟩
      | false =>
       go_wp2_with (fail)
       (try simp only [hwy])
       go_roundg ky
       case measure => omega
       case rel => exact ⟨vc, cs, y + 1, rfl, by first | rfl | go_num, ⟨by have := HY.out; omega⟩, ⟨HC.out.cold (hot_no (by rw [← hh.out]; omega) hb.out.symm)⟩, HH1, HR1, HB1⟩
end Go.Proofs.Ytjedhjeijpbobaa.G8
namespace Go.Proofs.Ytjedhjeijpbobaa.G8
def rowL (p : Int → Int → Bool) (x : Int) : Nat → Int → List (Int × Int)
 | 0, _ => []
 | k + 1, y => if p x y = true then (x, y) :: rowL p x k (y + 1) else rowL p x k (y + 1)
def gridL (p : Int → Int → Bool) (lo : Int) (m : Nat) : Nat → Int → List (Int × Int)
 | 0, _ => []
 | k + 1, x => rowL p x m lo ++ gridL p lo m k (x + 1)
theorem mem_rowL (p : Int → Int → Bool) (x a b : Int) : ∀ (k : Nat) (y : Int), (a, b) ∈ rowL p x k y ↔ a = x ∧ y ≤ b ∧ b < y + k ∧ p a b = true
 | 0, y => by simp [rowL]; omega
 | k + 1, y => by
  have ih := mem_rowL p x a b k (y + 1)
  unfold rowL
  by_cases q : p x y = true
  ·rw [if_pos q, List.mem_cons, ih, Prod.mk.injEq]
   constructor
   ·rintro (⟨rfl, rfl⟩ | ⟨h1, h2, h3, h4⟩)
    ·exact ⟨rfl, by omega, by omega, q⟩
    ·exact ⟨h1, by omega, by omega, h4⟩
   ·rintro ⟨h1, h2, h3, h4⟩
    by_cases e : b = y
    ·exact .inl ⟨h1, e⟩
    ·exact .inr ⟨h1, by omega, by omega, h4⟩
  ·rw [if_neg q, ih]
   constructor
   ·rintro ⟨h1, h2, h3, h4⟩; exact ⟨h1, by omega, by omega, h4⟩
   ·rintro ⟨h1, h2, h3, h4⟩
    have e : b ≠ y := by rintro rfl; rw [h1] at h4; exact q h4
    exact ⟨h1, by omega, by omega, h4⟩
theorem mem_gridL (p : Int → Int → Bool) (lo : Int) (m : Nat) (a b : Int) : ∀ (k : Nat) (x : Int), (a, b) ∈ gridL p lo m k x ↔ x ≤ a ∧ a < x + k ∧ lo ≤ b ∧ b < lo + m ∧ p a b = true
 | 0, x => by simp [gridL]; omega
 | k + 1, x => by
  unfold gridL
  rw [List.mem_append, mem_rowL, mem_gridL p lo m a b k (x + 1)]
  constructor
  ·rintro (⟨rfl, h2, h3, h4⟩ | ⟨h1, h2, h3, h4, h5⟩)
   ·exact ⟨by omega, by omega, h2, h3, h4⟩
   ·exact ⟨by omega, by omega, h3, h4, h5⟩
  ·rintro ⟨h1, h2, h3, h4, h5⟩
   by_cases e : a = x
   ·exact .inl ⟨e, h3, h4, h5⟩
   ·exact .inr ⟨by omega, by omega, h3, h4, h5⟩
theorem sorted_rowL (p : Int → Int → Bool) (x : Int) : ∀ (k : Nat) (y : Int), (rowL p x k y).Pairwise lexLt
 | 0, y => List.Pairwise.nil
 | k + 1, y => by
  have ih := sorted_rowL p x k (y + 1)
  unfold rowL
  split
  ·refine List.Pairwise.cons (fun c hc => ?_) ih
   have := (mem_rowL p x c.1 c.2 k (y + 1)).1 hc
   unfold lexLt
   simp only
   omega
  ·exact ih
theorem sorted_gridL (p : Int → Int → Bool) (lo : Int) (m : Nat) : ∀ (k : Nat) (x : Int), (gridL p lo m k x).Pairwise lexLt
 | 0, x => List.Pairwise.nil
 | k + 1, x => by
  unfold gridL
  rw [List.pairwise_append]
  refine ⟨sorted_rowL p x m lo, sorted_gridL p lo m k (x + 1), fun c hc d hd => ?_⟩
  have h1 := (mem_rowL p x c.1 c.2 m lo).1 hc
  have h2 := (mem_gridL p lo m d.1 d.2 k (x + 1)).1 hd
  unfold lexLt
  omega
theorem lex_irrefl (c : Int × Int) : ¬ lexLt c c := by unfold lexLt; omega
theorem lex_asymm {c d : Int × Int} (h : lexLt c d) : ¬ lexLt d c := by unfold lexLt at *; omega
theorem lex_one : ∀ {l m : List (Int × Int)}, l.Pairwise lexLt → m.Pairwise lexLt → (∀ c, c ∈ l ↔ c ∈ m) → l = m
 | [], [], _, _, _ => rfl
 | [], d :: m, _, _, h => absurd ((h d).2 (by simp)) (by simp)
 | c :: l, [], _, _, h => absurd ((h c).1 (by simp)) (by simp)
 | c :: l, d :: m, hl, hm, h => by
  obtain ⟨l1, l2⟩ := List.pairwise_cons.1 hl
  obtain ⟨m1, m2⟩ := List.pairwise_cons.1 hm
  have e : c = d := by
   have h1 := (h c).1 (by simp)
   have h2 := (h d).2 (by simp)
   rw [List.mem_cons] at h1 h2
   rcases h1 with h1 | h1
   ·exact h1
   ·rcases h2 with h2 | h2
    ·exact h2.symm
    ·exact absurd (m1 c h1) (lex_asymm (l1 d h2))
  subst e
  congr 1
  refine lex_one l2 m2 fun x => ?_
  have hx := h x
  rw [List.mem_cons, List.mem_cons] at hx
  constructor
  ·intro k
   rcases hx.1 (.inr k) with e | e
   ·subst e; exact absurd (l1 x k) (lex_irrefl x)
   ·exact e
  ·intro k
   rcases hx.2 (.inr k) with e | e
   ·subst e; exact absurd (m1 x k) (lex_irrefl x)
   ·exact e
def stab (n : Int) : Nat → Odo → Odo
 | 0, u => u
 | k + 1, u => match gridL (fun a b => decide (4 ≤ hp n u a b)) (-6) 13 13 (-6) with
  | [] => u
  | c :: _ => stab n k (bump u c.1 c.2 1)
theorem stab_ok {n : Int} (hn : n ≤ 250) : ∀ (k : Nat) (u : Odo), Legal n u → (∀ a b, 0 ≤ hp n u a b) → 1209 - S2 u < k → Legal n (stab n k u) ∧ (∀ a b, 0 ≤ hp n (stab n k u) a b ∧ hp n (stab n k u) a b ≤ 3)
 | 0, u, h, _, hk => by have := (S2_bd h hn).2; omega
 | k + 1, u, h, hnn, hk => by
  unfold stab
  split
  ·rename_i e
   refine ⟨h, fun a b => ⟨hnn a b, ?_⟩⟩
   by_cases q : -6 ≤ a ∧ a ≤ 6 ∧ -6 ≤ b ∧ b ≤ 6
   ·by_cases q2 : 4 ≤ hp n u a b
    ·have := (mem_gridL (fun a b => decide (4 ≤ hp n u a b)) (-6) 13 a b 13 (-6)).2 ⟨by omega, by omega, by omega, by omega, decide_eq_true q2⟩
     rw [e] at this
     simp at this
    ·omega
   ·rw [hp_out h hn q]; omega
  ·rename_i c l e
   have hc : (c.1, c.2) ∈ gridL (fun a b => decide (4 ≤ hp n u a b)) (-6) 13 13 (-6) := by rw [e]; simp
   have h4 := of_decide_eq_true ((mem_gridL _ _ _ _ _ _ _).1 hc).2.2.2.2
   obtain ⟨h1, h2, h3, h5⟩ := h.topple hn (t := 1) (by omega) (x := c.1) (y := c.2) (by omega)
   refine stab_ok hn k _ h2 (fun a b => ?_) (by rw [h3]; omega)
   have := hnn a b
   rw [hp_bump]
   split
   ·rename_i e2
    rw [e2.1, e2.2] at *
    omega
   ·split <;> omega
def heapU (n : Int) : Odo := stab n 1210 (fun _ _ => 0)
def hotB (n : Int) (a b : Int) : Bool := decide (0 < hp n (heapU n) a b) || decide (0 < heapU n a b)
def heapCs (n : Int) : List (Int × Int) := gridL (hotB n) (-60) 121 121 (-60)
theorem heapU_ok {n : Int} (h : 0 ≤ n ∧ n ≤ 250) : Legal n (heapU n) ∧ (∀ a b, 0 ≤ hp n (heapU n) a b ∧ hp n (heapU n) a b ≤ 3) :=
 stab_ok h.2 1210 _ (Legal.zero n) (fun a b => by rw [hp_zero]; split <;> omega) (by rw [S2_nul]; decide)
theorem heapU_is {n : Int} (h : 0 ≤ n ∧ n ≤ 250) {u : Odo} (hu : Legal n u) (hs : ∀ a b, hp n u a b ≤ 3) : u = heapU n :=
 hu.unique (heapU_ok h).1 hs (fun a b => ((heapU_ok h).2 a b).2)
theorem hot_near {n : Int} {u : Odo} (hu : Legal n u) (hn : n ≤ 250) {a b : Int} (h : hot n u a b) : -6 ≤ a ∧ a ≤ 6 ∧ -6 ≤ b ∧ b ≤ 6 := by
 by_cases q : -6 ≤ a ∧ a ≤ 6 ∧ -6 ≤ b ∧ b ≤ 6
 ·exact q
 ·have h1 := hp_out hu hn q
  have h2 := hu.le hn a b
  rw [v250_out (by omega)] at h2
  unfold hot at h
  omega
theorem hotB_iff (n a b : Int) : hotB n a b = true ↔ hot n (heapU n) a b := by unfold hotB hot; simp
theorem mem_heapCs {n : Int} (h : 0 ≤ n ∧ n ≤ 250) (a b : Int) : (a, b) ∈ heapCs n ↔ hot n (heapU n) a b := by
 unfold heapCs
 rw [mem_gridL, hotB_iff]
 constructor
 ·exact fun k => k.2.2.2.2
 ·intro k
  have := hot_near (heapU_ok h).1 h.2 k
  exact ⟨by omega, by omega, by omega, by omega, k⟩
theorem HList.eq {n : Int} (h : 0 ≤ n ∧ n ≤ 250) {cs : List (Int × Int)} (hl : HList n (heapU n) 61 (-60) cs) : cs = heapCs n := by
 refine lex_one hl.sorted (sorted_gridL _ _ _ _ _) fun c => ?_
 have h1 := hl.finish c.1 c.2
 have h2 := mem_heapCs h c.1 c.2
 rw [h2, h1]
 constructor
 ·exact fun k => k.2.2
 ·intro k
  have := hot_near (heapU_ok h).1 h.2 k
  exact ⟨⟨by omega, by omega⟩, ⟨by omega, by omega⟩, k⟩
theorem sqF_le (v : Int) : ∀ (cs : List (Int × Int)) (m : Int), sqF m cs ≤ v ↔ m ≤ v ∧ ∀ c ∈ cs, sq c ≤ v
 | [], m => by simp [sqF]
 | c :: cs, m => by
  show sqF (if m > sq c then m else sq c) cs ≤ v ↔ _
  rw [sqF_le v cs]
  constructor
  ·rintro ⟨h1, h2⟩
   refine ⟨by split at h1 <;> omega, fun d hd => ?_⟩
   rw [List.mem_cons] at hd
   rcases hd with rfl | hd
   ·split at h1 <;> omega
   ·exact h2 d hd
  ·rintro ⟨h1, h2⟩
   have := h2 c (by simp)
   exact ⟨by split <;> omega, fun d hd => h2 d (by simp [hd])⟩
theorem sqF_same {cs ds : List (Int × Int)} (m : Int) (h : ∀ c, c ∈ cs ↔ c ∈ ds) : sqF m cs = sqF m ds := by
 have h1 := (sqF_le (sqF m ds) cs m).2 (by
  have := (sqF_le (sqF m ds) ds m).1 (Int.le_refl _)
  exact ⟨this.1, fun c hc => this.2 c ((h c).1 hc)⟩)
 have h2 := (sqF_le (sqF m cs) ds m).2 (by
  have := (sqF_le (sqF m cs) cs m).1 (Int.le_refl _)
  exact ⟨this.1, fun c hc => this.2 c ((h c).2 hc)⟩)
 omega
def heapV (n : Int) : Int := if 1 ≤ n ∧ n ≤ 250 then sqF 0 (heapCs n) else 0
def okHeap (n : Int) : Bool := decide (1 ≤ n ∧ n ≤ 250)
theorem heap_none : heapCs 0 = [] := by
 rcases hq : heapCs 0 with _ | ⟨c, l⟩
 ·rfl
 ·exfalso
  have h0 : (0 : Int) ≤ 0 ∧ (0 : Int) ≤ 250 := by omega
  have hz : heapU 0 = fun _ _ => 0 := ((heapU_is h0 (Legal.zero 0) (fun a b => by rw [hp_zero]; split <;> omega))).symm
  have h1 := (mem_heapCs h0 c.1 c.2).1 (by rw [hq]; simp)
  rw [hz] at h1
  unfold hot at h1
  rw [hp_zero] at h1
  simp only [Int.lt_irrefl, or_false] at h1
  split at h1 <;> omega
end Go.Proofs.Ytjedhjeijpbobaa.G8
namespace Go.Proofs.Ytjedhjeijpbobaa.G8
open Go.RowKit Go.Maps Go.MapKept Go.WideShapes Go.ChangeMaps YtjedhjeijpbobaaW.PrintWords YtjedhjeijpbobaaW.PrintLast YtjedhjeijpbobaaW.PrintMore
theorem zeroAll (u : World) : (zeroValue 3).run Try.prog u = .ok (.int .i64 0) u := zero3 u
set_option maxRecDepth 100000 in
theorem MapIs.look0 {w : World} {gm N : Nat} {F : Fld} (h : MapIs w gm N F) {x y : Int} (hx : (Lit.int .i64 x).wf = true) (hy : (Lit.int .i64 y).wf = true) :
  (Instr.lookup 67 (.map (some gm)) (cellV x y) false).run Try.prog w = .ok (.int .i64 ((F x y).getD 0)) w := by
 obtain ⟨D, hown, hfi⟩ := h
 have hhas := hfi.has x y hx hy
 have hval := hfi.val x y
 obtain ⟨es, clock, hb, Ft, hs, rfl⟩ := hown
 rcases Maps.fit_look false law76 Try.underlying67 (zeroAll w) hb Ft (key_is x y hx hy) with ⟨hrun, _, hat⟩ | ⟨e0, q, _, _, hrun, hRv, hat, _⟩
 ·rw [Maps.has_false_of_atKey hat] at hhas
  rw [hrun]
  cases hF : F x y with
  | none => rfl
  | some r => rw [hF] at hhas; cases hhas
 ·rw [Maps.has_true_of_atKey hat] at hhas
  rw [hrun]
  cases hF : F x y with
  | none => rw [hF] at hhas; cases hhas
  | some r =>
   have h1 := hval r hx hy hF
   rw [hat] at h1
   obtain ⟨c, hc1, hc2, _⟩ := plainElem_int_inv Try.underlying3 hRv
   have h2 := congrArg Prod.fst hc2
   rw [h1] at h2
   simp only at h2
   injection h2 with h2
   injection h2 with _ h2
   simp only [Bool.false_eq_true, if_false]
   rw [hc1, ← h2]
   rfl
set_option maxRecDepth 100000 in
theorem look_mid {w w6 : World} {gm N : Nat} {F : Fld} (h : MapIs w gm N F) {x y : Int} (hx : (Lit.int .i64 x).wf = true) (hy : (Lit.int .i64 y).wf = true) (hN : N ≤ 80000000) {v : Value}
  (hrun : (Instr.mapEntry 67 (.map (some gm)) (cellV x y)).run Try.prog w = .ok v w6) : (Instr.lookup 67 (.map (some gm)) (cellV x y) false).run Try.prog w6 = .ok (.int .i64 ((F x y).getD 0)) w6 := by
 have hkey := key_is x y hx hy
 have hM := h
 obtain ⟨D, hown, hfi⟩ := h
 have hhas := hfi.has x y hx hy
 obtain ⟨w8, u1, u2, _⟩ := hown.update law76 Try.underlying67 (by unfold maxLen; omega) hkey (plainElem_int (a := 0) Try.underlying3 (by decide))
 have hM8 : MapIs w8 gm (N + 1) (upd F x y 0) := ⟨_, u2, hfi.put hown.isMap hx hy⟩
 obtain ⟨es, clock, hb, Ft, hs, rfl⟩ := hown
 rcases klaw76.find w hkey es.toList Ft.keys with ⟨h1, h2⟩ | ⟨j, e0, h1, h2, h3⟩
 ·simp [Instr.mapEntry, run_underlying Try.underlying67, MapKept.run_getObj_map hb, klaw76.check w false hkey, h1, zeroAll, MapKept.run_setObj_map _ hb, Result.andThen] at hrun
  simp [Instr.mapUpdate, run_underlying Try.underlying67, MapKept.run_getObj_map hb, klaw76.check w false hkey, h1, MapKept.run_setObj_map _ hb, Result.andThen] at u1
  have e : w8 = w6 := u1.symm.trans hrun.2
  rw [e] at hM8
  have hl := hM8.look0 hx hy
  have hF : F x y = none := by
   rcases Maps.fit_look false law76 Try.underlying67 (zeroAll w) hb Ft hkey with ⟨_, _, hat⟩ | ⟨q0, q, q1, q2, _⟩
   ·rw [Maps.has_false_of_atKey hat] at hhas
    cases hF : F x y with
    | none => rfl
    | some r => rw [hF] at hhas; cases hhas
   ·exact absurd q2 (h2 q0 q1)
  rw [hF]
  have e2 : (upd F x y 0 x y).getD 0 = 0 := by unfold upd; rw [if_pos ⟨rfl, rfl⟩]; rfl
  rw [e2] at hl
  exact hl
 ·have hj : es[j]? = some e0 := by simpa using h2
  simp [Instr.mapEntry, run_underlying Try.underlying67, MapKept.run_getObj_map hb, klaw76.check w false hkey, h1, hj, h3, klaw76.stays w hkey, MapKept.run_setObj_map _ hb, Result.andThen] at hrun
  have hsame : es.modify j (fun e => { e with key := cellV x y }) = es := by
   apply Array.ext'
   rw [Array.toList_modify]
   apply List.ext_getElem?
   intro i
   rw [List.getElem?_modify]
   by_cases q : j = i
   ·subst q
    rw [h2]
    simp [← h3]
   ·simp [q]
  have e : w6.heap[gm]? = w.heap[gm]? := by
   rw [← hrun.2, hsame]
   first
    | exact (heap_setBlock_same hb _).trans hb.symm
    | exact (MapKept.heap_set hb).1.trans hb.symm
    | (simp [hb]; done)
    | (trace_state; fail)
  exact (hM.move e).look0 hx hy
set_option maxRecDepth 100000 in
theorem MapIs.entry {w : World} {gm N : Nat} {F : Fld} (h : MapIs w gm N F) {x y : Int} (hx : (Lit.int .i64 x).wf = true) (hy : (Lit.int .i64 y).wf = true) (hN : N ≤ 80000000) {r : Int} (hr : (Lit.int .i64 r).wf = true) :
  ∃ (c : Value) (st : Int) (w6 w8 : World), (Instr.mapEntry 67 (.map (some gm)) (cellV x y)).run Try.prog w = .ok (.tuple #[c, .int .i64 st]) w6 ∧ w.grownBy w6 (some gm) ∧
   (Instr.lookup 67 (.map (some gm)) (cellV x y) false).run Try.prog w6 = .ok (.int .i64 ((F x y).getD 0)) w6 ∧
   (Instr.entryStore 67 (.map (some gm)) (.int .i64 st) (.int .i64 r)).run Try.prog w6 = .ok () w8 ∧ MapIs w8 gm (N + 1) (upd F x y r) ∧ w6.grownBy w8 (some gm) := by
 have hkey := key_is x y hx hy
 have hM := h
 obtain ⟨D, hown, hfi⟩ := h
 obtain ⟨w9, u1, u2, u3⟩ := hown.update law76 Try.underlying67 (by unfold maxLen; omega) hkey (plainElem_int (a := r) Try.underlying3 hr)
 have hM9 : MapIs w9 gm (N + 1) (upd F x y r) := ⟨_, u2, hfi.put hown.isMap hx hy⟩
 obtain ⟨es, clock, hb, Ft, hs, rfl⟩ := hown
 obtain ⟨v0, st, es1, clock1, hE, _, hS⟩ := WideElems.entry_then_store klaw76 Try.underlying67 zeroAll hb Ft hkey
 have hb6 : (setBlock w gm (.map es1 clock1)).heap[gm]? = some (.map es1 clock1) := heap_setBlock_same hb _
 obtain ⟨es', clock', hS1, hS2⟩ := hS (setBlock w gm (.map es1 clock1)) (.int .i64 r) hb6
 have e9 : w9 = setBlock w gm (.map es' clock') := by
  rw [hS2] at u1
  injection u1 with _ u1
  exact u1.symm
 have e8 : (setBlock (setBlock w gm (.map es1 clock1)) gm (.map es' clock')).heap[gm]? = w9.heap[gm]? := by
  rw [heap_setBlock_same hb6, e9, heap_setBlock_same hb]
 refine ⟨v0, st, setBlock w gm (.map es1 clock1), setBlock (setBlock w gm (.map es1 clock1)) gm (.map es' clock'), hE, ?_, look_mid hM hx hy hN hE, hS1, hM9.move e8, ?_⟩
 ·exact ⟨rfl, rfl, rfl, by simp [setBlock], fun i _ hi => heap_setBlock_other hb _ (fun e => hi (by rw [e]))⟩
 ·exact ⟨rfl, rfl, rfl, by simp [setBlock], fun i _ hi => heap_setBlock_other hb6 _ (fun e => hi (by rw [e]))⟩
end Go.Proofs.Ytjedhjeijpbobaa.G8
namespace Go.Proofs.Ytjedhjeijpbobaa.G8
open Go.RowKit Go.Maps YtjedhjeijpbobaaW.PrintWords YtjedhjeijpbobaaW.PrintLast YtjedhjeijpbobaaW.PrintMore
structure HpAt (w : World) (base gm N : Nat) (vc : Value) (M : Fld) (cs : List (Int × Int)) : Prop where
 hm : base ≤ gm
 map : MapIs w gm N M
 cells : w.ownsRow base 76 2 vc cs.length (flat cs)
def HpOut (w : World) (n : Int) (e : Ending) (w' : World) : Prop := ∃ gm N u M, e = .returned (.map (some gm)) ∧ Below w.heap.size w w' ∧ Aside0 (MapIs w' gm N M) ∧ Aside0 (HInv n u M) ∧ Aside0 (∀ a b, hp n u a b ≤ 3) ∧ w.heap.size ≤ gm ∧ N ≤ 100000
section
variable {w w1 : World} {base gm N : Nat} {vc : Value} {M : Fld} {cs : List (Int × Int)}
theorem HpAt.lt (h : HpAt w base gm N vc M cs) : gm < w.heap.size := by
 obtain ⟨D, hm, _⟩ := h.map
 exact hm.lt
theorem HpAt.apart (h : HpAt w base gm N vc M cs) : vc.ownBlock ≠ some gm := fun e => by
 obtain ⟨cells, hc⟩ := own_typed h.cells gm e
 obtain ⟨D, ⟨es, clock, hb, _⟩, _⟩ := h.map
 rw [hb] at hc
 simp at hc
theorem HpAt.keep (h : HpAt w base gm N vc M cs) (e : ∀ b, b = gm ∨ vc.ownBlock = some b → w1.heap[b]? = w.heap[b]?) : HpAt w1 base gm N vc M cs :=
 ⟨h.hm, h.map.move (e gm (.inl rfl)), own_move h.cells fun k hk => e k (.inr hk)⟩
theorem HpAt.ltv (h : HpAt w base gm N vc M cs) (b : Nat) (hb : b = gm ∨ vc.ownBlock = some b) : b < w.heap.size := by
 rcases hb with rfl | hb
 ·exact h.lt
 ·exact own_lt h.cells _ hb
theorem HpAt.drew (h : HpAt w base gm N vc M cs) : HpAt w.drew base gm N vc M cs := h.keep fun _ _ => rfl
theorem HpAt.alloc (h : HpAt w base gm N vc M cs) (o : Obj) : HpAt (w.alloc o) base gm N vc M cs := h.keep fun b hb => (MapKept.heap_alloc w o).2 b (h.ltv b hb)
theorem HpAt.below (h : HpAt w base gm N vc M cs) (hB : Below w.heap.size w w1) : HpAt w1 base gm N vc M cs := h.keep fun b hb => hB.block b (h.ltv b hb)
theorem HpAt.cellsAt (h : HpAt w base gm N vc M cs) (hp : 0 < cs.length) : ∃ b cap, vc = .slice (some ⟨b, 0, none⟩) cs.length cap ∧ base ≤ b ∧ CellsAt w b cs := by
 rcases h.cells.2 with ⟨_, h2⟩ | ⟨b, cap, cur, h1, hb, hh, h3, _, h5, h6⟩
 ·omega
 ·refine ⟨b, cap, h1, hb, blk_lt hh, fun i c hc => ?_⟩
  have hr := (reps_flat w cs).2 i (toS c) (by rw [List.getElem?_map, hc]; rfl)
  have e := GA.k76_open hr
  have hi : i < cs.length := (List.getElem?_eq_some_iff.1 hc).1
  have e0 : (flat cs)[i * 2]? = some (.int .i64 c.1) := by
   have := congrArg (fun l => l[0]?) e
   simp only [List.getElem?_take, List.getElem?_drop] at this
   simpa [toS] using this
  have e1 : (flat cs)[i * 2 + 1]? = some (.int .i64 c.2) := by
   have := congrArg (fun l => l[1]?) e
   simp only [List.getElem?_take, List.getElem?_drop] at this
   simpa [toS] using this
  rw [← h6, List.getElem?_take, if_pos (by omega)] at e0 e1
  exact ⟨(blk_cell hh _).trans (by simpa using e0), (blk_cell hh _).trans (by simpa using e1)⟩
theorem HpAt.pop {b cap : Nat} {c : Int × Int} {l : Nat} (h : HpAt w base gm N (.slice (some ⟨b, 0, none⟩) (l + 1) cap) M (cs ++ [c])) (hl : cs.length = l) : HpAt w base gm N (.slice (some ⟨b, 0, none⟩) l cap) M cs := by
 refine ⟨h.hm, h.map, ?_⟩
 have hf : (flat (cs ++ [c])).length = cs.length * 2 + 2 := by rw [flat_app]; have := (reps_flat w cs).1; rw [List.length_map] at this; simp [this]
 rcases h.cells.2 with ⟨h1, _⟩ | ⟨g, cap1, cur, h1, hb, hh, h3, h4, h5, h6⟩
 ·cases h1
 ·injection h1 with e1 _ e3
  injection e1 with e1
  injection e1 with e1
  subst e1
  subst e3
  have hfl : (flat cs).length = cs.length * 2 := by have := (reps_flat w cs).1; rw [List.length_map] at this; exact this
  refine ⟨hfl, .inr ⟨b, cap, cur, by rw [hl], hb, hh, ?_, h4, h5, ?_⟩⟩
  ·rw [List.length_append, List.length_singleton] at h3
   omega
  ·have h7 : (cur.toList.take ((cs ++ [c]).length * 2)).take (cs.length * 2) = (flat (cs ++ [c])).take (cs.length * 2) := by rw [h6]
   rw [List.take_take, Nat.min_eq_left (by rw [List.length_append, List.length_singleton]; omega)] at h7
   rw [h7, flat_app, List.take_append_of_le_length (by omega), List.take_of_length_le (by omega)]
end
theorem info76s : (Try.prog.info? 76).map (fun i => (i.zero, i.size, i.bytes)) = some (some (.agg #[.int .i64 0, .int .i64 0]), 2, 16) := by kernel_rfl
theorem wpList_appH {ops : Array Oper} {rest : List Oper} {o : Oper} {a : Act} {Q : Exit → Act → World → Prop} {W : World} {base gm N : Nat} {vc : Value} {M : Fld} {cs : List (Int × Int)} {x y : Int} {C : Nat} (hgd : o.guard = none) (sv xv : Operand) (ho : o.op = .call { callee := .builtin .append, args := #[sv, xv], argTypes := #[68, 68] })
  (hs : a.eval sv = vc) (hx : a.eval xv = .slice (some ⟨C, 0, none⟩) 1 1) (h : HpAt W base gm N vc M cs) (hbase : base ≤ W.heap.size) (hl : cs.length ≤ 1000000) (hC : W.heap[C]? = some (.cells #[.int .i64 x, .int .i64 y] 76 (0, 0)))
  (k : ∀ g1 cap w1, HpAt w1 base gm N (.slice (some ⟨g1, 0, none⟩) (cs.length + 1) cap) M (cs ++ [(x, y)]) → Below base W w1 → W.grownBy w1 vc.ownBlock → (vc.ownBlock = some g1 ∨ g1 = W.heap.size) →
   wpList Try.prog ops Q rest (a.put o.dst (.slice (some ⟨g1, 0, none⟩) (cs.length + 1) cap)) w1) : wpList Try.prog ops Q (o :: rest) a W := by
 obtain ⟨i0, hi0, hz⟩ := Option.map_eq_some_iff.1 info76s
 simp only [Prod.mk.injEq] at hz
 obtain ⟨hz0, hz1, hz2⟩ := hz
 refine wpList_append_lies (w := W) hgd sv xv 68 ho base 76 i0 (.agg #[.int .i64 0, .int .i64 0]) 2 16 Try.underlying68 hi0 hz0 hz1 hz2 rfl (by omega) vc cs.length (flat cs) hs h.cells ⟨C, 0, none⟩ 1 1 [.int .i64 x, .int .i64 y] hx rfl (World.news_of_block hC) (by intro u hu; simp at hu; rcases hu with rfl | rfl <;> rfl) (by omega) (by unfold maxLen; omega) (by omega) hbase _ rfl ?_
 intro g1 cap w1 hown hg hat hlt
 have hown' : w1.ownsRow base 76 2 (.slice (some ⟨g1, 0, none⟩) (cs.length + 1) cap) (cs ++ [(x, y)]).length (flat (cs ++ [(x, y)])) := by rw [flat_app, List.length_append, List.length_singleton]; exact hown
 exact k g1 cap w1 ⟨h.hm, h.map.move (hg.block gm h.lt (fun e => h.apart e.symm)), hown'⟩ ((Below.refl base W).grown hg hbase (own_base h.cells)) hg hat
theorem HpAt.entry {W : World} {base gm N : Nat} {vc : Value} {M : Fld} {cs : List (Int × Int)} (h : HpAt W base gm N vc M cs) {x y : Int} (hx : (Lit.int .i64 x).wf = true) (hy : (Lit.int .i64 y).wf = true) (hN : N ≤ 80000000) {r : Int} (hr : (Lit.int .i64 r).wf = true) :
  ∃ (c : Value) (st : Int) (w6 w8 : World), (Instr.mapEntry 67 (.map (some gm)) (.agg #[.int .i64 x, .int .i64 y])).run Try.prog W = .ok (.tuple #[c, .int .i64 st]) w6 ∧
   (Instr.lookup 67 (.map (some gm)) (.agg #[.int .i64 x, .int .i64 y]) false).run Try.prog w6 = .ok (.int .i64 ((M x y).getD 0)) w6 ∧
   (Instr.entryStore 67 (.map (some gm)) (.int .i64 st) (.int .i64 r)).run Try.prog w6 = .ok () w8 ∧ HpAt w8 base gm (N + 1) vc (upd M x y r) cs ∧
   (∀ b, b < W.heap.size → b ≠ gm → w6.heap[b]? = W.heap[b]?) ∧ (∀ b, b < W.heap.size → b ≠ gm → w8.heap[b]? = W.heap[b]?) ∧ (∀ w0, base ≤ W.heap.size → Below base w0 W → Below base w0 w8) := by
 obtain ⟨cv, st, w6, w7, hE6, hg6, hl6, hS7, hM7, hg7⟩ := h.map.entry hx hy hN hr
 have k6 : ∀ b, b < W.heap.size → b ≠ gm → w6.heap[b]? = W.heap[b]? := fun b h1 h2 => hg6.block b h1 (fun e => h2 (Option.some.inj e))
 have k7 : ∀ b, b < W.heap.size → b ≠ gm → w7.heap[b]? = W.heap[b]? := fun b h1 h2 => (hg7.block b (Nat.lt_of_lt_of_le h1 hg6.size) (fun e => h2 (Option.some.inj e))).trans (k6 b h1 h2)
 refine ⟨cv, st, w6, w7, hE6, hl6, hS7, ⟨h.hm, hM7, own_move h.cells fun k hk => k7 k (own_lt h.cells k hk) (fun e => h.apart (by rw [hk, e]))⟩, k6, k7, fun w0 hb hB => ?_⟩
 exact (hB.grown hg6 hb (fun j hj => by cases hj; exact h.hm)).grown hg7 (Nat.le_trans hb hg6.size) (fun j hj => by cases hj; exact h.hm)
theorem heapM_bd (M : Fld) (x y t : Int) (ht : 0 ≤ t) (a b : Int) : ∀ j, -(4 * t) ≤ (heapM M x y t j a b).getD 0 - (M a b).getD 0 ∧ (heapM M x y t j a b).getD 0 - (M a b).getD 0 ≤ j * t
 | 0 => by
  simp only [heapM]
  rw [upd_get]
  by_cases e : a = x ∧ b = y
  ·rw [if_pos e, e.1, e.2]; simp; omega
  ·rw [if_neg e]; simp; omega
 | j + 1 => by
  obtain ⟨h1, h2⟩ := heapM_bd M x y t ht a b j
  simp only [heapM]
  rw [addC_get]
  have e : ((j + 1 : Nat) : Int) * t = j * t + t := by rw [Int.natCast_add, Int.add_mul]; simp
  rw [e]
  split <;> omega
theorem heapM_bd4 (M : Fld) (x y t : Int) (ht : 0 ≤ t) (a b : Int) {j : Nat} (hj : j ≤ 4) : -(4 * t) ≤ (heapM M x y t j a b).getD 0 - (M a b).getD 0 ∧ (heapM M x y t j a b).getD 0 - (M a b).getD 0 ≤ 4 * t := by
 obtain ⟨h1, h2⟩ := heapM_bd M x y t ht a b j
 have h3 := Int.mul_le_mul_of_nonneg_right (show (j : Int) ≤ 4 by omega) ht
 omega
theorem bdN1 {N N1 j q : Nat} {S : Int} (h : (N : Int) ≤ 1 + 5 * S) (hS : S ≤ 1209) (hj : j + (q + 1) = 4 ∧ N1 = N + 1 + j) : N1 ≤ 80000000 := by omega
theorem bdNx {N : Nat} {S : Int} (h : (N : Int) ≤ 1 + 5 * S) (hS : S ≤ 1209) : N ≤ 100000 := by omega
theorem bdN0 {N : Nat} {S : Int} (h : (N : Int) ≤ 1 + 5 * S) (hS : S ≤ 1209) : N ≤ 80000000 := by omega
theorem wfG {g t : Int} (hg : -5000 ≤ g ∧ g ≤ 15000) (h1 : 1 ≤ t) (h2 : t ≤ 1250) : (Lit.int .i64 (g + t)).wf = true ∧ wrap64 (g + t) = g + t := ⟨i64_ok (by omega) (by omega), wrap_id (by omega) (by omega)⟩
theorem apX {vc : Value} {g1 X n cap : Nat} {W : World} {o : Obj} (hvX : vc.ownBlock ≠ some X) (hX : X < W.heap.size) (h : vc.ownBlock = some g1 ∨ g1 = (W.alloc o).heap.size) : (Value.slice (some ⟨g1, 0, none⟩) n cap).ownBlock ≠ some X := by
 intro e
 have e1 : g1 = X := by simpa [Value.ownBlock] using e
 subst e1
 rcases h with h | h
 ·exact hvX h
 ·simp at h
  omega
theorem bdJ {N N1 j q : Nat} (hj : j + (q + 1) = 4 ∧ N1 = N + 1 + j) : j + 1 + q = 4 ∧ N1 + 1 = N + 1 + (j + 1) := by omega
theorem MapIs.put {W : World} {gm N : Nat} {F : Fld} (h : MapIs W gm N F) {x y r : Int} (hx : (Lit.int .i64 x).wf = true) (hy : (Lit.int .i64 y).wf = true) (hr : (Lit.int .i64 r).wf = true) (hN : N ≤ 80000000) :
  ∃ w8, (Instr.mapUpdate 67 (.map (some gm)) (.agg #[.int .i64 x, .int .i64 y]) (.int .i64 r)).run Try.prog W = .ok () w8 ∧ MapIs w8 gm (N + 1) (upd F x y r) ∧ W.grownBy w8 (some gm) := by
 obtain ⟨D, hown, hfi⟩ := h
 obtain ⟨w8, h1, h2, h3⟩ := hown.update law76 Try.underlying67 (by unfold maxLen; omega) (key_is x y hx hy) (plainElem_int Try.underlying3 hr)
 exact ⟨w8, h1, ⟨_, h2, hfi.put hown.isMap hx hy⟩, h3⟩
theorem S2_zero : S2 (fun _ _ => 0) = 0 := by decide +kernel
theorem quo4 {h : Int} (h4 : 4 ≤ h) : Int.tdiv h 4 = h / 4 ∧ 1 ≤ h / 4 ∧ 4 * (h / 4) ≤ h ∧ h - 4 * (h / 4) < 4 := ⟨Int.tdiv_eq_ediv_of_nonneg (by omega), by omega, by omega, by omega⟩
def Tc10 : Bool × List (List Nat × List Nat) := (true, [([], []), ([], []), ([0, 1], [0, 1]), ([], []), ([3], [3]), ([2, 4], [2, 4]), ([0, 1, 0, 1, 3, 4], [0, 1]), ([6], [6]), ([0, 7, 5, 6, 0, 1, 2, 3, 4, 5, 6, 7], [0, 5, 7])])
def Bc10 : List Nat := [0, 0, 3, 0, 8, 31, 27, 91, 255]
theorem tabc10 : rtab .any (opsOf Try.f81 10) = Tc10 := by kernel_rfl
theorem bitsc10 : waitsOk Tc10.2 Bc10 = true := by kernel_rfl
def Tc15 : Bool × List (List Nat × List Nat) := (true, [([], []), ([], []), ([0, 1], [0, 1]), ([], []), ([2, 3], [2, 3]), ([0, 1, 0, 1, 3], [0, 1]), ([5], [5]), ([0, 6, 4, 5, 0, 1, 2, 3, 4, 5, 6], [0, 4, 6])])
def Bc15 : List Nat := [0, 0, 3, 0, 15, 11, 43, 127]
theorem tabc15 : rtab .any (opsOf Try.f81 15) = Tc15 := by kernel_rfl
theorem bitsc15 : waitsOk Tc15.2 Bc15 = true := by kernel_rfl
set_option maxHeartbeats 4000000 in
set_option maxRecDepth 100000 in
theorem heapOf_calls (n : Int) (hn : 1 ≤ n ∧ n ≤ 250) (w : World) : Calls Try.prog 81 #[.int .i64 n] w (HpOut w n) := by
 have hu76 := Try.underlying76
 have hmm := @run_makeMap Try.prog
 have hn0 : n > 0 := by omega
 have hm0 : MapIs (w.alloc (.map #[] 0)) w.heap.size 0 (fun _ _ => none) := ⟨_, World.ownsMap_made w Try.prog 76 (plainElem Try.prog 3), FieldIs.nil⟩
 obtain ⟨w8, hst, hm1, hg1⟩ := hm0.put (x := 0) (y := 0) (r := n) (by decide) (by decide) (i64_ok (by omega) (by omega)) (by omega)
 have HB8 : Aside0 (Below w.heap.size w w8) := ⟨((Below.refl w.heap.size w).alloc (Nat.le_refl _) (.map #[] 0)).grown hg1 (by simp) (fun j hj => by cases hj; exact Nat.le_refl _)⟩
 have HM1 := Aside0.mk hm1
 clear hm0 hm1 hg1
 go_enter Try.func81, Try.ntmps81
 go_wp2
 have hs8 := HB8.out.size
 have HP0 : Aside0 (HpAt (w8.alloc (.cells #[.int .i64 0, .int .i64 0] 76)) w.heap.size w.heap.size (0 + 1) (.slice (some ⟨w8.heap.size, 0, none⟩) 1 1) (upd (fun _ _ => none) 0 0 n) [(0, 0)]) :=
  ⟨Nat.le_refl _, HM1.out.move ((MapKept.heap_alloc w8 _).2 _ (by obtain ⟨D, hm, _⟩ := HM1.out; exact hm.lt)), ⟨rfl, .inr ⟨w8.heap.size, 1, _, rfl, hs8, blk_new _ _, Nat.le_refl _, by unfold maxLen; simp, rfl, rfl⟩⟩⟩
 have HB0 : Aside0 (Below w.heap.size w (w8.alloc (.cells #[.int .i64 0, .int .i64 0] 76))) := ⟨HB8.out.alloc hs8 _⟩
 clear hst HM1 HB8 hs8
 go_loopg [4] 6050 (fun m v4 wr => ∃ (vc : Value) (N : Nat) (M : Fld) (cs : List (Int × Int)) (u : Odo), v4 = vc ∧ Aside0 (5 * (1209 - S2 u) + (cs.length : Int) ≤ m) ∧ Aside0 (HInv n u M) ∧ Aside0 (Listed n u cs) ∧ Aside0 (HpAt wr w.heap.size w.heap.size N vc M cs) ∧ Aside0 ((N : Int) ≤ 1 + 5 * S2 u ∧ (cs.length : Int) ≤ 1 + 4 * S2 u ∧ 0 ≤ S2 u ∧ S2 u ≤ 1209) ∧ Aside0 (Below w.heap.size w wr))
 case atStart => exact ⟨_, 0 + 1, _, [(0, 0)], fun _ _ => 0, rfl, ⟨by rw [S2_zero]; decide⟩, ⟨HInv.start hn.1⟩, ⟨Listed.start n⟩, HP0, ⟨by rw [S2_zero]; decide⟩, HB0⟩
 case round =>
  clear HP0 HB0
  obtain ⟨vc, N, M, cs, u, hvc, HI, HV, HL, HP, HN, HB⟩ := hrel
  replace hvc := hvc.symm
  subst hvc
  rcases List.eq_nil_or_concat cs with hcs | ⟨pre, c, hcs⟩
  ·subst hcs
   obtain ⟨A, cap, hA, _⟩ := own_reads_row HP.out.cells (reps_flat wr []) rfl
   subst hA
   have hst : ∀ a b, hp n u a b ≤ 3 := fun a b => by
    have h1 := HL.out.all a b
    simp at h1
    omega
   have HST := Aside0.mk hst
   clear hst
   go_wp2_with (fail)
   refine bodyPost_ret (v := .map (some w.heap.size)) (by simp [results, Try.results81, go_sem]) rfl ?_
   exact ⟨_, _, u, M, rfl, HB.out, ⟨HP.out.map⟩, HV, HST, Nat.le_refl _, bdNx HN.out.1 HN.out.2.2.2⟩
  ·rw [List.concat_eq_append] at hcs
   subst hcs
   obtain ⟨b, cap, hvs, hbb, hE⟩ := HP.out.cellsAt (by simp)
   obtain ⟨l, hl⟩ : ∃ l, l = pre.length := ⟨_, rfl⟩
   have hlen : (pre ++ [c]).length = l + 1 := by rw [hl]; simp
   rw [hlen] at hvs
   subst hvs
   have hnear := HL.out.near c (by simp)
   obtain ⟨q0, q1⟩ := hE.2 pre.length c (by simp)
   rw [← hl] at q0 q1
   replace hl := Aside0.mk hl
   clear hE
   have hcap : l + 1 ≤ cap := by
    rcases HP.out.cells.2 with ⟨h1, _⟩ | ⟨g, cap1, cur, h1, _, _, h3, _⟩
    ·cases h1
    ·injection h1 with _ _ e3
     rw [e3, ← hlen]
     exact h3
   have hcapi : (l : Int) ≤ (cap : Int) := by omega
   have hli : (l : Int) + 1 > 0 := by omega
   have hlb : (l : Int) ≤ 5000 := by have := HN.out; rw [hlen] at this; omega
   have hwl := wrap_id (x := (l : Int)) (by omega) (by omega)
   have hll : (l : Int) < (l : Int) + 1 := by omega
   have hwx : (Lit.int .i64 c.1).wf = true := i64_ok (by omega) (by omega)
   have hwy : (Lit.int .i64 c.2).wf = true := i64_ok (by omega) (by omega)
   have HPa := Aside0.mk (HP.out.alloc (.cells #[.int .i64 c.1, .int .i64 c.2] 76))
   have HA0 := Aside0.mk (blk_new wr (.cells #[.int .i64 c.1, .int .i64 c.2] 76))
   have HBa := Aside0.mk (HB.out.alloc HB.out.size (.cells #[.int .i64 c.1, .int .i64 c.2] 76))
   have hlook := HPa.out.map.look0 hwx hwy
   rw [HV.out.val] at hlook
   have hpb := hp_le HV.out.legal hn.2 (by omega) c.1 c.2
   have hpn := HV.out.nn c.1 c.2
   obtain ⟨h, hh⟩ : ∃ h, h = hp n u c.1 c.2 := ⟨_, rfl⟩
   rw [← hh] at hlook hpb hpn
   have hXv : (Value.slice (some ⟨b, 0, none⟩) (l + 1) cap).ownBlock ≠ some wr.heap.size := fun e => Nat.lt_irrefl _ (own_lt HP.out.cells _ e)
   have hXg : w.heap.size ≠ wr.heap.size := fun e => by have := HP.out.lt; omega
   replace hh := Aside0.mk hh
   by_cases h4 : h < 4
   ·clear hXv hXg
    cases gk with
    | zero => have := HI.out; rw [hlen] at this; have := HN.out; omega
    | succ m =>
     have HPp : Aside0 (HpAt (wr.alloc (.cells #[.int .i64 c.1, .int .i64 c.2] 76)) w.heap.size w.heap.size N (.slice (some ⟨b, 0, none⟩) l cap) M pre) := ⟨HPa.out.pop hl.out.symm⟩
     go_wp2_with (fail)
     go_roundg m
     case measure => omega
     case rel => exact ⟨_, N, M, pre, u, rfl, ⟨by have := HI.out; rw [hlen] at this; have := hl.out; omega⟩, HV, ⟨HL.out.pop (by rw [← hh.out]; omega)⟩, HPp, ⟨by have := HN.out; rw [hlen] at this; have := hl.out; omega⟩, HBa⟩
   ·obtain ⟨k1, k2, k3, k4⟩ := quo4 (h := h) (by omega)
    cases gk with
    | zero => have := HI.out; rw [hlen] at this; have := HN.out; omega
    | succ m =>
     obtain ⟨t, ht⟩ : ∃ t, t = h / 4 := ⟨_, rfl⟩
     rw [← ht] at k1 k2 k3 k4
     have hge : 4 ≤ h := by omega
     replace ht := Aside0.mk ht
     have hwa := wrap_id (x := 4 * t) (by omega) (by omega)
     have hwb : IntKind.i64.wrap (4 * t) = 4 * t := by rw [i64_w]; exact hwa
     have hwc := wrap_id (x := h - 4 * t) (by omega) (by omega)
     have hwd : IntKind.i64.wrap (h - 4 * t) = h - 4 * t := by rw [i64_w]; exact hwc
     go_upto_region 10 with (fail)
     have hsX : w.heap.size ≤ wr.heap.size := HB.out.size
     clear HP HB q0 q1 hlook
     generalize wr.alloc (.cells #[.int .i64 c.1, .int .i64 c.2] 76) = W5 at *
     generalize wr.heap.size = X at *
     have HPd := Aside0.mk HPa.out.drew
     have HAd : Aside0 (W5.drew.heap[X]? = some (.cells #[.int .i64 c.1, .int .i64 c.2] 76 (0, 0))) := ⟨HA0.out⟩
     have HBd := Aside0.mk (below_drew HBa.out)
     clear HPa HA0 HBa
     have a0 := blk_cell HAd.out 0
     have a1 := blk_cell HAd.out 1
     simp only [List.getElem?_toArray, List.getElem?_cons_succ, List.getElem?_cons_zero] at a0 a1
     have hlk := HPd.out.map.look0 hwx hwy
     have hMh : (M c.1 c.2).getD 0 = h := by rw [HV.out.val, ← hh.out]
     obtain ⟨cv, st, w6, w7, hE6, hl6, hS7, hP7, k6, k7, hB7⟩ := HPd.out.entry hwx hwy (bdN0 HN.out.1 HN.out.2.2.2) (r := h - 4 * t) (i64_ok (by omega) (by omega))
     rw [hMh] at hlk hl6
     have hXlt := blk_lt HAd.out
     have HA6 : Aside0 (w6.heap[X]? = some (.cells #[.int .i64 c.1, .int .i64 c.2] 76 (0, 0))) := ⟨(k6 X hXlt (fun e => hXg e.symm)).trans HAd.out⟩
     have HA7 : Aside0 (w7.heap[X]? = some (.cells #[.int .i64 c.1, .int .i64 c.2] 76 (0, 0))) := ⟨(k7 X hXlt (fun e => hXg e.symm)).trans HAd.out⟩
     have b0 := blk_cell HA6.out 0
     have b1 := blk_cell HA6.out 1
     simp only [List.getElem?_toArray, List.getElem?_cons_succ, List.getElem?_cons_zero] at b0 b1
     have HP7 : Aside0 (HpAt w7 w.heap.size w.heap.size (N + 1) (.slice (some ⟨b, 0, none⟩) (l + 1) cap) (heapM M c.1 c.2 t 0) (pre ++ [c])) := ⟨by
      have e : heapM M c.1 c.2 t 0 = upd M c.1 c.2 (h - 4 * t) := by rw [← hMh]; rfl
      rw [e]
      exact hP7⟩
     have HB7 := Aside0.mk (hB7 w HBd.out.size HBd.out)
     clear hP7 k6 k7 hB7 hMh HPd HAd HBd hXlt
     refine start_ (n := 9) (S := fun w' => w'.cell? ⟨X, 0, none⟩ = some (.int .i64 c.1) ∧ w'.cell? ⟨X, 1, none⟩ = some (.int .i64 c.2) ∧ (Instr.lookup 67 (.map (some w.heap.size)) (.agg #[.int .i64 c.1, .int .i64 c.2]) false).run Try.prog w' = .ok (.int .i64 h) w') (ds := [8]) #[false, false, false, false, false, false, false, false, false] (by kernel_rfl) rfl rfl ⟨a0, a1, hlk⟩ (fun hHeld => ?_)
     refine with_tabW tabc10 bitsc10 (fun HT_ HW_ => ?_)
     generalize W5.drew = Y0 at *
     refine pu_ (i := 0) (N := some 39) (v := ?_) (a' := ?_) HT_.out rfl rfl (Or.inl ⟨by rfl, ?_⟩) ?_ ?_
     rotate_left
     ·intro w'
      go_simp
      with_reducible rfl
     rotate_left
     ·simp only [sp_]
      rfl
     refine pu_ (i := 3) (N := some 42) (v := ?_) (a' := ?_) HT_.out rfl rfl (Or.inl ⟨by rfl, ?_⟩) ?_ ?_
     rotate_left
     ·intro w'
      go_simp
      with_reducible rfl
     rotate_left
     ·simp only [sp_]
      rfl
     refine pu_ (i := 4) (N := some 43) (v := ?_) (a' := ?_) HT_.out rfl rfl (Or.inl ⟨by rfl, ?_⟩) ?_ ?_
     rotate_left
     ·intro w'
      go_simp
      with_reducible rfl
     rotate_left
     ·simp only [sp_]
      rfl
     refine tk_ (i := 1) (N := some 40) (v := ?_) (a' := ?_) HT_.out HW_.out rfl rfl (Or.inl ⟨by rfl, ?_⟩) hHeld ?_ ?_
     rotate_left
     ·intro w' hSw; obtain ⟨hS0, hS1, hS2⟩ := hSw
      go_simp
      with_reducible rfl
     rotate_left
     ·simp only [sp_]
      rfl
     refine tk_ (i := 2) (N := some 41) (v := ?_) (a' := ?_) HT_.out HW_.out rfl rfl (Or.inl ⟨by rfl, ?_⟩) hHeld ?_ ?_
     rotate_left
     ·intro w' hSw; obtain ⟨hS0, hS1, hS2⟩ := hSw
      go_simp
      with_reducible rfl
     rotate_left
     ·simp only [sp_]
      rfl
     refine pu_ (i := 5) (N := some 44) (v := ?_) (a' := ?_) HT_.out rfl rfl (Or.inl ⟨by rfl, ?_⟩) ?_ ?_
     rotate_left
     ·intro w'
      go_simp
      with_reducible rfl
     rotate_left
     ·simp only [sp_]
      rfl
     refine one_ (i := 6) (N := some 45) #[true, true, true, true, true, true, true, false, false] rfl rfl (one_of HT_.out (by kernel_rfl)) (by decide) (fun K hK => ?_)
     refine value_ (v := .tuple #[cv, .int .i64 st]) (w1 := w6) (by rfl) rfl (by go_simp) ?_
     refine hK.out _ _ ⟨b0, b1, hl6⟩ (fun hHeld => ?_)
     clear hK K a0 a1 hlk hE6
     (try simp only [Act.put, List.setIfInBounds_toArray, List.set_cons_zero, List.set_cons_succ])
     refine pu_ (i := 7) (N := some 46) (v := ?_) (a' := ?_) HT_.out rfl rfl (Or.inl ⟨by rfl, ?_⟩) ?_ ?_
     rotate_left
     ·intro w'
      go_simp
      with_reducible rfl
     rotate_left
     ·simp only [sp_]
      rfl
     refine lastS_ (i := 8) (w1 := w7) #[true, true, true, true, true, true, true, true, true] rfl rfl (one_of HT_.out (by kernel_rfl)) (by decide) (by rfl) ?_ ?_
     ·go_simp
     clear hS7 hl6 b0 b1 hHeld
     (try simp only [Act.put, List.setIfInBounds_toArray, List.set_cons_zero, List.set_cons_succ])
     refine done_ (done_of HT_.out (by kernel_rfl)) ?_
     clear HT_ HW_ HA6
     go_wp2_with (fail)
     have hbox := (HV.out.legal.topple hn.2 k2 (by rw [← hh.out]; exact k3)).1
     have htb : t ≤ 1250 := by omega
     go_loopg [4, 47] 4 (fun q v4 v47 wq => ∃ (vc : Value) (N1 j : Nat), v4 = vc ∧ v47 = .int .i64 (j : Int) ∧ Aside0 (j + q = 4 ∧ N1 = N + 1 + j) ∧ Aside0 (HpAt wq w.heap.size w.heap.size N1 vc (heapM M c.1 c.2 t j) ((pre ++ [c]) ++ nbrs c.1 c.2 j)) ∧ Aside0 (wq.heap[X]? = some (.cells #[.int .i64 c.1, .int .i64 c.2] 76 (0, 0)) ∧ vc.ownBlock ≠ some X) ∧ Aside0 (Below w.heap.size w wq))
     case atStart => exact ⟨_, N + 1, 0, rfl, rfl, ⟨rfl, rfl⟩, ⟨by rw [show nbrs c.1 c.2 0 = [] from rfl, List.append_nil]; exact HP7.out⟩, ⟨HA7.out, hXv⟩, HB7⟩
     case round =>
      clear HP7 HA7 HB7 hXv
      obtain ⟨vc, N1, j, hvc, rfl, HJ, HP, HA, HB⟩ := hrel
      replace hvc := hvc.symm
      subst hvc
      cases gk with
      | zero =>
       have hj : j = 4 := by have := HJ.out.1; omega
       have hji : ¬ ((j : Int) < 4) := by omega
       have HPe := HP
       rw [hj] at HPe
       obtain ⟨_, g2, g3, g4⟩ := HV.out.legal.topple hn.2 k2 (by rw [← hh.out]; exact k3)
       have HT := Aside0.mk (HV.out.topple (by omega) hn.2 k2 (by rw [← hh.out]; exact k3))
       have HLt := Aside0.mk (HL.out.topple hbox k2 (by rw [← hh.out]; exact k4))
       have hN1 := HJ.out.2
       go_wp2_with (fail)
       go_roundg m
       case measure => omega
       case rel => exact ⟨_, N1, heapM M c.1 c.2 t 4, (pre ++ [c]) ++ nbrs c.1 c.2 4, bump u c.1 c.2 t, rfl, ⟨by have := HI.out; rw [List.length_append, nbrs_len, g3]; rw [hlen] at *; omega⟩, HT, HLt, HPe, ⟨by have := HN.out; rw [List.length_append, nbrs_len, g3]; rw [hlen] at *; omega⟩, HB⟩
      | succ q =>
       have hji : (j : Int) < 4 := by have := HJ.out.1; omega
       have hj4 : j ≤ 4 := by omega
       have HE := Aside0.mk (fun W => exit_calls c.1 c.2 (j : Int) W (by omega) (by omega) (by omega))
       obtain ⟨pq, hpq⟩ : ∃ pq, pq = mv4 (j : Int) c.1 c.2 := ⟨_, rfl⟩
       have hpb2 : (-10 ≤ pq.1 ∧ pq.1 ≤ 10) ∧ (-10 ≤ pq.2 ∧ pq.2 ≤ 10) := by
        rw [hpq]
        unfold mv4
        repeat' split
        all_goals (simp only; omega)
       rw [← hpq] at HE
       have hwp := i64_ok (x := pq.1) (by omega) (by omega)
       have hwq := i64_ok (x := pq.2) (by omega) (by omega)
       obtain ⟨g, hgg⟩ : ∃ g, g = (heapM M c.1 c.2 t j pq.1 pq.2).getD 0 := ⟨_, rfl⟩
       have hgb : -5000 ≤ g ∧ g ≤ 15000 := by
        have h1 := heapM_bd4 M c.1 c.2 t (by omega) pq.1 pq.2 hj4
        have h2 := HV.out.val pq.1 pq.2
        have h3 := hp_le HV.out.legal hn.2 (by omega) pq.1 pq.2
        have h4 := HV.out.nn pq.1 pq.2
        rw [← hgg] at h1
        omega
       have hMn : heapM M c.1 c.2 t (j + 1) = upd (heapM M c.1 c.2 t j) pq.1 pq.2 (g + t) := by rw [hgg, hpq]; rfl
       have hNs : (pre ++ [c]) ++ nbrs c.1 c.2 (j + 1) = ((pre ++ [c]) ++ nbrs c.1 c.2 j) ++ [(pq.1, pq.2)] := by rw [nbrs_succ, ← List.append_assoc, hpq]
       have hcl : ((pre ++ [c]) ++ nbrs c.1 c.2 j).length ≤ 1000000 := by have := HN.out; rw [List.length_append, nbrs_len]; omega
       generalize hMj : heapM M c.1 c.2 t j = Mj at *
       generalize hcj : (pre ++ [c]) ++ nbrs c.1 c.2 j = cj at *
       replace hMn := Aside0.mk hMn
       replace hNs := Aside0.mk hNs
       replace hgg := Aside0.mk hgg
       clear hMj hcj hpq
       have hga := (wfG hgb k2 htb).2
       have hgc : IntKind.i64.wrap (g + t) = g + t := by rw [i64_w]; exact hga
       have hwj := wrap_id (x := (j : Int) + 1) (by omega) (by omega)
       have a0 := blk_cell HA.out.1 0
       have a1 := blk_cell HA.out.1 1
       simp at a0 a1
       go_upto_region 15 with (first | (go_at_call 98; (with_reducible refine (HE.out _).mono ?_); rintro e w9 ⟨rfl, hB⟩; have HP9 := Aside0.mk (HP.out.below hB); have HA9 := Aside0.mk ((hB.block _ (blk_lt HA.out.1)).trans HA.out.1); have HB9 := Aside0.mk (below_then HB.out HB.out.size hB); clear hB))
       have HX9 := blk_lt HA9.out
       have HP8 := Aside0.mk (HP9.out.alloc (.cells #[.int .i64 pq.1, .int .i64 pq.2] 76))
       have HA8 := Aside0.mk (((MapKept.heap_alloc w9 (.cells #[.int .i64 pq.1, .int .i64 pq.2] 76)).2 X HX9).trans HA9.out)
       have HQ8 := Aside0.mk (blk_new w9 (.cells #[.int .i64 pq.1, .int .i64 pq.2] 76))
       have HB8 := Aside0.mk (HB9.out.alloc HB9.out.size (.cells #[.int .i64 pq.1, .int .i64 pq.2] 76))
       have hX8 : w.heap.size ≠ w9.heap.size := fun e => by have := HP9.out.lt; omega
       have hv8 : vc.ownBlock ≠ some w9.heap.size := fun e => Nat.lt_irrefl _ (own_lt HP9.out.cells _ e)
       have hvX := HA.out.2
       have hX9 : X ≠ w9.heap.size := by omega
       clear HP HA HB a0 a1 HP9 HA9 HB9 HX9
       generalize w9.alloc (.cells #[.int .i64 pq.1, .int .i64 pq.2] 76) = W8 at *
       generalize w9.heap.size = X8 at *
       have HPd := Aside0.mk HP8.out.drew
       have HAd : Aside0 (W8.drew.heap[X]? = some (.cells #[.int .i64 c.1, .int .i64 c.2] 76 (0, 0))) := ⟨HA8.out⟩
       have HQd : Aside0 (W8.drew.heap[X8]? = some (.cells #[.int .i64 pq.1, .int .i64 pq.2] 76 (0, 0))) := ⟨HQ8.out⟩
       have HBd := Aside0.mk (below_drew HB8.out)
       clear HP8 HA8 HQ8 HB8
       have a0 := blk_cell HQd.out 0
       have a1 := blk_cell HQd.out 1
       simp only [List.getElem?_toArray, List.getElem?_cons_succ, List.getElem?_cons_zero] at a0 a1
       have hlk := HPd.out.map.look0 hwp hwq
       obtain ⟨cv2, st2, w6, w7, hE6, hl6, hS7, hP7, k6, k7, hB7⟩ := HPd.out.entry hwp hwq (bdN1 HN.out.1 HN.out.2.2.2 HJ.out) (r := g + t) (wfG hgb k2 htb).1
       rw [← hgg.out] at hlk hl6
       have hXlt := blk_lt HAd.out
       have hQlt := blk_lt HQd.out
       have HQ6 : Aside0 (w6.heap[X8]? = some (.cells #[.int .i64 pq.1, .int .i64 pq.2] 76 (0, 0))) := ⟨(k6 X8 hQlt (fun e => hX8 e.symm)).trans HQd.out⟩
       have HQ7 : Aside0 (w7.heap[X8]? = some (.cells #[.int .i64 pq.1, .int .i64 pq.2] 76 (0, 0))) := ⟨(k7 X8 hQlt (fun e => hX8 e.symm)).trans HQd.out⟩
       have HA7 : Aside0 (w7.heap[X]? = some (.cells #[.int .i64 c.1, .int .i64 c.2] 76 (0, 0))) := ⟨(k7 X hXlt (fun e => hXg e.symm)).trans HAd.out⟩
       have b0 := blk_cell HQ6.out 0
       have b1 := blk_cell HQ6.out 1
       simp only [List.getElem?_toArray, List.getElem?_cons_succ, List.getElem?_cons_zero] at b0 b1
       have HP7 := Aside0.mk hP7
       have HB7 := Aside0.mk (hB7 w HBd.out.size HBd.out)
       clear hP7 k6 k7 hB7 HPd HAd HQd HBd hXlt hQlt
       refine start_ (n := 8) (S := fun w' => w'.cell? ⟨X8, 0, none⟩ = some (.int .i64 pq.1) ∧ w'.cell? ⟨X8, 1, none⟩ = some (.int .i64 pq.2) ∧ (Instr.lookup 67 (.map (some w.heap.size)) (.agg #[.int .i64 pq.1, .int .i64 pq.2]) false).run Try.prog w' = .ok (.int .i64 g) w') (ds := [7]) #[false, false, false, false, false, false, false, false] (by kernel_rfl) rfl rfl ⟨a0, a1, hlk⟩ (fun hHeld => ?_)
       refine with_tabW tabc15 bitsc15 (fun HT_ HW_ => ?_)
       generalize W8.drew = Z0 at *
       refine pu_ (i := 0) (N := some 53) (v := ?_) (a' := ?_) HT_.out rfl rfl (Or.inl ⟨by rfl, ?_⟩) ?_ ?_
       rotate_left
       ·intro w'
        go_simp
        with_reducible rfl
       rotate_left
       ·simp only [sp_]
        rfl
       refine pu_ (i := 3) (N := some 56) (v := ?_) (a' := ?_) HT_.out rfl rfl (Or.inl ⟨by rfl, ?_⟩) ?_ ?_
       rotate_left
       ·intro w'
        go_simp
        with_reducible rfl
       rotate_left
       ·simp only [sp_]
        rfl
       refine tk_ (i := 1) (N := some 54) (v := ?_) (a' := ?_) HT_.out HW_.out rfl rfl (Or.inl ⟨by rfl, ?_⟩) hHeld ?_ ?_
       rotate_left
       ·intro w' hSw; obtain ⟨hS0, hS1, hS2⟩ := hSw
        go_simp
        with_reducible rfl
       rotate_left
       ·simp only [sp_]
        rfl
       refine tk_ (i := 2) (N := some 55) (v := ?_) (a' := ?_) HT_.out HW_.out rfl rfl (Or.inl ⟨by rfl, ?_⟩) hHeld ?_ ?_
       rotate_left
       ·intro w' hSw; obtain ⟨hS0, hS1, hS2⟩ := hSw
        go_simp
        with_reducible rfl
       rotate_left
       ·simp only [sp_]
        rfl
       refine pu_ (i := 4) (N := some 57) (v := ?_) (a' := ?_) HT_.out rfl rfl (Or.inl ⟨by rfl, ?_⟩) ?_ ?_
       rotate_left
       ·intro w'
        go_simp
        with_reducible rfl
       rotate_left
       ·simp only [sp_]
        rfl
       refine one_ (i := 5) (N := some 58) #[true, true, true, true, true, true, false, false] rfl rfl (one_of HT_.out (by kernel_rfl)) (by decide) (fun K hK => ?_)
       refine value_ (v := .tuple #[cv2, .int .i64 st2]) (w1 := w6) (by rfl) rfl (by go_simp) ?_
       refine hK.out _ _ ⟨b0, b1, hl6⟩ (fun hHeld => ?_)
       clear hK K a0 a1 hlk hE6
       (try simp only [Act.put, List.setIfInBounds_toArray, List.set_cons_zero, List.set_cons_succ])
       refine pu_ (i := 6) (N := some 59) (v := ?_) (a' := ?_) HT_.out rfl rfl (Or.inl ⟨by rfl, ?_⟩) ?_ ?_
       rotate_left
       ·intro w'
        go_simp
        with_reducible rfl
       rotate_left
       ·simp only [sp_]
        rfl
       refine lastS_ (i := 7) (w1 := w7) #[true, true, true, true, true, true, true, true] rfl rfl (one_of HT_.out (by kernel_rfl)) (by decide) (by rfl) ?_ ?_
       ·go_simp
       clear hS7 hl6 b0 b1 hHeld
       (try simp only [Act.put, List.setIfInBounds_toArray, List.set_cons_zero, List.set_cons_succ])
       refine done_ (done_of HT_.out (by kernel_rfl)) ?_
       clear HT_ HW_ HQ6
       have HPb := Aside0.mk (HP7.out.alloc (.cells #[.int .i64 pq.1, .int .i64 pq.2] 76))
       have HBb := Aside0.mk (HB7.out.alloc HB7.out.size (.cells #[.int .i64 pq.1, .int .i64 pq.2] 76))
       have HAb := Aside0.mk (((MapKept.heap_alloc w7 (.cells #[.int .i64 pq.1, .int .i64 pq.2] 76)).2 X (blk_lt HA7.out)).trans HA7.out)
       have hXlt := blk_lt HA7.out
       have e0 := blk_cell HQ7.out 0
       have e1 := blk_cell HQ7.out 1
       simp only [List.getElem?_toArray, List.getElem?_cons_succ, List.getElem?_cons_zero] at e0 e1
       have hbs := HBb.out.size
       replace hXlt := Aside0.mk hXlt
       go_wp2_with (first | ((with_reducible refine gate_builtin (b := .append) (xs := #[.tmp 60, .tmp 62]) rfl ?_); refine wpList_appH rfl (.tmp 60) (.tmp 62) rfl rfl rfl HPb.out hbs hcl (blk_new w7 _) ?_; intro g1 cap1 w11 hP hB hgr hat; have HP11 := Aside0.mk hP; have HB11 := Aside0.mk (HBb.out.trans hB); have HA11 := Aside0.mk ((hgr.block X (blk_lt HAb.out) (fun e => hvX e.symm)).trans HAb.out); have hat1 := Aside0.mk hat; clear hP hB hgr hat))
       (try simp only [hwj])
       go_roundg q
       case measure => omega
       case rel => exact ⟨.slice (some ⟨g1, 0, none⟩) (cj.length + 1) cap1, N1 + 1, j + 1, rfl, by first | rfl | go_num, ⟨bdJ HJ.out⟩, ⟨by rw [hMn.out, hNs.out]; exact HP11.out⟩, ⟨HA11.out, apX hvX hXlt.out hat1.out⟩, HB11⟩
end Go.Proofs.Ytjedhjeijpbobaa.G8
namespace Go.Proofs.Ytjedhjeijpbobaa.G8
open Go.RowKit Go.Maps Go.MapKept Go.WideShapes Go.ChangeMaps YtjedhjeijpbobaaW.PrintWords YtjedhjeijpbobaaW.PrintLast YtjedhjeijpbobaaW.PrintMore
set_option maxRecDepth 100000 in
theorem lit_inv (d : Nat) {v : Value} {ls : List Lit} (h : Try.prog.keyLits (d + 1) 3 [v] = some ls) : ∃ x : Int, v = .int .i64 x ∧ (Lit.int .i64 x).wf = true := by
 unfold Program.keyLits at h
 rw [Try.underlying3] at h
 cases v <;> simp at h
 rename_i k x
 obtain ⟨⟨rfl, hw⟩, _⟩ := h
 exact ⟨x, rfl, hw⟩
set_option maxRecDepth 100000 in
theorem key_inv {key : Value} {kl : Lit} (h : keyOf Try.prog 76 key = some kl) : ∃ p : Int × Int, key = cellV p.1 p.2 ∧ (Lit.int .i64 p.1).wf = true ∧ (Lit.int .i64 p.2).wf = true := by
 obtain ⟨d, hd⟩ : ∃ d, Try.prog.types.size + 1 = d + 2 := ⟨Try.prog.types.size - 1, by have h : 76 < Try.prog.types.size := row76; omega⟩
 unfold keyOf at h
 rw [Try.underlying76, hd] at h
 simp only at h
 split at h
 ·rename_i hc
  rw [Bool.and_eq_true] at hc
  have hf := hc.2
  obtain ⟨ls, hls, _⟩ := Option.map_eq_some_iff.1 h
  cases key with
  | agg cs =>
   simp [Value.formed, Try.underlying76, cells76] at hf
   obtain ⟨cs⟩ := cs
   match cs, hf with
   | [a, b], _ =>
    unfold Program.keyLits at hls
    rw [Try.underlying76] at hls
    simp [Value.cells, cells76, cells3] at hls
    obtain ⟨q1, hq1, hq3⟩ := Option.bind_eq_some_iff.1 hls
    simp at hq3
    obtain ⟨q2, hq2⟩ : ∃ q2, Try.prog.keyLits (d + 1) 3 [b] = some q2 := by
     cases hk : Try.prog.keyLits (d + 1) 3 [b] with
     | none => rw [hk] at hq3; simp at hq3
     | some q2 => exact ⟨q2, rfl⟩
    obtain ⟨x, rfl, hx⟩ := lit_inv d hq1
    obtain ⟨y, rfl, hy⟩ := lit_inv d hq2
    exact ⟨(x, y), rfl, hx, hy⟩
  | _ => simp [Value.formed, Try.underlying76] at hf
 ·cases h
abbrev wfI (x : Int) : Prop := (Lit.int .i64 x).wf = true
structure Coll (F : Fld) (left : Lit → Bool) (cs : List (Int × Int)) : Prop where
 once : cs.Nodup
 wf : ∀ c ∈ cs, wfI c.1 ∧ wfI c.2
 is : ∀ x y, wfI x → wfI y → ((x, y) ∈ cs ↔ (F x y).isSome = true ∧ left (keyLit x y) = false)
theorem Coll.start {H : Type} {D : DataW H} {F : Fld} (h : FieldIs D F) : Coll F (Maps.has D) [] := by
 refine ⟨List.nodup_nil, fun c hc => by simp at hc, fun x y hx hy => ?_⟩
 rw [h.has x y hx hy]
 cases F x y <;> simp
theorem Coll.step {F : Fld} {left : Lit → Bool} {cs : List (Int × Int)} (h : Coll F left cs) {x y : Int} (hx : wfI x) (hy : wfI y) (hl : left (keyLit x y) = true) (hs : (F x y).isSome = true) : Coll F (fun z => left z && !z.sameKey (keyLit x y)) (cs ++ [(x, y)]) := by
 have hk : WideAt.IsKeyLit (keyLit x y) := law76.key (key_is x y hx hy)
 have hno : (x, y) ∉ cs := fun hm => by
  have := ((h.is x y hx hy).1 hm).2
  rw [hl] at this
  cases this
 refine ⟨?_, fun c hc => ?_, fun a b ha hb => ?_⟩
 ·rw [List.nodup_append]
  refine ⟨h.once, by simp, fun p hp q hq => ?_⟩
  simp at hq
  subst hq
  rintro rfl
  exact hno hp
 ·simp only [List.mem_append, List.mem_singleton] at hc
  rcases hc with hc | rfl
  ·exact h.wf c hc
  ·exact ⟨hx, hy⟩
 ·simp only [List.mem_append, List.mem_singleton, Prod.mk.injEq]
  rw [h.is a b ha hb]
  by_cases e : a = x ∧ b = y
  ·rw [e.1, e.2]
   simp [hs, WideAt.sameKey_self hk]
  ·have hne := key_ne hx hy ha hb e
   have hsk : (keyLit a b).sameKey (keyLit x y) = false := by
    cases q : (keyLit a b).sameKey (keyLit x y) with
    | false => rfl
    | true => exact absurd (WideAt.sameKey_eq q) hne
   simp only [e, or_false, hsk, Bool.not_false, Bool.and_true]
theorem wpList_appL {ops : Array Oper} {rest : List Oper} {o : Oper} {a : Act} {Q : Exit → Act → World → Prop} {W : World} {base : Nat} {vc : Value} {cs : List (Int × Int)} {x y : Int} {C : Nat} (hgd : o.guard = none) (sv xv : Operand) (ho : o.op = .call { callee := .builtin .append, args := #[sv, xv], argTypes := #[68, 68] })
  (hs : a.eval sv = vc) (hx : a.eval xv = .slice (some ⟨C, 0, none⟩) 1 1) (h : W.ownsRow base 76 2 vc cs.length (flat cs)) (hbase : base ≤ W.heap.size) (hl : cs.length ≤ 1000000) (hC : W.heap[C]? = some (.cells #[.int .i64 x, .int .i64 y] 76 (0, 0)))
  (k : ∀ g1 cap w1, w1.ownsRow base 76 2 (.slice (some ⟨g1, 0, none⟩) (cs.length + 1) cap) (cs ++ [(x, y)]).length (flat (cs ++ [(x, y)])) → Below base W w1 → W.grownBy w1 vc.ownBlock →
   wpList Try.prog ops Q rest (a.put o.dst (.slice (some ⟨g1, 0, none⟩) (cs.length + 1) cap)) w1) : wpList Try.prog ops Q (o :: rest) a W := by
 obtain ⟨i0, hi0, hz⟩ := Option.map_eq_some_iff.1 info76s
 simp only [Prod.mk.injEq] at hz
 obtain ⟨hz0, hz1, hz2⟩ := hz
 refine wpList_append_lies (w := W) hgd sv xv 68 ho base 76 i0 (.agg #[.int .i64 0, .int .i64 0]) 2 16 Try.underlying68 hi0 hz0 hz1 hz2 rfl (by omega) vc cs.length (flat cs) hs h ⟨C, 0, none⟩ 1 1 [.int .i64 x, .int .i64 y] hx rfl (World.news_of_block hC) (by intro u hu; simp at hu; rcases hu with rfl | rfl <;> rfl) (by omega) (by unfold maxLen; omega) (by omega) hbase _ rfl ?_
 intro g1 cap w1 hown hg hat hlt
 exact k g1 cap w1 (by rw [flat_app, List.length_append, List.length_singleton]; exact hown) ((Below.refl base W).grown hg hbase (own_base h)) hg
theorem ranges_apart {w : World} {gm r N n : Nat} {D : DataW Nat} {left : Lit → Bool} {cnt : Nat} {base : Nat} {vc : Value} {xs : List Value} (h : w.ranges Try.prog 76 (plainElem Try.prog 3) gm r N D left cnt) (hv : w.ownsRow base 76 2 vc n xs) : some r ≠ vc.ownBlock ∧ some gm ≠ vc.ownBlock := by
 obtain ⟨es, clock, since, seen, c0, hb, _, _, _, hr, _⟩ := h
 constructor
 ·intro e
  obtain ⟨cells, hc⟩ := own_typed hv r e.symm
  rw [hr] at hc
  cases hc
 ·intro e
  obtain ⟨cells, hc⟩ := own_typed hv gm e.symm
  rw [hb] at hc
  cases hc
def CellsOut (w : World) (F : Fld) (e : Ending) (w' : World) : Prop := ∃ vc cs, e = .returned vc ∧ Below w.heap.size w w' ∧ Aside0 (w'.ownsRow w.heap.size 76 2 vc cs.length (flat cs)) ∧ cs.length ≤ 100000 ∧ cs.Nodup ∧ (∀ c ∈ cs, wfI c.1 ∧ wfI c.2) ∧ ∀ x y, wfI x → wfI y → ((x, y) ∈ cs ↔ (F x y).isSome = true)
set_option maxHeartbeats 4000000 in
set_option maxRecDepth 100000 in
theorem cellsOf_calls (gm N : Nat) (F : Fld) (w : World) (hM : MapIs w gm N F) (hN : N ≤ 100000) : Calls Try.prog 80 #[.map (some gm)] w (CellsOut w F) := by
 have hu76 := Try.underlying76
 obtain ⟨D, hown, hfi⟩ := hM
 have hsz := hown.size_le
 have hgl := hown.lt
 have HO := Aside0.mk hown
 have HF := Aside0.mk hfi
 clear hown hfi
 go_enter Try.func80, Try.ntmps80
 go_wp2_with (first | (at_range; refine wpList_range_own _ rfl _ 67 rfl 76 3 law76 Try.underlying67 _ gm N _ rfl (HO.out.kept (World.grownBy_alloc w (.cells #[] 76) none) (by simp)) ?_; intro w0 hrg0 hg0 hs0))
 go_frame
 have e1 : (w.alloc (.cells #[] 76)).heap.size = w.heap.size + 1 := by simp
 rw [e1] at hrg0 hs0 ⊢
 have HRG0 := Aside0.mk hrg0
 have HB0 : Aside0 (Below w.heap.size w w0) := ⟨((Below.refl w.heap.size w).alloc (Nat.le_refl _) (.cells #[] 76)).grown hg0 (by simp) (fun j hj => by cases hj)⟩
 have HR0 : Aside0 (w0.ownsRow w.heap.size 76 2 (.slice (some ⟨w.heap.size, 0, none⟩) 0 0) 0 (flat [])) := ⟨⟨rfl, .inr ⟨w.heap.size, 0, #[], rfl, Nat.le_refl _, (hg0.block _ (by simp) (by simp)).trans (blk_new w _), Nat.le_refl _, by unfold maxLen; simp, rfl, rfl⟩⟩⟩
 clear hrg0 hg0 hs0
 go_loopg [3] (Maps.size D) (fun m v3 wr => ∃ (vc : Value) (left : Lit → Bool) (cnt : Nat) (cs : List (Int × Int)), v3 = vc ∧ Aside0 (wr.ranges Try.prog 76 (plainElem Try.prog 3) gm (w.heap.size + 1) N D left cnt) ∧ Aside0 (cnt ≤ m ∧ cs.length + cnt ≤ N) ∧ Aside0 (Coll F left cs) ∧ Aside0 (wr.ownsRow w.heap.size 76 2 vc cs.length (flat cs)) ∧ Aside0 (Below w.heap.size w wr))
 case atStart => exact ⟨_, _, _, [], rfl, HRG0, ⟨Nat.le_refl _, by simpa using hsz⟩, ⟨Coll.start HF.out⟩, HR0, HB0⟩
 case round =>
  clear HRG0 HB0 HR0
  obtain ⟨vc, left, cnt, cs, hvc, HRG, HI, HC, HR, HB⟩ := hrel
  replace hvc := hvc.symm
  subst hvc
  obtain ⟨ap1, ap2⟩ := ranges_apart HRG.out HR.out
  go_wp2_with (first | (at_next; refine wpList_next_ranges _ rfl (.tmp 7) rfl 76 law76 (plainElem Try.prog 3) (fun p : Int × Int => cellV p.1 p.2) (Value.int .i64) (fun key kl h => by obtain ⟨p, hp, _⟩ := key_inv h; exact ⟨p, hp⟩) (fun v y hv => by obtain ⟨c, rfl, _⟩ := plainElem_int_inv Try.underlying3 hv; exact ⟨c, rfl⟩) gm (w.heap.size + 1) N D left cnt rfl HRG.out ?_ ?_))
  ·intro hc0 hl0
   have hlen : cs.length ≤ 100000 := by have := HI.out.2; omega
   have HE : Aside0 (∀ x y, wfI x → wfI y → ((x, y) ∈ cs ↔ (F x y).isSome = true)) := ⟨fun x y hx hy => by rw [HC.out.is x y hx hy, hl0]; simp⟩
   clear hc0 hl0
   go_wp2_with (fail)
   refine bodyPost_ret (v := vc) (by simp [results, Try.results80, go_sem]) rfl ?_
   exact ⟨vc, cs, rfl, HB.out, HR, hlen, HC.out.once, HC.out.wf, HE.out⟩
  ·intro px py c kl y1 y2 w1 cnt1 hkey hlk hRv hat hrg1 hlt hg1 hs1 hen
   cases gk with
   | zero => have := HI.out.1; omega
   | succ m =>
    obtain ⟨p2, hp2, hx, hy⟩ := key_inv hkey
    obtain ⟨hp21, hp22⟩ : px = p2.1 ∧ py = p2.2 := by
     injection hp2 with hp2
     have h3 := congrArg Array.toList hp2
     simp at h3
     exact h3
    rw [← hp21] at hx
    rw [← hp22] at hy
    have hkl : keyLit px py = kl := Option.some.inj ((key_is px py hx hy).symm.trans hkey)
    have hsome : (F px py).isSome = true := by
     rw [← HF.out.has px py hx hy, hkl]
     exact Maps.has_true_of_atKey hat
    have HC1 := Aside0.mk (HC.out.step hx hy (by rw [hkl]; exact hlk) hsome)
    rw [hkl] at HC1
    have HRG1 := Aside0.mk hrg1
    have HR1 : Aside0 (w1.ownsRow w.heap.size 76 2 vc cs.length (flat cs)) := ⟨own_move HR.out fun k hk => hg1.block k (own_lt HR.out k hk) (fun e => ap1 (by rw [hk, e]))⟩
    have HB1 : Aside0 (Below w.heap.size w w1) := ⟨HB.out.grown hg1 HB.out.size (fun j hj => by cases hj; exact Nat.le_succ _)⟩
    have hcl : cs.length ≤ 1000000 := by have := HI.out.2; omega
    have HI1 : Aside0 (cnt1 ≤ m ∧ cs.length + 1 + cnt1 ≤ N) := ⟨by have := HI.out; omega⟩
    clear hkey hlk hRv hat hrg1 hg1 hs1 hp2 hp21 hp22 hkl hsome HRG HR HB HC hlt
    have hs1 := HB1.out.size
    have HRb : Aside0 (((w1.alloc (.cells #[.int .i64 px, .int .i64 py] 76)).alloc (.cells #[.int .i64 px, .int .i64 py] 76)).ownsRow w.heap.size 76 2 vc cs.length (flat cs)) := ⟨own_move HR1.out fun k hk => ((MapKept.heap_alloc _ _).2 k (by have := own_lt HR1.out k hk; simp; omega)).trans ((MapKept.heap_alloc w1 _).2 k (own_lt HR1.out k hk))⟩
    have HBb : Aside0 (Below w.heap.size w ((w1.alloc (.cells #[.int .i64 px, .int .i64 py] 76)).alloc (.cells #[.int .i64 px, .int .i64 py] 76))) := ⟨(HB1.out.alloc hs1 _).alloc (by simp; omega) _⟩
    have HGb : Aside0 (((w1.alloc (.cells #[.int .i64 px, .int .i64 py] 76)).alloc (.cells #[.int .i64 px, .int .i64 py] 76)).ranges Try.prog 76 (plainElem Try.prog 3) gm (w.heap.size + 1) N D (fun z => left z && !z.sameKey kl) cnt1) := ⟨(HRG1.out.alloc _).alloc _⟩
    go_wp2_with (first | ((with_reducible refine gate_builtin (b := .append) (xs := #[.tmp 12, .tmp 14]) rfl ?_); refine wpList_appL rfl (.tmp 12) (.tmp 14) rfl rfl rfl HRb.out HBb.out.size hcl (by first | exact two_new1 w1 _ _ | exact blk_new _ _) ?_; intro g1 cap1 w11 hR hB hgr; have HR11 := Aside0.mk hR; have HB11 := Aside0.mk (HBb.out.trans hB); have HG11 := Aside0.mk (HGb.out.kept hgr ap2 ap1); clear hR hB hgr))
    trace_state
    go_roundg m
    case measure => omega
    case rel => exact ⟨_, _, cnt1, cs ++ [(px, py)], rfl, HG11, ⟨by have := HI1.out; rw [List.length_append, List.length_singleton]; exact this⟩, HC1, HR11, HB11⟩
end Go.Proofs.Ytjedhjeijpbobaa.G8
namespace Go.Proofs.Ytjedhjeijpbobaa.G8
open Go.RowKit Go.Maps YtjedhjeijpbobaaW.PrintWords YtjedhjeijpbobaaW.PrintLast YtjedhjeijpbobaaW.PrintMore
open GA
theorem greatest_l1 (cs : List (Int × Int)) (hl : cs.length ≤ 100000) (hb : ∀ c ∈ cs, -15 ≤ c.1 ∧ c.1 ≤ 15 ∧ -15 ≤ c.2 ∧ c.2 ≤ 15) : ∀ (m i : Nat) (a : Int), i + m = cs.length → impl_greatest.l0 (m + 1) a (cs.map toS) (cs.length : Int) (i : Int) = some (sqF a (cs.drop i)) := by
 intro m
 induction m with
 | zero =>
  intro i a h
  simp only [impl_greatest.l0]
  rw [if_neg (by omega), List.drop_eq_nil_of_le (by omega)]
  rfl
 | succ m ih =>
  intro i a h
  unfold impl_greatest.l0
  have hi : i < cs.length := by omega
  rw [if_pos (by omega), if_pos (by omega), if_pos (by rw [List.length_map]; omega)]
  have e : rd_T76 (cs.map toS) (i : Int) = toS cs[i] := by
   unfold rd_T76
   rw [Int.toNat_natCast, List.getD_eq_getElem?_getD, List.getElem?_map, List.getElem?_eq_getElem hi]
   rfl
  obtain ⟨h1, h2, h3, h4, h5⟩ := sq_box (hb _ (List.getElem_mem hi))
  have e2 : impl_cell_square.f (toS cs[i]).f0 (toS cs[i]).f1 = some (sq cs[i]) := by
   unfold impl_cell_square.f toS
   simp only
   rw [h1, h2, h3]
  rw [e, e2, Option.bind_some, wrap_id (x := (i : Int) + 1) (by omega) (by omega)]
  have := ih (i + 1) (mx a (sq cs[i])) (by omega)
  rw [show ((i + 1 : Nat) : Int) = (i : Int) + 1 by omega] at this
  rw [this, List.drop_eq_getElem_cons hi]
  have e3 : mx a (sq cs[i]) = if a > sq cs[i] then a else sq cs[i] := by
   unfold mx
   by_cases q : a < sq cs[i]
   ·rw [if_pos q, if_neg (by omega)]
   ·by_cases q2 : a > sq cs[i]
    ·rw [if_neg q, if_pos q2]
    ·rw [if_neg q, if_neg q2]; omega
  rw [e3]
  rfl
theorem greatest_many {cs : List (Int × Int)} (hl : cs.length ≤ 100000) (hb : ∀ c ∈ cs, -15 ≤ c.1 ∧ c.1 ≤ 15 ∧ -15 ≤ c.2 ∧ c.2 ≤ 15) (W : World) (A : Option Addr) (n c : Nat) (hn : n = cs.length) (hc : n ≤ c) (h : Kd.C k76 W A n (cs.map toS)) : Calls Try.prog 76 #[.slice A n c] W fun e w' => e = .returned (.int .i64 (sqF 0 cs)) ∧ Below W.heap.size W w' := by
 have e : n = (cs.map toS).length := by rw [List.length_map]; exact hn
 subst e
 refine impl_greatest.calls (cs.length + 1) A c (cs.map toS) _ W h hc ?_
 unfold impl_greatest.f
 rw [List.length_map]
 exact greatest_l1 cs hl hb cs.length 0 0 (by omega)
theorem cells_reads {w : World} {base : Nat} {vc : Value} {cs : List (Int × Int)} (h : w.ownsRow base 76 2 vc cs.length (flat cs)) : ∃ A c, vc = .slice A cs.length c ∧ cs.length ≤ c ∧ Kd.C k76 w A cs.length (cs.map toS) := by
 obtain ⟨A, c, he, hr⟩ := own_reads_row h (reps_flat w cs) (by simp)
 refine ⟨A, c, he, ?_, hr⟩
 rcases h.2 with ⟨h1, h2⟩ | ⟨g, cap, cur, h1, _, _, h3, _⟩
 ·rw [h1] at he
  injection he with _ e2 e3
  omega
 ·rw [h1] at he
  injection he with _ e2 e3
  omega
theorem same_cells {n : Int} (hn : 1 ≤ n ∧ n ≤ 250) {u : Odo} {M : Fld} (hV : HInv n u M) (hs : ∀ a b, hp n u a b ≤ 3) {cs : List (Int × Int)} (hw : ∀ c ∈ cs, wfI c.1 ∧ wfI c.2) (hm : ∀ x y, wfI x → wfI y → ((x, y) ∈ cs ↔ (M x y).isSome = true)) : (∀ c, c ∈ cs ↔ c ∈ heapCs n) ∧ ∀ c ∈ cs, -15 ≤ c.1 ∧ c.1 ≤ 15 ∧ -15 ≤ c.2 ∧ c.2 ≤ 15 := by
 have h0 : 0 ≤ n ∧ n ≤ 250 := by omega
 have hu := heapU_is h0 hV.legal hs
 have hiff : ∀ a b, (M a b).isSome = true ↔ hot n u a b := fun a b => by rw [hV.has, key_iff hV.legal h0.1 hV.nn]; rfl
 have h1 : ∀ c, c ∈ cs ↔ c ∈ heapCs n := fun c => by
  rw [show c = (c.1, c.2) from rfl, mem_heapCs h0, ← hu, ← hiff]
  constructor
  ·intro k
   exact (hm c.1 c.2 (hw c k).1 (hw c k).2).1 k
  ·intro k
   have := hot_near hV.legal h0.2 ((hiff c.1 c.2).1 k)
   exact (hm c.1 c.2 (i64_ok (by omega) (by omega)) (i64_ok (by omega) (by omega))).2 k
 refine ⟨h1, fun c hc => ?_⟩
 have := hot_near (heapU_ok h0).1 h0.2 ((mem_heapCs h0 c.1 c.2).1 ((h1 c).1 hc))
 omega
theorem iin_bad {n : Int} (h : ¬ (1 ≤ n ∧ n ≤ 250)) : impl_in.f n 1 250 = some false := by
 unfold impl_in.f
 by_cases q : 1 ≤ n
 ·rw [if_pos q, decide_eq_false (by omega)]
 ·rw [if_neg q]
theorem iin_good {n : Int} (h : 1 ≤ n ∧ n ≤ 250) : impl_in.f n 1 250 = some true := by
 unfold impl_in.f
 rw [if_pos h.1, decide_eq_true h.2]
def impl_HeapSquare.f (n : Int) : Option (Int × Bool) := some (heapV n, okHeap n)
def spec_HeapSquare.f (n : Int) : Option (Int × Bool) := some (heapV n, okHeap n)
set_option maxHeartbeats 4000000 in
set_option maxRecDepth 100000 in
theorem impl_HeapSquare.walk (n : Int) (w : World) : Calls Try.prog 36 #[.int .i64 n] w fun e w' => e = .returned (.tuple #[.int .i64 (heapV n), .bool (okHeap n)]) ∧ Below w.heap.size w w' := by
 by_cases hn : 1 ≤ n ∧ n ≤ 250
 ·have hv : heapV n = sqF 0 (heapCs n) ∧ okHeap n = true := ⟨if_pos hn, decide_eq_true hn⟩
  rw [hv.1, hv.2]
  have HA := Aside0.mk (fun W => impl_in.calls n 1 250 true W (iin_good hn))
  have HH := Aside0.mk (fun W => heapOf_calls n hn W)
  clear hv
  go_enter Try.func36, Try.ntmps36
  go_wp2_with (first | (go_at_call 79; (with_reducible refine (HA.out _).mono ?_); rintro e w1 ⟨rfl, ⟨nd, rfl⟩⟩) | (go_at_call 81; (with_reducible refine (HH.out _).mono ?_); rintro e w2 ⟨gm, N, u, M, rfl, hB, hM, hV, hS, hg, hN⟩) | (go_at_call 80; refine (cellsOf_calls gm N M _ hM.out hN).mono ?_; rintro e w3 ⟨vc, cs, rfl, hB3, hO, hl, hnd, hw, hm⟩; obtain ⟨sm, hbx⟩ := same_cells hn hV.out hS.out hw hm; obtain ⟨A, c, hvc, hc, hC⟩ := cells_reads hO.out; subst hvc) | (go_at_call 76; refine (greatest_many hl hbx _ _ _ _ rfl hc hC).mono ?_; rintro e w4 ⟨rfl, hB4⟩))
  go_ret2
  exact ⟨by rw [sqF_same 0 sm]; rfl, below_then (below_then (below_then (bN_ (Below.refl w.heap.size w) nd) (by simp) hB) (by have := hB.size; simpa using this) hB3) (by have h1 := hB.size; have h2 := hB3.size; simp at h1 h2 ⊢; omega) hB4⟩
 ·have hv : heapV n = 0 ∧ okHeap n = false := ⟨if_neg hn, decide_eq_false hn⟩
  rw [hv.1, hv.2]
  have HA := Aside0.mk (fun W => impl_in.calls n 1 250 false W (iin_bad hn))
  clear hv
  go_enter Try.func36, Try.ntmps36
  go_wp2_with (first | (go_at_call 79; (with_reducible refine (HA.out _).mono ?_); rintro e w1 ⟨rfl, ⟨nd, rfl⟩⟩))
  go_ret2
  exact ⟨rfl, by repeat (first | exact Below.refl _ _ | apply bN_)⟩
theorem hot_mid {n : Int} (hn : 1 ≤ n ∧ n ≤ 250) : (0, 0) ∈ heapCs n := by
 have h0 : 0 ≤ n ∧ n ≤ 250 := by omega
 rw [mem_heapCs h0]
 exact (key_iff (heapU_ok h0).1 h0.1 (fun a b => ((heapU_ok h0).2 a b).1) 0 0).1 (.inl ⟨rfl, rfl, by omega⟩)
theorem hrows_at {n : Int} {u : Odo} {cs : List (Int × Int)} {i : Nat} {c : Int × Int} (h : cs[i]? = some c) : (hrows n u cs)[i]? = some [c.1, c.2, hp n u c.1 c.2] := by unfold hrows; rw [List.getElem?_map, h]; rfl
theorem hrows_form {w : World} {base : Nat} {vc : Value} {n : Int} {u : Odo} {cs : List (Int × Int)} (h : RowsAt w base vc (hrows n u cs)) (hp0 : 0 < cs.length) : ∃ g cap, vc = .slice (some ⟨g, 0, none⟩) cs.length cap ∧ ∀ (i : Nat) (c : Int × Int), cs[i]? = some c → ∃ b, w.cell? ⟨g, i, none⟩ = some (.slice (some ⟨b, 0, none⟩) 3 3) ∧ w.cell? ⟨b, 0, none⟩ = some (.int .i64 c.1) ∧ w.cell? ⟨b, 1, none⟩ = some (.int .i64 c.2) := by
 obtain ⟨g, cap, h1, h2⟩ := h.form (by rw [hrows_len]; exact hp0)
 rw [hrows_len] at h1
 refine ⟨g, cap, h1, fun i c hc => ?_⟩
 obtain ⟨b, q1, q2, q3⟩ := h2 i _ (hrows_at hc)
 exact ⟨b, q1, (blk_cell q3 0).trans rfl, (blk_cell q3 1).trans rfl⟩
theorem cs_near {n : Int} (hn : 0 ≤ n ∧ n ≤ 250) : ∀ c ∈ heapCs n, -15 ≤ c.1 ∧ c.1 ≤ 15 ∧ -15 ≤ c.2 ∧ c.2 ≤ 15 := fun c hc => by
 have := hot_near (heapU_ok hn).1 hn.2 ((mem_heapCs hn c.1 c.2).1 hc)
 omega
theorem cs_few {n : Int} (hn : 0 ≤ n ∧ n ≤ 250) {cs : List (Int × Int)} {u : Odo} (h : HList n u 61 (-60) cs) : cs.length ≤ 100000 := by
 have := h.few
 omega
theorem zero_cells {w : World} {base : Nat} {vc : Value} {u : Odo} {cs : List (Int × Int)} (hR : RowsAt w base vc (hrows 0 u cs)) (hL : Legal 0 u) (hS : ∀ a b, 0 ≤ hp 0 u a b ∧ hp 0 u a b ≤ 3) (hC : HList 0 u 61 (-60) cs) : ∃ A cap, vc = .slice A 0 cap := by
 have hn : (0 : Int) ≤ 0 ∧ (0 : Int) ≤ 250 := by omega
 have hu := heapU_is hn hL (fun a b => (hS a b).2)
 subst hu
 have h1 := hC.eq hn
 rw [heap_none] at h1
 subst h1
 obtain ⟨A, cap, h, _⟩ := hR.reads
 exact ⟨A, cap, h⟩
theorem many_cells {w : World} {base : Nat} {vc : Value} {n : Int} (hn : 0 ≤ n ∧ n ≤ 250) {u : Odo} {cs S : List (Int × Int)} (hSn : S = heapCs n) (hp0 : 0 < S.length) (hR : RowsAt w base vc (hrows n u cs)) (hL : Legal n u) (hS : ∀ a b, 0 ≤ hp n u a b ∧ hp n u a b ≤ 3) (hC : HList n u 61 (-60) cs) :
  S.length ≤ 100000 ∧ ∃ g cap, vc = .slice (some ⟨g, 0, none⟩) S.length cap ∧ ∀ (i : Nat) (c : Int × Int), S[i]? = some c → ∃ b, w.cell? ⟨g, i, none⟩ = some (.slice (some ⟨b, 0, none⟩) 3 3) ∧ w.cell? ⟨b, 0, none⟩ = some (.int .i64 c.1) ∧ w.cell? ⟨b, 1, none⟩ = some (.int .i64 c.2) := by
 have hu := heapU_is hn hL (fun a b => (hS a b).2)
 subst hu
 have h1 := hC.eq hn
 rw [← hSn] at h1
 subst h1
 exact ⟨cs_few hn hC, hrows_form hR hp0⟩
set_option maxHeartbeats 4000000 in
set_option maxRecDepth 100000 in
theorem spec_HeapSquare.walk (n : Int) (w : World) : Calls Try.prog 35 #[.int .i64 n] w fun e w' => e = .returned (.tuple #[.int .i64 (heapV n), .bool (okHeap n)]) ∧ Below w.heap.size w w' := by
 by_cases hn : 0 ≤ n ∧ n ≤ 250
 ·have HA := Aside0.mk (fun W => heapCells_calls n hn W)
  by_cases h0 : n = 0
  ·have hv : heapV n = 0 ∧ okHeap n = false := ⟨if_neg (by omega), decide_eq_false (by omega)⟩
   rw [hv.1, hv.2]
   clear hv
   subst h0
   go_enter Try.func35, Try.ntmps35
   go_wp2_with (first | (go_at_call 61; (with_reducible refine (HA.out _).mono ?_); rintro e w1 ⟨vc, cs, u, rfl, hB, hR, hL, hS, hC⟩; obtain ⟨A, cap, hvc⟩ := zero_cells hR.out hL.out hS.out hC.out; subst hvc; have HB := Aside0.mk hB; clear hB hR hL hS hC))
   go_loopg [6, 16] 0 (fun m v6 v16 wr => v6 = .int .i64 0 ∧ v16 = .int .i64 0 ∧ Aside0 (Below w.heap.size w wr))
   case atStart => exact ⟨rfl, rfl, HB⟩
   case round =>
    obtain ⟨rfl, rfl, HBr⟩ := hrel
    go_wp2_with (fail)
    go_ret2
    exact ⟨by first | rfl | trivial, HBr.out⟩
  ·have hv : heapV n = sqF 0 (heapCs n) ∧ okHeap n = true := ⟨if_pos (by omega), decide_eq_true (by omega)⟩
   rw [hv.1, hv.2]
   clear hv
   have hn1 : n > 0 := by omega
   obtain ⟨S, hSn⟩ : ∃ S, S = heapCs n := ⟨_, rfl⟩
   have hpos : 0 < S.length := by rw [hSn]; exact List.length_pos_of_mem (hot_mid (by omega))
   have hb : Aside0 (∀ c ∈ S, -15 ≤ c.1 ∧ c.1 ≤ 15 ∧ -15 ≤ c.2 ∧ c.2 ≤ 15) := ⟨by rw [hSn]; exact cs_near hn⟩
   rw [← hSn]
   replace hSn := Aside0.mk hSn
   go_enter Try.func35, Try.ntmps35
   go_upto_region 2 with (first | (go_at_call 61; (with_reducible refine (HA.out _).mono ?_); rintro e w1 ⟨vc, cs, u, rfl, hB, hR, hL, hS, hC⟩; obtain ⟨hlen, g, cap, hvc, hE⟩ := many_cells hn hSn.out hpos hR.out hL.out hS.out hC.out; subst hvc; have HB := Aside0.mk hB; have HE := Aside0.mk hE; clear hB hR hL hS hC hE))
   go_wp2_with (fail)
   go_loopg [6, 16] S.length (fun m v6 v24 wr => ∃ (i : Nat) (a : Int), v6 = .int .i64 a ∧ v24 = .int .i64 (i : Int) ∧ Aside0 (i + m = S.length) ∧ Aside0 (sqF a (S.drop i) = sqF 0 S) ∧ Aside0 (∃ nn, wr = w1.drewN nn))
   case atStart => exact ⟨0, 0, rfl, rfl, ⟨by omega⟩, ⟨rfl⟩, ⟨0, rfl⟩⟩
   case round =>
    obtain ⟨i, a, rfl, rfl, HI, HF, HW⟩ := hrel
    have hce : ∀ p, wr.cell? p = w1.cell? p := fun p => by obtain ⟨nn, e⟩ := HW.out; rw [e]; simp
    have hbe : ∀ W, Below w.heap.size W w1 → Below w.heap.size W wr := fun W h => by obtain ⟨nn, e⟩ := HW.out; rw [e]; exact bN_ h nn
    cases gk with
    | zero =>
     have hi : ¬ ((i : Int) < (S.length : Int)) := by have := HI.out; omega
     have ht : a = sqF 0 S := by
      have := HF.out
      rw [List.drop_eq_nil_of_le (by have := HI.out; omega)] at this
      exact this
     replace ht := Aside0.mk ht
     replace hbe := Aside0.mk hbe
     clear HF HI hce
     go_wp2_with (fail)
     go_ret2
     exact ⟨by first | rfl | (rw [ht.out]; rfl), hbe.out _ (below_then (by repeat (first | exact Below.refl _ _ | apply bN_)) (by simp) HB.out)⟩
    | succ m =>
     have hin : i < S.length := by have := HI.out; omega
     have hi : (i : Int) < (S.length : Int) := by omega
     obtain ⟨c, hc⟩ : ∃ c, c = S[i] := ⟨_, rfl⟩
     have hcm : c ∈ S := by rw [hc]; exact List.getElem_mem hin
     obtain ⟨b, q1, q4, q5⟩ := HE.out i c (by rw [hc]; exact List.getElem?_eq_getElem hin)
     rw [← hce] at q1 q4 q5
     clear hce hbe
     obtain ⟨s1, s2, s3, s4, s5⟩ := sq_box (hb.out c hcm)
     have HM := Aside0.mk (most_quiet a c (hb.out c hcm))
     have hnx : sqF (if a > sq c then a else sq c) (S.drop (i + 1)) = sqF 0 S := by
      have := HF.out
      rw [List.drop_eq_getElem_cons hin, ← hc] at this
      exact this
     generalize (if a > sq c then a else sq c) = t at HM hnx
     have HX := Aside0.mk hnx
     have hw := wrap_id (x := (i : Int) + 1) (by omega) (by omega)
     clear HF hnx hcm hc s1 s2 s3 s4 s5
     go_upto_region 7 with (fail)
     go_quiet ((go_at_call 75; exact Calls.quiet_of (HM.out _)))
     go_wp2_with (fail)
     go_roundg m
     case measure => omega
     case rel => exact ⟨i + 1, _, by first | rfl | trivial, by first | rfl | go_num, ⟨by have := HI.out; omega⟩, HX, ⟨by obtain ⟨nn, e⟩ := HW.out; exact ⟨nn + nq, by rw [e, World.drewN_drewN]⟩⟩⟩
 ·have hv : heapV n = 0 ∧ okHeap n = false := ⟨if_neg (by omega), decide_eq_false (by omega)⟩
  rw [hv.1, hv.2]
  have HA := Aside0.mk (fun W => heapCells_bad n hn W)
  clear hv
  go_enter Try.func35, Try.ntmps35
  go_wp2_with (first | (go_at_call 61; (with_reducible refine (HA.out _).mono ?_); rintro e w1 ⟨rfl, hB⟩))
  have HB := Aside0.mk hB
  clear hB
  go_loopg [6, 16] 0 (fun m v6 v16 wr => v6 = .int .i64 0 ∧ v16 = .int .i64 0 ∧ Aside0 (Below w.heap.size w wr))
  case atStart => exact ⟨rfl, rfl, HB⟩
  case round =>
   obtain ⟨rfl, rfl, HBr⟩ := hrel
   go_wp2_with (fail)
   go_ret2
   exact ⟨by first | rfl | trivial, HBr.out⟩
theorem spec_HeapSquare.calls (n : Int) (r1 : Int) (r2 : Bool) (w : World) (h : spec_HeapSquare.f n = some (r1, r2)) :
  Calls Try.prog 35 #[.int .i64 n] w fun e w' => e = .returned (.tuple #[.int .i64 r1, .bool r2]) ∧ Below w.heap.size w w' := by
 have e := Option.some.inj h
 injection e with e1 e2
 subst e1 e2
 exact spec_HeapSquare.walk n w
theorem impl_HeapSquare.calls (n : Int) (r1 : Int) (r2 : Bool) (w : World) (h : impl_HeapSquare.f n = some (r1, r2)) :
  Calls Try.prog 36 #[.int .i64 n] w fun e w' => e = .returned (.tuple #[.int .i64 r1, .bool r2]) ∧ Below w.heap.size w w' := by
 have e := Option.some.inj h
 injection e with e1 e2
 subst e1 e2
 exact impl_HeapSquare.walk n w
end Go.Proofs.Ytjedhjeijpbobaa.G8
namespace Go.Proofs.Ytjedhjeijpbobaa.GJ
open Go.RowKit YtjedhjeijpbobaaW.PrintWords YtjedhjeijpbobaaW.PrintLast YtjedhjeijpbobaaW.PrintMore
open GA G8
attribute [local go_sem] max2_int min2_int max_two min_two max_three min_three max_four min_four
def errW : Option Int → Value
 | none => .nilIface
 | some c => .iface 0 (.int .i64 c)
theorem errW_none : errW none = .nilIface := rfl
theorem errW_some (c : Int) : errW (some c) = .iface 0 (.int .i64 c) := rfl
end Go.Proofs.Ytjedhjeijpbobaa.GJ
namespace Go.Proofs.Ytjedhjeijpbobaa.GJ
open Go.RowKit YtjedhjeijpbobaaW.PrintWords YtjedhjeijpbobaaW.PrintLast YtjedhjeijpbobaaW.PrintMore
open GA G8
attribute [local go_sem] max2_int min2_int max_two min_two max_three min_three max_four min_four
def cmp_Or_int.l0 : Nat → Int → List Int → Int → Int → Option (Int)
 | 0, _, _, _, _ => none
 | k + 1, x3, x6, x7, x8 => if x8 < x7 then (if 0 ≤ x8 then (if x8 < (x6.length : Int) then (if (rd x6 x8) = x3 then (cmp_Or_int.l0 k x3 x6 x7 (wrap64 (x8 + 1))) else (some (rd x6 x8))) else (none)) else (none)) else (some x3)
def cmp_Or_int.f (k : Nat) (l0 : List Int) : Option (Int) := cmp_Or_int.l0 k 0 l0 (l0.length : Int) 0
set_option maxHeartbeats 8000000 in
set_option maxRecDepth 100000 in
theorem cmp_Or_int.calls (k : Nat) (A0 : Option Addr) (c0 : Nat) (l0 : List Int) (r : Int) (w : World) (hr0 : Kd.C (Kd.int .i64) w A0 l0.length l0) (hc0 : l0.length ≤ c0) (h : cmp_Or_int.f k l0 = some r) :
  Calls Try.prog 108 #[.slice A0 l0.length c0] w fun e w' => e = .returned (.int .i64 r) ∧ Drawn0 w w' := by
 have HR0 := Aside0.mk hr0
 have HC0 := Aside0.mk hc0
 clear hr0 hc0
 have H : (cmp_Or_int.l0 k 0 l0 (l0.length : Int) 0) = some r := h
 clear h
 have H' := Aside0.mk H
 clear H
 go_enter Try.func108, Try.ntmps108
 go_wp2
 go_loopg [8] k (fun kq v8 w' => ∃ (x8_1 : Int), v8 = .int .i64 x8_1 ∧ Aside0 (cmp_Or_int.l0 kq 0 l0 (l0.length : Int) x8_1 = some r) ∧ Aside0 (kq ≤ k) ∧ Drawn0 w w')
 case atStart => exact ⟨(0), (by first | rfl | (simp; done) | (simp [*]; done)), H', ⟨Nat.le_refl _⟩, by repeat (first | exact Drawn0.refl _ | apply Drawn0.step)⟩
 case round =>
  clear H'
  try clear c1
  obtain ⟨x8_1, rfl, HA, HK1, ⟨m1, rfl⟩⟩ := hrel
  cases gk with
  | zero => exact absurd HA.out (by simp [cmp_Or_int.l0])
  | succ k1 =>
   have H := HA.out
   clear HA
   simp only [cmp_Or_int.l0] at H
   by_cases c2 : x8_1 < (l0.length : Int)
   ·rw [if_pos c2] at H
    have c2b0 : decide (x8_1 < (l0.length : Int)) = true := decide_eq_true c2
    clear c2
    by_cases c3 : 0 ≤ x8_1
    ·rw [if_pos c3] at H
     have c3b0 : decide (0 ≤ x8_1) = true := decide_eq_true c3
     clear c3
     by_cases c4 : x8_1 < (l0.length : Int)
     ·rw [if_pos c4] at H
      have c4b0 : decide (x8_1 < (l0.length : Int)) = true := decide_eq_true c4
      clear c4
      by_cases c5 : (rd l0 x8_1) = 0
      ·rw [if_pos c5] at H
       have c5b0 : ((rd l0 x8_1) == 0) = true := beq_iff_eq.mpr c5
       have c5b1 : ((rd l0 x8_1) != 0) = false := bne_eq_false_iff_eq.mpr c5
       clear c5
       have H' := Aside0.mk H
       clear H
       have p158 : 0 ≤ (x8_1 : Int) := of_decide_eq_true (by first | (with_reducible assumption) | assumption)
       have q158 : x8_1 < (l0.length : Int) := of_decide_eq_true (by first | (with_reducible assumption) | assumption)
       obtain ⟨ad158, e158, hx158_0⟩ := Kd.at_int HR0.out x8_1 p158 q158
       cases e158
       replace p158 := eq_true p158
       replace q158 := eq_true q158
       go_wp2
       go_roundg k1
       case measure => have := HK1.out; omega
       case rel => exact ⟨(wrap64 (x8_1 + 1)), (by first | rfl | (simp; done) | (simp [*]; done)), H', ⟨by have := HK1.out; omega⟩, by repeat (first | exact Drawn0.refl _ | apply Drawn0.step)⟩
      ·rw [if_neg c5] at H
       have c5b0 : ((rd l0 x8_1) == 0) = false := beq_eq_false_iff_ne.mpr c5
       have c5b1 : ((rd l0 x8_1) != 0) = true := bne_iff_ne.mpr c5
       obtain rfl := Option.some.inj H
       have p158 : 0 ≤ (x8_1 : Int) := of_decide_eq_true (by first | (with_reducible assumption) | assumption)
       have q158 : x8_1 < (l0.length : Int) := of_decide_eq_true (by first | (with_reducible assumption) | assumption)
       obtain ⟨ad158, e158, hx158_0⟩ := Kd.at_int HR0.out x8_1 p158 q158
       cases e158
       replace p158 := eq_true p158
       replace q158 := eq_true q158
       go_wp2
       go_ret
       exact ⟨by first | rfl | (simp; done) | (simp [*]; done), by repeat (first | exact Drawn0.refl _ | apply Drawn0.step)⟩
     ·rw [if_neg c4] at H
      exact absurd H (by simp)
    ·rw [if_neg c3] at H
     exact absurd H (by simp)
   ·rw [if_neg c2] at H
    have c2b0 : decide (x8_1 < (l0.length : Int)) = false := decide_eq_false c2
    clear c2
    obtain rfl := Option.some.inj H
    go_wp2
    go_ret
    exact ⟨by first | rfl | (simp; done) | (simp [*]; done), by repeat (first | exact Drawn0.refl _ | apply Drawn0.step)⟩
def impl_compareCells.T1 : Bool × List (List Nat × List Nat) := (true, [([], []), ([0], [0]), ([], []), ([2], [2]), ([1, 3], [1, 3]), ([], []), ([5], [5]), ([], []), ([7], [7]), ([6, 8, 4], [6, 8]), ([4, 9], [4, 9]), ([10, 9], [10]), ([11, 11, 0, 1, 2, 3, 4, 5, 6, 7, 8, 9, 10, 11], [11])])
def impl_compareCells.B1 : List Nat := [0, 1, 0, 4, 15, 0, 32, 0, 128, 511, 1023, 2047, 4095]
theorem impl_compareCells.tab1 : rtab .any (opsOf Try.f102 1) = impl_compareCells.T1 := by kernel_rfl
theorem impl_compareCells.bits1 : waitsOk impl_compareCells.T1.2 impl_compareCells.B1 = true := by kernel_rfl
end Go.Proofs.Ytjedhjeijpbobaa.GJ
namespace Go.Proofs.Ytjedhjeijpbobaa.G8
open Go.RowKit Go.Maps YtjedhjeijpbobaaW.PrintWords YtjedhjeijpbobaaW.PrintLast YtjedhjeijpbobaaW.PrintMore
open GA
open GJ (cmp_Or_int.f cmp_Or_int.l0 cmp_Or_int.calls impl_compareCells.T1 impl_compareCells.B1 impl_compareCells.tab1 impl_compareCells.bits1)
def Gr (W w' : World) : Prop := ∃ q os, w' = Go.Sort.grow (W.drewN q) os
theorem Gr.refl (W : World) : Gr W W := ⟨0, #[], by rw [Go.Sort.grow_empty]; rfl⟩
theorem Gr.alloc {W w' : World} (h : Gr W w') (o : Obj) : Gr W (w'.alloc o) := by
 obtain ⟨q, os, rfl⟩ := h
 exact ⟨q, os ++ #[o], by rw [Go.Sort.alloc_eq_grow, Go.Sort.grow_grow]⟩
theorem Gr.drewN {W w' : World} (h : Gr W w') (n : Nat) : Gr W (w'.drewN n) := by
 obtain ⟨q, os, rfl⟩ := h
 exact ⟨q + n, os, by rw [← World.drewN_drewN]; rfl⟩
theorem Gr.drew {W w' : World} (h : Gr W w') : Gr W w'.drew := h.drewN 1
def cmpV (x y : Int × Int) : Int := if Go.Lib.compareInt x.1 y.1 = 0 then Go.Lib.compareInt x.2 y.2 else Go.Lib.compareInt x.1 y.1
theorem or_two (a b : Int) : cmp_Or_int.f 3 [a, b] = some (if a = 0 then b else a) := by
 have e1 : wrap64 ((0 : Int) + 1) = 1 := wrap_id (by omega) (by omega)
 have e2 : wrap64 ((1 : Int) + 1) = 2 := wrap_id (by omega) (by omega)
 unfold cmp_Or_int.f
 simp only [cmp_Or_int.l0, rd, e1, e2, List.length_cons, List.length_nil]
 by_cases ha : a = 0
 ·by_cases hb : b = 0
  ·subst ha hb; rfl
  ·subst ha; simp [hb]
 ·simp [ha]
theorem compare_at (a b : Int) (W : World) : Calls Try.prog 109 #[.int .i64 a, .int .i64 b] W fun e w' => e = .returned (.int .i64 (Go.Lib.compareInt a b)) ∧ w' = W := Any.cmp_Compare_int Try.lays122 a b W
set_option maxHeartbeats 8000000 in
set_option maxRecDepth 100000 in
theorem compareCells_gr (x y : Int × Int) (w : World) : Calls Try.prog 102 #[.agg #[.int .i64 x.1, .int .i64 x.2], .agg #[.int .i64 y.1, .int .i64 y.2]] w fun e w' => e = .returned (.int .i64 (cmpV x y)) ∧ Gr w w' := by
 have hu76 := Try.underlying76
 obtain ⟨a0_0, a0_1⟩ := x
 obtain ⟨a1_0, a1_1⟩ := y
 have HC1 := Aside0.mk (fun W => compare_at a0_0 a1_0 W)
 have HC2 := Aside0.mk (fun W => compare_at a0_1 a1_1 W)
 have hV : cmpV (a0_0, a0_1) (a1_0, a1_1) = if Go.Lib.compareInt a0_0 a1_0 = 0 then Go.Lib.compareInt a0_1 a1_1 else Go.Lib.compareInt a0_0 a1_0 := rfl
 rw [hV]
 clear hV
 generalize Go.Lib.compareInt a0_0 a1_0 = c1 at *
 generalize Go.Lib.compareInt a0_1 a1_1 = c2 at *
 have HO := Aside0.mk (or_two c1 c2)
 generalize (if c1 = 0 then c2 else c1) = c3 at *
 go_enter Try.func102, Try.ntmps102
 go_upto_region 1 with (fail)
 have BK161 : Aside0 (((w.alloc (.cells #[.int .i64 a0_0, .int .i64 a0_1] 76)).alloc (.cells #[.int .i64 a1_0, .int .i64 a1_1] 76)).drew.heap[w.heap.size]? = some (.cells #[.int .i64 a0_0, .int .i64 a0_1] 76 (0, 0))) := ⟨two_new w _ _⟩
 have BK162 : Aside0 (((w.alloc (.cells #[.int .i64 a0_0, .int .i64 a0_1] 76)).alloc (.cells #[.int .i64 a1_0, .int .i64 a1_1] 76)).drew.heap[w.heap.size + 1]? = some (.cells #[.int .i64 a1_0, .int .i64 a1_1] 76 (0, 0))) := ⟨two_new1 w _ _⟩
 have HG : Aside0 (Gr w ((w.alloc (.cells #[.int .i64 a0_0, .int .i64 a0_1] 76)).alloc (.cells #[.int .i64 a1_0, .int .i64 a1_1] 76)).drew) := ⟨(((Gr.refl w).alloc _).alloc _).drew⟩
 (try simp only [World.size_alloc])
 refine start_ (n := 13) (S := fun w' => w'.cell? ⟨w.heap.size, 0, none⟩ = some (.int .i64 a0_0) ∧ w'.cell? ⟨w.heap.size, 1, none⟩ = some (.int .i64 a0_1) ∧ w'.cell? ⟨w.heap.size + 1, 0, none⟩ = some (.int .i64 a1_0) ∧ w'.cell? ⟨w.heap.size + 1, 1, none⟩ = some (.int .i64 a1_1)) (ds := []) #[false, false, false, false, false, false, false, false, false, false, false, false, false] (by kernel_rfl) rfl rfl ⟨(blk_cell BK161.out 0).trans rfl, (blk_cell BK161.out 1).trans rfl, (blk_cell BK162.out 0).trans rfl, (blk_cell BK162.out 1).trans rfl⟩ (fun hHeld => ?_); refine with_tabW impl_compareCells.tab1 impl_compareCells.bits1 (fun HT_ HW_ => ?_)
 generalize ((w.alloc (.cells #[.int .i64 a0_0, .int .i64 a0_1] 76)).alloc (.cells #[.int .i64 a1_0, .int .i64 a1_1] 76)).drew = w8 at BK161 BK162 HG hHeld ⊢
 refine pu_ (i := 0) (N := some 5) (v := ?_) (a' := ?_) HT_.out rfl rfl (Or.inl ⟨by rfl, ?_⟩) ?_ ?_
 rotate_left
 ·intro w'
  go_simp
  with_reducible rfl
 rotate_left
 ·simp only [sp_]
  rfl
 refine pu_ (i := 2) (N := some 7) (v := ?_) (a' := ?_) HT_.out rfl rfl (Or.inl ⟨by rfl, ?_⟩) ?_ ?_
 rotate_left
 ·intro w'
  go_simp
  with_reducible rfl
 rotate_left
 ·simp only [sp_]
  rfl
 refine pu_ (i := 5) (N := some 10) (v := ?_) (a' := ?_) HT_.out rfl rfl (Or.inl ⟨by rfl, ?_⟩) ?_ ?_
 rotate_left
 ·intro w'
  go_simp
  with_reducible rfl
 rotate_left
 ·simp only [sp_]
  rfl
 refine pu_ (i := 7) (N := some 12) (v := ?_) (a' := ?_) HT_.out rfl rfl (Or.inl ⟨by rfl, ?_⟩) ?_ ?_
 rotate_left
 ·intro w'
  go_simp
  with_reducible rfl
 rotate_left
 ·simp only [sp_]
  rfl
 refine tk_ (i := 1) (N := some 6) (v := ?_) (a' := ?_) HT_.out HW_.out rfl rfl (Or.inl ⟨by rfl, ?_⟩) hHeld ?_ ?_
 rotate_left
 ·rintro w' ⟨s0, s1, s2, s3⟩
  go_simp
  with_reducible rfl
 rotate_left
 ·simp only [sp_]
  rfl
 refine tk_ (i := 3) (N := some 8) (v := ?_) (a' := ?_) HT_.out HW_.out rfl rfl (Or.inl ⟨by rfl, ?_⟩) hHeld ?_ ?_
 rotate_left
 ·rintro w' ⟨s0, s1, s2, s3⟩
  go_simp
  with_reducible rfl
 rotate_left
 ·simp only [sp_]
  rfl
 refine tk_ (i := 6) (N := some 11) (v := ?_) (a' := ?_) HT_.out HW_.out rfl rfl (Or.inl ⟨by rfl, ?_⟩) hHeld ?_ ?_
 rotate_left
 ·rintro w' ⟨s0, s1, s2, s3⟩
  go_simp
  with_reducible rfl
 rotate_left
 ·simp only [sp_]
  rfl
 refine tk_ (i := 8) (N := some 13) (v := ?_) (a' := ?_) HT_.out HW_.out rfl rfl (Or.inl ⟨by rfl, ?_⟩) hHeld ?_ ?_
 rotate_left
 ·rintro w' ⟨s0, s1, s2, s3⟩
  go_simp
  with_reducible rfl
 rotate_left
 ·simp only [sp_]
  rfl
 refine one_ (i := 4) (N := some 9) #[true, true, true, true, true, true, true, true, true, false, false, false, false] rfl rfl (one_of HT_.out (by kernel_rfl)) (by decide) (fun K hK => ?_)
 refine goes_ Try.func109 (by kernel_rfl) rfl #[.int .i64 a0_0, .int .i64 a1_0] (by rfl) rfl rfl (by (try simp only [List.map_toArray, List.map_cons, List.map_nil]); first | done | rfl | (simp only [List.length_drop, List.length_take]; rfl)) ?_
 with_reducible refine (HC1.out _).mono ?_
 rintro e w' ⟨rfl, hw9⟩
 replace hw9 := hw9.symm
 subst hw9
 refine ⟨_, rfl, ?_⟩
 refine hK.out _ _ ⟨(blk_cell BK161.out 0).trans rfl, (blk_cell BK161.out 1).trans rfl, (blk_cell BK162.out 0).trans rfl, (blk_cell BK162.out 1).trans rfl⟩ (fun hHeld => ?_)
 clear hK K
 refine norm_ (a' := ?_) ?_ ?_
 rotate_left
 ·show Act.put _ (some 9) _ = _
  simp only [sp_]
  rfl
 refine one_ (i := 9) (N := some 14) #[true, true, true, true, true, true, true, true, true, true, false, false, false] rfl rfl (one_of HT_.out (by kernel_rfl)) (by decide) (fun K hK => ?_)
 refine goes_ Try.func109 (by kernel_rfl) rfl #[.int .i64 a0_1, .int .i64 a1_1] (by rfl) rfl rfl (by (try simp only [List.map_toArray, List.map_cons, List.map_nil]); first | done | rfl | (simp only [List.length_drop, List.length_take]; rfl)) ?_
 with_reducible refine (HC2.out _).mono ?_
 rintro e w' ⟨rfl, hw9⟩
 replace hw9 := hw9.symm
 subst hw9
 refine ⟨_, rfl, ?_⟩
 refine hK.out _ _ ⟨(blk_cell BK161.out 0).trans rfl, (blk_cell BK161.out 1).trans rfl, (blk_cell BK162.out 0).trans rfl, (blk_cell BK162.out 1).trans rfl⟩ (fun hHeld => ?_)
 clear hK K
 refine norm_ (a' := ?_) ?_ ?_
 rotate_left
 ·show Act.put _ (some 14) _ = _
  simp only [sp_]
  rfl
 refine one_ (i := 10) (N := some 15) #[true, true, true, true, true, true, true, true, true, true, true, false, false] rfl rfl (one_of HT_.out (by kernel_rfl)) (by decide) (fun K hK => ?_)
 refine value_ (v := .slice (some ⟨w8.heap.size, 0, none⟩) 2 2) (w1 := w8.alloc (.cells #[.int .i64 c1, .int .i64 c2] 3)) (by rfl) rfl (by go_simp) ?_
 have hblk := blk_new w8 (.cells #[.int .i64 c1, .int .i64 c2] 3)
 have n1_ := Aside0.mk (((MapKept.heap_alloc w8 (.cells #[.int .i64 c1, .int .i64 c2] 3)).2 _ (blk_lt BK161.out)).trans BK161.out)
 have n2_ := Aside0.mk (((MapKept.heap_alloc w8 (.cells #[.int .i64 c1, .int .i64 c2] 3)).2 _ (blk_lt BK162.out)).trans BK162.out)
 have n3_ := Aside0.mk (HG.out.alloc (.cells #[.int .i64 c1, .int .i64 c2] 3))
 have hRd : Kd.R (Kd.int .i64) 3 (w8.alloc (.cells #[.int .i64 c1, .int .i64 c2] 3)) 0 (fun _ => True) (.slice (some ⟨w8.heap.size, 0, none⟩) 2 2) [c1, c2] :=
  Kd.R_of_own ⟨rfl, .inr ⟨w8.heap.size, 2, _, rfl, Nat.zero_le _, hblk, Nat.le_refl _, by unfold maxLen; simp, rfl, rfl⟩⟩ (fun _ _ => trivial)
 have HR := Aside0.mk (Kd.R_reads' hRd)
 clear BK161 BK162 HG hblk hRd
 have BK161 := n1_
 have BK162 := n2_
 have HG := n3_
 clear n1_ n2_ n3_
 generalize w8.alloc (.cells #[.int .i64 c1, .int .i64 c2] 3) = w9 at *
 generalize w8.heap.size = s8 at *
 refine hK.out _ _ ⟨(blk_cell BK161.out 0).trans rfl, (blk_cell BK161.out 1).trans rfl, (blk_cell BK162.out 0).trans rfl, (blk_cell BK162.out 1).trans rfl⟩ (fun hHeld => ?_)
 clear hK K
 refine norm_ (a' := ?_) ?_ ?_
 rotate_left
 ·show Act.put _ (some 15) _ = _
  simp only [sp_]
  rfl
 refine one_ (i := 11) (N := some 16) #[true, true, true, true, true, true, true, true, true, true, true, true, false] rfl rfl (one_of HT_.out (by kernel_rfl)) (by decide) (fun K hK => ?_)
 refine goes_ Try.func108 (by kernel_rfl) rfl #[.slice (some ⟨s8, 0, none⟩) 2 2] (by rfl) rfl rfl (by (try simp only [List.map_toArray, List.map_cons, List.map_nil]); first | done | rfl | (simp only [List.length_drop, List.length_take]; rfl)) ?_
 refine (cmp_Or_int.calls 3 (some ⟨s8, 0, none⟩) 2 [c1, c2] c3 w9 HR.out.2.2 (Nat.le_refl 2) HO.out).mono ?_
 rintro e w' ⟨rfl, ⟨nd, rfl⟩⟩
 refine ⟨_, rfl, ?_⟩
 refine hK.out _ _ ⟨(blk_cell BK161.out 0).trans rfl, (blk_cell BK161.out 1).trans rfl, (blk_cell BK162.out 0).trans rfl, (blk_cell BK162.out 1).trans rfl⟩ (fun hHeld => ?_)
 clear hK K
 refine norm_ (a' := ?_) ?_ ?_
 rotate_left
 ·show Act.put _ (some 16) _ = _
  simp only [sp_]
  rfl
 refine pu_ (i := 12) (N := some 4) (v := ?_) (a' := ?_) HT_.out rfl rfl (Or.inl ⟨by rfl, ?_⟩) ?_ ?_
 rotate_left
 ·intro w'
  go_simp
  with_reducible rfl
 rotate_left
 ·simp only [sp_]
  rfl
 refine done_ (done_of HT_.out (by kernel_rfl)) ?_
 go_wp2
 go_ret
 exact ⟨by first | rfl | trivial, HG.out.drewN nd⟩
end Go.Proofs.Ytjedhjeijpbobaa.G8
namespace Go.Proofs.Ytjedhjeijpbobaa.G8
open Go.RowKit Go.Shelf Go.Maps YtjedhjeijpbobaaW.PrintWords YtjedhjeijpbobaaW.PrintLast YtjedhjeijpbobaaW.PrintMore
attribute [local go_sem] Oper.semAt_some
def CellsIn (n₀ : Nat) (W : World) (A : Option Addr) (zs : List (Int × Int)) : Prop :=
 ∀ (k : Nat) (z : Int × Int), zs[k]? = some z → ∃ b, A = some ⟨b, 0, none⟩ ∧ b < n₀ ∧ W.cell? ⟨b, k * 2, none⟩ = some (.int .i64 z.1) ∧ W.cell? ⟨b, k * 2 + 1, none⟩ = some (.int .i64 z.2)
theorem CellsIn.below {n₀ : Nat} {W W1 : World} {A : Option Addr} {zs : List (Int × Int)} (h : CellsIn n₀ W A zs) (hB : Below n₀ W W1) : CellsIn n₀ W1 A zs := fun k z hk => by
 obtain ⟨b, h1, h2, h3, h4⟩ := h k z hk
 exact ⟨b, h1, h2, (hB.cell (p := ⟨b, k * 2, none⟩) h2).trans h3, (hB.cell (p := ⟨b, k * 2 + 1, none⟩) h2).trans h4⟩
def encC (x : Int × Int) : Array Value := #[.agg #[.int .i64 x.1, .int .i64 x.2]]
set_option maxRecDepth 100000 in
set_option maxHeartbeats 4000000 in
theorem values1_in (F : Fence) (n : Nat) (h7 : F.fn 107) (hro : F.round = none) (hn : 1 ≤ n) (l Bs n₀ cap : Nat) (A : Option Addr) (zs : List (Int × Int)) (hreach : zs.length ≤ 1000000) (J Jx : List (Int × Int) → World → Prop)
  (hY : ∀ pre x W, J pre W → pre.length < zs.length → YieldAt F (n - 1) Try.prog l (encC x) W fun e W' =>
   (e = .returned (.bool true) ∧ J (pre ++ [x]) W' ∧ Below n₀ W W') ∨ (e = .returned (.bool false) ∧ Jx (pre ++ [x]) W'))
  (W : World) (hJ : AbidesFrom W.heap.size J) (hn₀ : n₀ ≤ W.heap.size) (hBs : W.cell? ⟨Bs, 0, none⟩ = some (.slice A zs.length cap)) (hc : CellsIn n₀ W A zs) (h0 : J [] W) :
  CallsIn F n Try.prog 107 #[.func (.yield l) #[] #[], .pointer (some ⟨Bs, 0, none⟩)] W fun e W' => (∃ v, e = .returned v) ∧
   ((∃ ys, ys = zs ∧ J ys W') ∨ (∃ pre, pre <+: zs ∧ Jx pre W')) := by
 have hu76 := Try.underlying76
 refine callsIn_of_wp Try.func107 rfl h7 ?_ hro
 simp only [Try.ntmps107, List.size_toArray, List.length_cons, List.length_nil, Nat.reduceAdd, Nat.reduceSub, Array.replicate_succ, Array.replicate_zero, List.push_toArray, List.append_toArray, List.nil_append, List.cons_append]
 gi_wp2
 gi_loopw [7] (fun i wr => ∃ k : Nat, k ≤ zs.length ∧ i = .int .i64 k ∧ J (zs.take k) wr ∧ Below n₀ W wr)
  (fun i _ => zs.length - (intOf i).toNat)
 case atStart => exact ⟨0, Nat.zero_le _, rfl, by simpa using h0, Below.refl _ _⟩
 case round =>
  obtain ⟨k, hk, rfl, hJs, hnx⟩ := hrel
  by_cases hlt : k < zs.length
  ·obtain ⟨b, rfl, hb, hc0, hc1⟩ := (hc.below hnx) k zs[k] (List.getElem?_eq_getElem hlt)
   have hJ2 : J (zs.take k) (wr.alloc (.cells #[.int .i64 zs[k].1, .int .i64 zs[k].2] 76)) := hJ _ wr _ none hJs (World.grownBy_alloc wr _ none) (fun r e => by cases e)
   have hnx2 : Below n₀ W (wr.alloc (.cells #[.int .i64 zs[k].1, .int .i64 zs[k].2] 76)) := hnx.alloc (Nat.le_trans hn₀ hnx.size) _
   obtain ⟨fn, tmps, assign, body, hy, hR⟩ := hY _ zs[k] _ hJ2 (by rw [List.length_take]; omega)
   unfold encC at hy
   gi_wp2
   refine hR.mono ?_
   rintro e W3 (⟨rfl, hJ3, hk3⟩ | ⟨rfl, hJx3⟩)
   ·gi_wp2
    go_roundw
    case rel => exact ⟨k + 1, by omega, by simp, by rw [List.take_succ_eq_append_getElem hlt]; exact hJ3, hnx2.trans hk3⟩
    case measure => simp [intOf]; omega
   ·gi_wp2
    refine bodyPost_ret (results_none rfl _ _ _) rfl ?_
    exact ⟨⟨_, rfl⟩, .inr ⟨zs.take (k + 1), List.take_prefix _ _, by rw [List.take_succ_eq_append_getElem hlt]; exact hJx3⟩⟩
  ·obtain rfl : k = zs.length := by omega
   gi_wp2
   go_end0
   exact ⟨⟨_, rfl⟩, .inl ⟨_, rfl, by simpa using hJs⟩⟩
theorem values_stops (F : Fence) (n : Nat) (h7 : F.fn 107) (hro : F.round = none) (hn : 1 ≤ n) (Bs n₀ cap : Nat) (A : Option Addr) (zs : List (Int × Int)) (hreach : zs.length ≤ 1000000) (w : World) (hBs : Bs < w.heap.size) (hn₀ : n₀ ≤ w.heap.size)
  (hc : w.cell? ⟨Bs, 0, none⟩ = some (.slice A zs.length cap)) (hI : CellsIn n₀ w A zs) :
  SeqStopsK F n Try.prog 107 #[.pointer (some ⟨Bs, 0, none⟩)] encC (Below n₀) (fun ys => ys = zs) (fun pre => pre <+: zs) zs.length w := fun l J Jx W hW hJ _ hY h0 =>
 values1_in F n h7 hro hn l Bs n₀ cap A zs hreach J Jx hY W hJ (Nat.le_trans hn₀ hW.size) ((hW.cell (p := ⟨Bs, 0, none⟩) hBs).trans hc) (hI.below (hW.mono hn₀)) h0
def AxC (m : Nat) (mk : Int × Int → Nat → Act) (x : Int × Int) (a' : Act) (W : World) : Prop := ∃ Bx, m < Bx ∧ W.heap[Bx]? = some (.cells #[.int .i64 x.1, .int .i64 x.2] 76 (0, 0)) ∧ a' = mk x Bx
theorem AxC.own (B m : Nat) (mk : Int × Int → Nat → Act) (x : Int × Int) (a' : Act) : OwnFrom B (fun (_ : Unit) W => AxC m mk x a' W) := by
 rintro _ W W' row ⟨Bx, h1, h2, h3⟩ hg hr
 refine ⟨Bx, h1, (hg.block Bx (blk_lt h2) (fun e => ?_)).trans h2, h3⟩
 obtain ⟨_, o, ho, hc⟩ := hr Bx e.symm
 rw [h2] at ho
 cases ho
 cases hc
set_option maxRecDepth 100000 in
set_option maxHeartbeats 4000000 in
theorem appendSeq_in (F : Fence) (n : Nat) (h110 : F.fn 110) (h107 : F.fn 107) (hro : F.round = none) (hn : 3 ≤ n) (Bs cap : Nat) (A : Option Addr) (zs : List (Int × Int)) (hlen : zs.length ≤ 1000000) (w : World) (hBs : Bs < w.heap.size)
  (hc : w.cell? ⟨Bs, 0, none⟩ = some (.slice A zs.length cap)) (hI : CellsIn w.heap.size w A zs) :
  CallsIn F n Try.prog 110 #[.slice none 0 0, .func (.func 107) #[] #[.pointer (some ⟨Bs, 0, none⟩)]] w fun e W' => ∃ v, e = .returned v ∧ W'.ownsRow w.heap.size 76 2 v zs.length (flat zs) ∧ Below w.heap.size w W' := by
 have hu76 := Try.underlying76
 have h1 : 1 ≤ n := by omega
 obtain ⟨i0, hi0, hz⟩ := Option.map_eq_some_iff.1 info76s
 simp only [Prod.mk.injEq] at hz
 obtain ⟨hz0, hz1, hz2⟩ := hz
 refine callsIn_of_wp_marks Try.func110 rfl h110 ?_ hro
 simp only [Try.ntmps110, List.size_toArray, List.length_cons, List.length_nil, Nat.reduceAdd, Nat.reduceSub, Array.replicate_succ, Array.replicate_zero, List.push_toArray, List.append_toArray, List.nil_append, List.cons_append]
 gi_wp2
 have bO := Boxed.new w 68 (.slice none 0 0)
 have hB0 : Below w.heap.size w (w.alloc (.cells #[.slice none 0 0] 68)) := (Below.refl _ w).alloc (Nat.le_refl _) _
 obtain ⟨W0, hW0⟩ : ∃ W0, w.alloc (.cells #[.slice none 0 0] 68) = W0 := ⟨_, rfl⟩
 have hsz : W0.heap.size = w.heap.size + 1 := by rw [← hW0]; simp
 have hcB : W0.cell? ⟨Bs, 0, none⟩ = some (.slice A zs.length cap) := by rw [← hW0]; exact (hB0.cell (p := ⟨Bs, 0, none⟩) hBs).trans hc
 have hI0 : CellsIn w.heap.size W0 A zs := by rw [← hW0]; exact hI.below hB0
 rw [hW0] at bO hB0 ⊢
 refine wpIn_rangeFunc_ownH hro h1 (gf := 107) (lb := #[.pointer (some ⟨Bs, 0, none⟩)]) rfl h107 (enters_of Try.func107 (by kernel_rfl) rfl)
  (values_stops F (n - 1) h107 hro (by omega) Bs w.heap.size cap A zs hlen W0 (by omega) (by omega) hcB hI0) belowK_t (belowK_b (by omega)) (Below.refl _ _) (fun _ => rfl)
  (fun pre W => (∃ v, Boxed W w.heap.size 68 v ∧ W.ownsRow w.heap.size 76 2 v pre.length (flat pre) ∧ True) ∧ Below w.heap.size w W)
  (fun _ _ _ => False)
  (OwnFrom.and (Own.from (holdsRow_own w.heap.size w.heap.size 68 76 2 (fun pre : List (Int × Int) => pre.length) (fun pre => flat pre) (fun _ _ => True)) _) (ownFrom_below (Nat.le_refl _) (by omega)))
  (fun _ _ _ _ _ hs _ _ => hs)
  ⟨⟨_, bO, World.ownsRow_nil _ _ _ _, trivial⟩, hB0⟩
  (AxC w.heap.size (fun x Bx => { tmps := #[.slice none 0 0, .func (.func 107) #[] #[.pointer (some ⟨Bs, 0, none⟩)], .pointer (some ⟨w.heap.size, 0, none⟩), undef, .slice none 0 0, .pointer (some ⟨Bx, 0, none⟩), .func (.func 107) #[] #[.pointer (some ⟨Bs, 0, none⟩)], .agg #[.int .i64 x.1, .int .i64 x.2], undef, undef, undef, undef, undef], defers := [] }))
  (fun x a' => AxC.own _ _ _ x a') ?assign ?body ?done ?stop
 case assign =>
  rintro l pre x W K ⟨⟨v, hv, hrow, _⟩, hB⟩ hK
  unfold encC
  gi_wp2
  exact hK _ _ ((KeepsOthers.alloc _ _).from _) ((Below.refl _ W).alloc hB.size _) ⟨⟨v, hv.alloc _, hrow.alloc _, trivial⟩, hB.alloc hB.size _⟩ ⟨W.heap.size, hv.lt, World.alloc_heap_new W _, rfl⟩
 case body =>
  rintro l pre x a' W hl ⟨r, hr⟩ ⟨⟨v, hv, hrow, _⟩, hB⟩ ⟨Bx, hBx, bX, rfl⟩ hlt
  have hc := hv.cell
  have hf := hv.frozen
  have x0 := blk_cell bX 0
  have x1 := blk_cell bX 1
  simp only [List.getElem?_toArray, List.getElem?_cons_succ, List.getElem?_cons_zero] at x0 x1
  have hsB := hB.size
  have hml : pre.length + 1 ≤ maxLen := by unfold maxLen; omega
  gi_wp2_with (gi_at_builtin; refine wpListIn_append_own _ rfl _ _ 68 rfl w.heap.size 76 i0 (.agg #[.int .i64 0, .int .i64 0]) 2 16 Try.underlying68 hi0 hz0 hz1 hz2 rfl (by decide) _ _ _ rfl (hrow.alloc _) ⟨W.heap.size, 0, none⟩ 1 1 [.int .i64 x.1, .int .i64 x.2] rfl rfl (World.news_of_block (World.alloc_heap_new W _)) (by intro u hu; simp at hu; rcases hu with rfl | rfl <;> rfl) hml (by omega) (by simp; omega) ?_; intro v' w1 hown' hgrow _; obtain ⟨g', cap', rfl⟩ := ownsRow_succ hown'; obtain ⟨hv1, hv2, hr2, hk2, hb2⟩ := hv.appended (by decide) hrow hB.size (Nat.le_refl _) hown' hgrow; have hc1 := hv1.cell; have hf1 := hv1.frozen)
  exact ⟨hk2.from _, hb2, ⟨_, hv2, by rw [flat_app, List.length_append, List.length_singleton]; exact hr2, trivial⟩, hB.trans hb2⟩
 case done =>
  rintro D ys W hD rfl ⟨⟨v, hv, hrow, _⟩, hB⟩ hK
  have hc := hv.cell
  gi_wp2
  refine ⟨by simp, .inl ⟨_, _, rfl, run_takeDeferred hK, ?_⟩⟩
  exact ⟨_, results_tmp rfl _ _ _, v, rfl, ownsRow_putObj hrow _ hK rfl, hB.trans (belowK_b (w := w) (Nat.le_refl _) W D _ _ (by omega) hK rfl rfl)⟩
 case stop =>
  rintro D c pre W _ _ h _
  exact h.elim
end Go.Proofs.Ytjedhjeijpbobaa.G8
namespace Go.Proofs.Ytjedhjeijpbobaa.G8
open Go.RowKit Go.Shelf Go.Sort Go.Lib YtjedhjeijpbobaaW.PrintWords YtjedhjeijpbobaaW.PrintLast YtjedhjeijpbobaaW.PrintMore
theorem flat_get : ∀ (ds : List (Int × Int)) (i : Nat) (c : Int × Int), ds[i]? = some c → (flat ds)[i * 2]? = some (.int .i64 c.1) ∧ (flat ds)[i * 2 + 1]? = some (.int .i64 c.2)
 | d :: ds, 0, c, h => by simp at h; subst h; exact ⟨rfl, rfl⟩
 | d :: ds, i + 1, c, h => by
  have := flat_get ds i c (by simpa using h)
  have e1 : (i + 1) * 2 = i * 2 + 1 + 1 := by omega
  have e2 : (i + 1) * 2 + 1 = (i * 2 + 1) + 1 + 1 := by omega
  rw [e2, e1]
  exact this
theorem flat_len (ds : List (Int × Int)) : (flat ds).length = ds.length * 2 := by
 induction ds with
 | nil => rfl
 | cons d ds ih =>
  show ((flat ds).length + 1 + 1) = _
  rw [ih, List.length_cons]
  omega
def encL (x : Int × Int) : List Value := [.int .i64 x.1, .int .i64 x.2]
theorem flatK_flat (ds : List (Int × Int)) : flatK encL 2 ds.toArray = (flat ds).toArray := by
 apply Array.ext_getElem?
 intro j
 by_cases hj : j < ds.length * 2
 ·have hs : j < (flatK encL 2 ds.toArray).size := by rw [size_flatK]; simpa using hj
  rw [Array.getElem?_eq_getElem hs]
  have h1 := get_flatK encL 2 ds.toArray j (by simpa using hj)
  rw [getElem!_pos _ j hs] at h1
  rw [h1]
  have hi : j / 2 < ds.length := by omega
  have h2 : (ds.toArray)[j / 2]! = ds[j / 2] := by
   rw [getElem!_pos _ _ (by simpa using hi)]
   simp
  rw [h2]
  obtain ⟨f0, f1⟩ := flat_get ds (j / 2) ds[j / 2] (List.getElem?_eq_getElem hi)
  rw [List.getElem?_toArray]
  rcases Nat.mod_two_eq_zero_or_one j with hm | hm
  ·rw [hm]
   have e : j / 2 * 2 = j := by omega
   rw [e] at f0
   rw [f0]
   rfl
  ·rw [hm]
   have e : j / 2 * 2 + 1 = j := by omega
   rw [e] at f1
   rw [f1]
   rfl
 ·rw [Array.getElem?_eq_none (by rw [size_flatK]; simpa using hj), List.getElem?_toArray, List.getElem?_eq_none (by rw [flat_len]; omega)]
theorem holdsK_of {w : World} {g : Nat} {cur : Array Value} {zs : List (Int × Int)} (hb : w.heap[g]? = some (.cells cur 76 (0, 0))) (ht : cur.toList.take (zs.length * 2) = flat zs) : HoldsK encL 2 w g 0 zs.toArray := by
 unfold HoldsK
 rw [flatK_flat]
 intro j hj
 have hj' : j < zs.length * 2 := by simpa [flat_len] using hj
 refine ⟨?_, kF_ hb _⟩
 rw [Nat.zero_add, blk_cell hb j]
 have h1 : (cur.toList.take (zs.length * 2))[j]? = (flat zs)[j]? := by rw [ht]
 rw [List.getElem?_take_of_lt hj'] at h1
 rw [← Array.getElem?_toList, h1, List.getElem?_eq_getElem (by rw [flat_len]; exact hj')]
 rw [getElem!_pos _ j (by simpa [flat_len] using hj')]
 simp
theorem heap_sortK {w : World} {g n : Nat} {os : Array Obj} {cur : Array Value} {F : Array Value} (hb : w.heap[g]? = some (.cells cur 76 (0, 0))) :
  (grow (putRow id (Sort.ahead w n) g 0 F) os).heap[g]? = some (.cells (putCells id 0 F cur) 76 (0, 0)) := by
 have hg : g < w.heap.size := (Array.getElem?_eq_some_iff.1 hb).1
 rw [heap_grow_old _ _ (by simpa using hg)]
 simp [putRow, mapBlock, Sort.ahead, Array.getElem?_modify, hb, onCells]
theorem grownBy_sortK {w : World} {g n : Nat} {os : Array Obj} (F : Array Value) : w.grownBy (grow (putRow id (Sort.ahead w n) g 0 F) os) (some g) := by
 refine ⟨rfl, rfl, rfl, by simp, fun k hk hne => ?_⟩
 rw [heap_grow_old _ _ (by simpa using hk)]
 have : g ≠ k := fun e => hne (by rw [e])
 simp [putRow, mapBlock, Sort.ahead, Array.getElem?_modify, this]
theorem take_putK (cur : Array Value) (xs : List Value) (h : xs.length ≤ cur.size) : (putCells id 0 xs.toArray cur).toList.take xs.length = xs := by
 apply List.ext_getElem?
 intro j
 by_cases hj : j < xs.length
 ·rw [List.getElem?_take_of_lt hj, Array.getElem?_toList]
  simp [putCells, hj, show j < cur.size by omega]
 ·rw [List.getElem?_take_eq_none (by omega), List.getElem?_eq_none (by omega)]
instance (c d : Int × Int) : Decidable (lexLt c d) := by unfold lexLt; infer_instance
theorem ltOf_lex (x y : Int × Int) : ltOf cmpV x y = decide (lexLt x y) := by
 unfold ltOf cmpV lexLt compareInt
 by_cases h1 : x.1 < y.1
 ·simp [h1]
 ·by_cases h2 : y.1 < x.1
  ·have h3 : ¬ x.1 = y.1 := by omega
   simp [h1, h2, h3]
  ·have h3 : x.1 = y.1 := by omega
   by_cases h4 : x.2 < y.2
   ·simp [h3, h4]
   ·by_cases h5 : y.2 < x.2 <;> simp [h3, h4, h5]
theorem lex_trans {a b c : Int × Int} (h : lexLt a b) (k : lexLt b c) : lexLt a c := by unfold lexLt at *; omega
theorem lex_ntrans {a b c : Int × Int} (h : ¬ lexLt a b) (k : ¬ lexLt b c) : ¬ lexLt a c := by unfold lexLt at *; omega
theorem lex_total {a b : Int × Int} (h : ¬ lexLt a b) (k : ¬ lexLt b a) : a = b := by
 unfold lexLt at *
 have h1 : a.1 = b.1 := by omega
 have h2 : a.2 = b.2 := by omega
 exact Prod.ext h1 h2
theorem swoC : SWO (ltOf cmpV) where
 irrefl x := by rw [ltOf_lex]; exact decide_eq_false (lex_irrefl x)
 trans x y z h1 h2 := by rw [ltOf_lex] at *; exact decide_eq_true (lex_trans (of_decide_eq_true h1) (of_decide_eq_true h2))
 ntrans x y z h1 h2 := by rw [ltOf_lex] at *; exact decide_eq_false (lex_ntrans (of_decide_eq_false h1) (of_decide_eq_false h2))
theorem totC (x y : Int × Int) (h1 : ltOf cmpV x y = false) (h2 : ltOf cmpV y x = false) : x = y := by
 rw [ltOf_lex] at *
 exact lex_total (of_decide_eq_false h1) (of_decide_eq_false h2)
def sortC (zs : List (Int × Int)) : List (Int × Int) := zs.mergeSort fun x y => !ltOf cmpV y x
theorem sortC_perm (zs : List (Int × Int)) : (sortC zs).Perm zs := List.mergeSort_perm _ _
theorem sortC_len (zs : List (Int × Int)) : (sortC zs).length = zs.length := (sortC_perm zs).length_eq
theorem cmpLays (blk off size : Nat) (w : World) : CmpLays Try.prog 102 #[] encL 2 cmpV blk off size w := fun _ _ _ _ x y => compareCells_gr x y _
theorem sort_some (blk cap : Nat) (zs : List (Int × Int)) (w : World) (hlen : zs.length ≤ 1000000) (hH : HoldsK encL 2 w blk 0 zs.toArray) (hblk : blk < w.heap.size) :
  Calls Try.prog 106 #[.slice (some ⟨blk, 0, none⟩) zs.length cap, .func (.func 102) #[] #[]] w fun e w' => e = .returned (.tuple #[]) ∧ ∃ n os, w' = grow (putRow id (Sort.ahead w n) blk 0 (flat (sortC zs)).toArray) os := by
 have eg : ∀ args w, (callFunc 102 args).run Try.prog w = .ok (.enter 102 args) w := enters_of Try.func102 (by kernel_rfl) rfl
 have h := AnyQ.slices_SortFunc_total Try.sortCells 2 Try.isAgg76 Try.sizeOf76 encL (fun _ => rfl) (fun x v hv => by simp [encL] at hv; rcases hv with rfl | rfl <;> rfl) cmpV swoC 102 #[] blk 0 cap zs.toArray w eg (cmpLays blk 0 zs.toArray.size w) hH hblk (by simp; omega) totC
 refine (show Calls Try.prog 106 #[.slice (some ⟨blk, 0, none⟩) zs.length cap, .func (.func 102) #[] #[]] w _ from h).mono ?_
 rintro e w' ⟨he, n, os, hw⟩
 refine ⟨he, n, os, ?_⟩
 rw [hw]
 unfold sortWorldK putRowK
 rw [flatK_flat]
 rfl
theorem sort_none (p : Option Addr) (cap : Nat) (w : World) : Calls Try.prog 106 #[.slice p 0 cap, .func (.func 102) #[] #[]] w fun e w' => e = .returned (.tuple #[]) ∧ w' = w :=
 AnyF.slices_SortFunc_none (P := Try.prog) (ρ := Try.sortCells_ren) { Try.sortCells with } p cap (.func (.func 102) #[] #[]) w
set_option maxHeartbeats 1000000 in
theorem values_calls (A : Option Addr) (n c : Nat) (w : World) : Calls Try.prog 101 #[.slice A n c] w fun e w' => e = .returned (.func (.func 107) #[] #[.pointer (some ⟨w.heap.size, 0, none⟩)]) ∧ w' = w.alloc (.cells #[.slice A n c] 68) := by
 go_enter Try.func101, Try.ntmps101
 go_wp2
 go_ret
 exact ⟨rfl, rfl⟩
theorem appendSeq_calls (Bs cap : Nat) (A : Option Addr) (zs : List (Int × Int)) (hlen : zs.length ≤ 1000000) (w : World) (hBs : Bs < w.heap.size) (hc : w.cell? ⟨Bs, 0, none⟩ = some (.slice A zs.length cap)) (hI : CellsIn w.heap.size w A zs) :
  Calls Try.prog 110 #[.slice none 0 0, .func (.func 107) #[] #[.pointer (some ⟨Bs, 0, none⟩)]] w fun e W' => ∃ v, e = .returned v ∧ W'.ownsRow w.heap.size 76 2 v zs.length (flat zs) ∧ Below w.heap.size w W' :=
 (callsIn_wide (n := 3)).1 (appendSeq_in Fence.wide 3 trivial trivial rfl (Nat.le_refl _) Bs cap A zs hlen w hBs hc hI)
set_option maxHeartbeats 1000000 in
theorem collect_calls (Bs cap : Nat) (A : Option Addr) (zs : List (Int × Int)) (hlen : zs.length ≤ 1000000) (w : World) (hBs : Bs < w.heap.size) (hc : w.cell? ⟨Bs, 0, none⟩ = some (.slice A zs.length cap)) (hI : CellsIn w.heap.size w A zs) :
  Calls Try.prog 105 #[.func (.func 107) #[] #[.pointer (some ⟨Bs, 0, none⟩)]] w fun e W' => ∃ v, e = .returned v ∧ W'.ownsRow w.heap.size 76 2 v zs.length (flat zs) ∧ Below w.heap.size w W' := by
 have HA := Aside0.mk (appendSeq_calls Bs cap A zs hlen w hBs hc hI)
 go_enter Try.func105, Try.ntmps105
 go_wp2_with (go_at_call 110; refine HA.out.mono ?_; rintro e w1 ⟨v, rfl, ho, hB⟩)
 go_ret
 exact ⟨v, rfl, ho, hB⟩
def SortOut (w : World) (zs : List (Int × Int)) (e : Ending) (w' : World) : Prop := ∃ v, e = .returned v ∧ w'.ownsRow w.heap.size 76 2 v zs.length (flat (sortC zs)) ∧ Below w.heap.size w w'
set_option maxHeartbeats 2000000 in
theorem sortedFunc_calls (Bs cap : Nat) (A : Option Addr) (zs : List (Int × Int)) (hlen : zs.length ≤ 1000000) (w : World) (hBs : Bs < w.heap.size) (hc : w.cell? ⟨Bs, 0, none⟩ = some (.slice A zs.length cap)) (hI : CellsIn w.heap.size w A zs) :
  Calls Try.prog 100 #[.func (.func 107) #[] #[.pointer (some ⟨Bs, 0, none⟩)], .func (.func 102) #[] #[]] w (SortOut w zs) := by
 have HA := Aside0.mk (collect_calls Bs cap A zs hlen w hBs hc hI)
 go_enter Try.func100, Try.ntmps100
 go_upto_region 2 with (go_at_call 105; refine HA.out.mono ?_; rintro e w1 ⟨v, rfl, ho, hB⟩)
 rcases ho.2 with ⟨hnil, hz⟩ | ⟨g, cap1, cur, rfl, hbase, hb, h1, h2, h3, h4⟩
 ·subst hnil
  have hz0 : zs = [] := List.length_eq_zero_iff.1 hz
  subst hz0
  go_wp2_with (go_at_call 106; refine (sort_none _ _ _).mono ?_; rintro e w2 ⟨rfl, rfl⟩)
  go_ret
  have e0 : sortC [] = [] := by simp [sortC]
  exact ⟨_, rfl, by rw [e0]; exact ho, hB⟩
 ·have HS := Aside0.mk (sort_some g cap1 zs w1 hlen (holdsK_of hb h4) (blk_lt hb))
  have HO : Aside0 (∀ (n : Nat) (os : Array Obj), (grow (putRow id (Sort.ahead w1 n) g 0 (flat (sortC zs)).toArray) os).ownsRow w.heap.size 76 2 (.slice (some ⟨g, 0, none⟩) zs.length cap1) zs.length (flat (sortC zs)) ∧ Below w.heap.size w (grow (putRow id (Sort.ahead w1 n) g 0 (flat (sortC zs)).toArray) os)) := ⟨fun n os => by
   have hfl : (flat (sortC zs)).length = zs.length * 2 := by rw [flat_len, sortC_len]
   have hcs : zs.length * 2 ≤ cur.size := by rw [h3]; exact Nat.mul_le_mul_right _ h1
   refine ⟨⟨hfl, .inr ⟨g, cap1, _, rfl, hbase, heap_sortK hb, h1, h2, ?_, ?_⟩⟩, hB.grown (grownBy_sortK _) hB.size (fun j e => by cases e; exact hbase)⟩
   ·rw [← h3]; simp [putCells]
   ·rw [← hfl]; exact take_putK cur _ (by omega)⟩
  clear hb h1 h2 h3 h4 ho
  go_wp2_with (go_at_call 106; refine HS.out.mono ?_; rintro e w2 ⟨rfl, n, os, rfl⟩)
  go_ret
  exact ⟨_, rfl, (HO.out n os).1, (HO.out n os).2⟩
end Go.Proofs.Ytjedhjeijpbobaa.G8
namespace Go.Proofs.Ytjedhjeijpbobaa.G8
open Go.RowKit YtjedhjeijpbobaaW.PrintWords YtjedhjeijpbobaaW.PrintLast
open GA
end Go.Proofs.Ytjedhjeijpbobaa.G8
namespace Go.Proofs.Ytjedhjeijpbobaa.G8
open Go.RowKit Go.Maps YtjedhjeijpbobaaW.PrintWords YtjedhjeijpbobaaW.PrintLast YtjedhjeijpbobaaW.PrintMore
open GA
abbrev encI (r : List Int) : List Value := r.map (Value.int .i64)
def RowsL (w : World) (base : Nat) (rows : List (List Int)) (L : List Value) : Prop :=
 (∀ (i : Nat) (r : List Int), rows[i]? = some r → ∃ v, L[i]? = some v ∧ w.ownsRow base 3 1 v r.length (encI r)) ∧ ∀ (i j : Nat) (v u : Value) (k : Nat), L[i]? = some v → L[j]? = some u → i ≠ j → v.ownBlock = some k → u.ownBlock ≠ some k
def RowsD (w : World) (base : Nat) (vc : Value) (rows : List (List Int)) : Prop := ∃ L, w.ownsRow base 29 1 vc rows.length L ∧ RowsL w base rows L
section
variable {w w1 : World} {base : Nat} {vc : Value} {rows : List (List Int)} {L : List Value}
theorem RowsL.move (h : RowsL w base rows L) (hn : L.length = rows.length) (e : ∀ (i : Nat) (v : Value) (k : Nat), L[i]? = some v → v.ownBlock = some k → w1.heap[k]? = w.heap[k]?) : RowsL w1 base rows L := by
 refine ⟨fun i r hr => ?_, h.2⟩
 obtain ⟨v, h1, h2⟩ := h.1 i r hr
 exact ⟨v, h1, own_move h2 fun k hk => e i v k h1 hk⟩
theorem own_len {e : TypeId} {size n : Nat} (h : w.ownsRow base e size vc n L) : L.length = n * size := h.1
theorem RowsL.row (h : RowsL w base rows L) (hn : L.length = rows.length) {i : Nat} {v : Value} (hv : L[i]? = some v) : ∃ r, rows[i]? = some r ∧ w.ownsRow base 3 1 v r.length (encI r) := by
 have hi : i < rows.length := by rw [← hn]; exact (List.getElem?_eq_some_iff.1 hv).1
 obtain ⟨u, h1, h2⟩ := h.1 i rows[i] (List.getElem?_eq_getElem hi)
 rw [hv] at h1
 cases h1
 exact ⟨_, List.getElem?_eq_getElem hi, h2⟩
theorem RowsL.blk (h : RowsL w base rows L) (hn : L.length = rows.length) {i k : Nat} {v : Value} (hv : L[i]? = some v) (hk : v.ownBlock = some k) : base ≤ k ∧ k < w.heap.size ∧ ∃ cells, w.heap[k]? = some (.cells cells 3 (0, 0)) := by
 obtain ⟨r, _, ho⟩ := h.row hn hv
 exact ⟨own_base ho k hk, own_lt ho k hk, own_typed ho k hk⟩
theorem RowsD.nil (w : World) (base : Nat) : RowsD w base (.slice none 0 0) [] := ⟨[], own_nil _ _ _ _, fun i r h => by simp at h, fun i j v u k h => by simp at h⟩
theorem RowsD.keep (h : RowsD w base vc rows) (e : ∀ b, b < w.heap.size → w1.heap[b]? = w.heap[b]?) : RowsD w1 base vc rows := by
 obtain ⟨L, h1, h2⟩ := h
 have hn : L.length = rows.length := by have := own_len h1; omega
 exact ⟨L, own_move h1 (fun k hk => e k (own_lt h1 k hk)), h2.move hn fun i v k hv hk => e k (h2.blk hn hv hk).2.1⟩
theorem RowsD.alloc (h : RowsD w base vc rows) (o : Obj) : RowsD (w.alloc o) base vc rows := h.keep fun b hb => (MapKept.heap_alloc w o).2 b hb
theorem RowsD.lower {base' : Nat} (h : RowsD w base vc rows) (hb : base' ≤ base) : RowsD w base' vc rows := by
 obtain ⟨L, h1, h2⟩ := h
 refine ⟨L, own_weaken h1 hb, fun i r hr => ?_, h2.2⟩
 obtain ⟨v, q1, q2⟩ := h2.1 i r hr
 exact ⟨v, q1, own_weaken q2 hb⟩
theorem rowI_reads {v : Value} {r : List Int} (h : w.ownsRow base 3 1 v r.length (encI r)) : ∃ A c, v = .slice A r.length c ∧ r.length ≤ c ∧ Kd.C (Kd.int .i64) w A r.length r :=
 Kd.R_reads (Kd.R_of_own (ok := fun _ => True) h (fun _ _ => trivial))
theorem rows_reads (ho : w.ownsRow base 29 1 vc rows.length L) (h : ∀ (i : Nat) (r : List Int), rows[i]? = some r → ∃ v, L[i]? = some v ∧ ∃ A c, v = .slice A r.length c ∧ r.length ≤ c ∧ Kd.C (Kd.int .i64) w A r.length r) :
  ∃ A c, vc = .slice A rows.length c ∧ rows.length ≤ c ∧ Kd.C (Kd.slice 3 (Kd.int .i64)) w A rows.length rows := by
 have hn : L.length = rows.length := by have := own_len ho; omega
 have hR : Reps (fun p c => (Kd.slice 3 (Kd.int .i64)).K w p c) 1 rows L := ⟨by omega, fun j p hp => by
  obtain ⟨v, h1, A, c, h2, h3, h4⟩ := h j p hp
  refine ⟨A, c, ?_, h3, h4⟩
  have hj := (List.getElem?_eq_some_iff.1 h1).1
  have e : L[j] = v := by rw [List.getElem?_eq_getElem hj] at h1; exact Option.some.inj h1
  rw [Nat.mul_one, List.drop_eq_getElem_cons hj, e, h2]
  rfl⟩
 obtain ⟨A, c, he, hr⟩ := own_reads_row ho hR rfl
 refine ⟨A, c, he, ?_, hr⟩
 rcases ho.2 with ⟨h1, h2⟩ | ⟨g, cap, cur, h1, _, _, h3, _⟩
 ·rw [h1] at he
  injection he with _ e2 e3
  omega
 ·rw [h1] at he
  injection he with _ e2 e3
  omega
theorem RowsD.reads (h : RowsD w base vc rows) : ∃ A c, vc = .slice A rows.length c ∧ rows.length ≤ c ∧ Kd.C (Kd.slice 3 (Kd.int .i64)) w A rows.length rows := by
 obtain ⟨L, h1, h2⟩ := h
 refine rows_reads h1 fun i r hr => ?_
 obtain ⟨v, q1, q2⟩ := h2.1 i r hr
 exact ⟨v, q1, rowI_reads q2⟩
theorem RowsD.app {vc' v : Value} {r : List Int} (h1 : w.ownsRow base 29 1 vc rows.length L) (h2 : RowsL w base rows L) (hv : w1.ownsRow base 3 1 v r.length (encI r)) (hf : ∀ k, v.ownBlock = some k → w.heap.size ≤ k) (ho : w1.ownsRow base 29 1 vc' (rows.length + 1) (L ++ [v])) (e : ∀ b, b < w.heap.size → some b ≠ vc.ownBlock → w1.heap[b]? = w.heap[b]?) : RowsD w1 base vc' (rows ++ [r]) := by
 have hn : L.length = rows.length := by have := own_len h1; omega
 refine ⟨L ++ [v], by rw [List.length_append, List.length_singleton]; exact ho, fun i s hs => ?_, fun i j x y k hx hy hij hk => ?_⟩
 ·rcases Nat.lt_trichotomy i rows.length with hi | hi | hi
  ·rw [List.getElem?_append_left hi] at hs
   obtain ⟨u, q1, q2⟩ := h2.1 i s hs
   refine ⟨u, by rw [List.getElem?_append_left (by omega)]; exact q1, own_move q2 fun k hk => e k (own_lt q2 k hk) (fun c => ?_)⟩
   obtain ⟨cells, hc⟩ := own_typed q2 k hk
   obtain ⟨cells2, hc2⟩ := own_typed h1 k c.symm
   rw [hc] at hc2
   simp at hc2
  ·subst hi
   rw [List.getElem?_append_right (Nat.le_refl _)] at hs
   simp at hs
   subst hs
   exact ⟨v, by rw [List.getElem?_append_right (by omega), hn]; simp, hv⟩
  ·rw [List.getElem?_append_right (by omega)] at hs
   rw [List.getElem?_eq_none (by simp; omega)] at hs
   cases hs
 ·have aux : ∀ (a : Nat) (x : Value), (L ++ [v])[a]? = some x → (a < rows.length ∧ L[a]? = some x) ∨ (a = rows.length ∧ x = v) := fun a x hx => by
   rcases Nat.lt_trichotomy a rows.length with ha | ha | ha
   ·rw [List.getElem?_append_left (by omega)] at hx
    exact .inl ⟨ha, hx⟩
   ·rw [List.getElem?_append_right (by omega), ha, hn] at hx
    simp at hx
    exact .inr ⟨ha, hx.symm⟩
   ·rw [List.getElem?_append_right (by omega), List.getElem?_eq_none (by simp; omega)] at hx
    cases hx
  rcases aux i x hx with ⟨hi, hx2⟩ | ⟨hi, rfl⟩ <;> rcases aux j y hy with ⟨hj, hy2⟩ | ⟨hj, rfl⟩
  ·exact h2.2 i j x y k hx2 hy2 hij hk
  ·intro c
   have := (h2.blk hn hx2 hk).2.1
   have := hf k c
   omega
  ·intro c
   have := (h2.blk hn hy2 c).2.1
   have := hf k hk
   omega
  ·omega
theorem RowsD.at (h : w.ownsRow base 29 1 vc rows.length L) {i : Nat} {v : Value} (hv : L[i]? = some v) : ∃ g cap, vc = .slice (some ⟨g, 0, none⟩) rows.length cap ∧ base ≤ g ∧ w.cell? ⟨g, i, none⟩ = some v ∧ w.frozen? ⟨g, i, none⟩ = false := by
 have hi := (List.getElem?_eq_some_iff.1 hv).1
 have hn := own_len h
 rcases h.2 with ⟨h1, h2⟩ | ⟨g, cap, cur, h1, hb, hh, h3, h4, h5, h6⟩
 ·omega
 ·refine ⟨g, cap, h1, hb, (blk_cell hh i).trans ?_, kF_ hh i⟩
  rw [← h6, List.getElem?_take] at hv
  split at hv
  ·simpa using hv
  ·cases hv
end
end Go.Proofs.Ytjedhjeijpbobaa.G8
namespace Go.Proofs.Ytjedhjeijpbobaa.G8
open Go.RowKit Go.Maps YtjedhjeijpbobaaW.PrintWords YtjedhjeijpbobaaW.PrintLast YtjedhjeijpbobaaW.PrintMore
open GA
theorem RowsD.slice {w : World} {base : Nat} {vc : Value} {rows : List (List Int)} (h : RowsD w base vc rows) : ∃ A c, vc = .slice A rows.length c ∧ rows.length ≤ c := by
 obtain ⟨A, c, h1, h2, _⟩ := h.reads
 exact ⟨A, c, h1, h2⟩
end Go.Proofs.Ytjedhjeijpbobaa.G8
namespace Go.Proofs.Ytjedhjeijpbobaa.G8
open Go.RowKit Go.Maps YtjedhjeijpbobaaW.PrintWords YtjedhjeijpbobaaW.PrintLast YtjedhjeijpbobaaW.PrintMore
open GA
theorem RowsD.base {w : World} {base : Nat} {vc : Value} {rows : List (List Int)} (h : RowsD w base vc rows) (k : Nat) (hk : vc.ownBlock = some k) : base ≤ k ∧ k < w.heap.size := by
 obtain ⟨L, h1, _⟩ := h
 exact ⟨own_base h1 k hk, own_lt h1 k hk⟩
theorem wpList_appD {ops : Array Oper} {rest : List Oper} {o : Oper} {a : Act} {Q : Exit → Act → World → Prop} {W0 W : World} {base : Nat} {vc v : Value} {rows : List (List Int)} {r : List Int} {C : Nat} (hgd : o.guard = none) (sv xv : Operand) (ho : o.op = .call { callee := .builtin .append, args := #[sv, xv], argTypes := #[40, 40] })
  (hs : a.eval sv = vc) (hx : a.eval xv = .slice (some ⟨C, 0, none⟩) 1 1) (h : RowsD W0 base vc rows) (hk : ∀ b, b < W0.heap.size → W.heap[b]? = W0.heap[b]?) (hsz : W0.heap.size ≤ W.heap.size) (hbase : base ≤ W0.heap.size) (hl : rows.length ≤ 1000000)
  (hv : W.ownsRow base 3 1 v r.length (encI r)) (hf : ∀ k, v.ownBlock = some k → W0.heap.size ≤ k) (h1c : v.oneCell' = true) (hC : W.heap[C]? = some (.cells #[v] 29 (0, 0)))
  (k : ∀ g1 cap w1, RowsD w1 base (.slice (some ⟨g1, 0, none⟩) (rows.length + 1) cap) (rows ++ [r]) → Below base W w1 → W.grownBy w1 vc.ownBlock → (vc.ownBlock = some g1 ∨ g1 = W.heap.size) →
   wpList Try.prog ops Q rest (a.put o.dst (.slice (some ⟨g1, 0, none⟩) (rows.length + 1) cap)) w1) : wpList Try.prog ops Q (o :: rest) a W := by
 obtain ⟨i0, hi0, hz⟩ := Option.map_eq_some_iff.1 info29
 simp only [Prod.mk.injEq] at hz
 obtain ⟨hz0, hz1, hz2⟩ := hz
 obtain ⟨L, hL, hE⟩ := h
 have hL2 : W.ownsRow base 29 1 vc rows.length L := own_move hL fun b hb => hk b (own_lt hL b hb)
 refine wpList_append_lies (w := W) hgd sv xv 40 ho base 29 i0 (.slice none 0 0) 1 24 Try.underlying40 hi0 hz0 hz1 hz2 rfl (by omega) vc rows.length L hs hL2 ⟨C, 0, none⟩ 1 1 [v] hx rfl (World.news_of_block hC) (by intro u hu; simp at hu; subst hu; exact h1c) (by omega) (by unfold maxLen; omega) (by omega) (by omega) _ rfl ?_
 intro g1 cap w1 hown hg hat hlt
 refine k g1 cap w1 (RowsD.app hL hE (own_move hv fun b hb => ?_) hf hown fun b hb hne => (hg.block b (by omega) hne).trans (hk b hb)) ((Below.refl base W).grown hg (by omega) (own_base hL2)) hg hat
 refine hg.block b (own_lt hv b hb) fun c => ?_
 obtain ⟨c1, e1⟩ := own_typed hv b hb
 obtain ⟨c2, e2⟩ := own_typed hL2 b c.symm
 rw [e1] at e2
 simp at e2
def pairs (zs : List (Int × Int)) : List (List Int) := zs.map fun c => [c.1, c.2]
theorem pairs_len (zs : List (Int × Int)) : (pairs zs).length = zs.length := by unfold pairs; simp
theorem cells_at {w : World} {base : Nat} {vc : Value} {cs : List (Int × Int)} (h : w.ownsRow base 76 2 vc cs.length (flat cs)) (hp : 0 < cs.length) : ∃ g cap, vc = .slice (some ⟨g, 0, none⟩) cs.length cap ∧ ∀ (i : Nat) (c : Int × Int), cs[i]? = some c → w.cell? ⟨g, i * 2, none⟩ = some (.int .i64 c.1) ∧ w.cell? ⟨g, i * 2 + 1, none⟩ = some (.int .i64 c.2) := by
 rcases h.2 with ⟨_, h2⟩ | ⟨g, cap, cur, h1, _, hh, h3, _, h5, h6⟩
 ·omega
 ·refine ⟨g, cap, h1, fun i c hc => ?_⟩
  have hi := (List.getElem?_eq_some_iff.1 hc).1
  obtain ⟨f0, f1⟩ := flat_get cs i c hc
  have aux : ∀ j, j < cs.length * 2 → cur[j]? = (flat cs)[j]? := fun j hj => by rw [← h6, List.getElem?_take_of_lt hj, Array.getElem?_toList]
  exact ⟨(blk_cell hh _).trans ((aux _ (by omega)).trans f0), (blk_cell hh _).trans ((aux _ (by omega)).trans f1)⟩
theorem own_far {W w1 : World} {base : Nat} {v : Value} {o : Option Nat} {n : Nat} {xs : List Value} (hg : W.grownBy w1 o) (h : W.ownsRow base 76 2 v n xs) (hne : ∀ k, v.ownBlock = some k → some k ≠ o) : w1.ownsRow base 76 2 v n xs :=
 own_move h fun k hk => hg.block k (own_lt h k hk) (hne k hk)
theorem RowsD.apart29 {w : World} {base b2 n : Nat} {vc v : Value} {rows : List (List Int)} {xs : List Value} (h : RowsD w base vc rows) (ho : w.ownsRow b2 76 2 v n xs) : ∀ k, v.ownBlock = some k → some k ≠ vc.ownBlock := fun k hk c => by
 obtain ⟨L, h1, _⟩ := h
 obtain ⟨c1, e1⟩ := own_typed ho k hk
 obtain ⟨c2, e2⟩ := own_typed h1 k c.symm
 rw [e1] at e2
 simp at e2
def RowsOut (w : World) (rows : List (List Int)) (e : Ending) (w' : World) : Prop := ∃ vc, e = .returned vc ∧ Below w.heap.size w w' ∧ Aside0 (RowsD w' w.heap.size vc rows)
theorem pairs_snoc {S : List (Int × Int)} {i : Nat} (hi : i < S.length) : pairs (S.take (i + 1)) = pairs (S.take i) ++ [[S[i].1, S[i].2]] := by
 unfold pairs
 rw [List.take_succ_eq_append_getElem hi, List.map_append]
 rfl
theorem own_two (W : World) (a b : Int) (base : Nat) (hb : base ≤ W.heap.size) (o : Obj) : (((W.alloc (.cells #[.int .i64 a, .int .i64 b] 3)).alloc o).ownsRow base 3 1 (.slice (some ⟨W.heap.size, 0, none⟩) 2 2) [a, b].length (encI [a, b])) :=
 ⟨rfl, .inr ⟨W.heap.size, 2, _, rfl, hb, two_new W _ _, Nat.le_refl _, by unfold maxLen; simp, rfl, rfl⟩⟩
theorem CellsIn.mono {n₀ n₁ : Nat} {W : World} {A : Option Addr} {zs : List (Int × Int)} (h : CellsIn n₀ W A zs) (hn : n₀ ≤ n₁) : CellsIn n₁ W A zs := fun k z hk => by
 obtain ⟨b, h1, h2, h3⟩ := h k z hk
 exact ⟨b, h1, by omega, h3⟩
theorem cellsIn_two {w : World} {A : Option Addr} {zs : List (Int × Int)} (h : CellsIn w.heap.size w A zs) (o p : Obj) : CellsIn ((w.alloc o).alloc p).heap.size ((w.alloc o).alloc p) A zs :=
 (h.below (((Below.refl w.heap.size w).alloc (Nat.le_refl _) o).alloc (by simp) p)).mono (by simp; omega)
theorem own_empty {w w1 : World} {base : Nat} (hb : base ≤ w.heap.size) (hB : Below (w.heap.size + 1) (w.alloc (.cells #[] 29)) w1) : RowsD w1 base (.slice (some ⟨w.heap.size, 0, none⟩) 0 0) [] :=
 ⟨[], ⟨rfl, .inr ⟨w.heap.size, 0, #[], rfl, hb, (hB.block w.heap.size (by omega)).trans (blk_new w _), Nat.le_refl _, by unfold maxLen; simp, rfl, rfl⟩⟩, fun i r h => by simp at h, fun i j v u k h => by simp at h⟩
set_option maxHeartbeats 4000000 in
set_option maxRecDepth 100000 in
theorem sorted_calls (A : Option Addr) (cap : Nat) (zs : List (Int × Int)) (hlen : zs.length ≤ 900000) (w : World) (hI : CellsIn w.heap.size w A zs) : Calls Try.prog 84 #[.slice A zs.length cap] w (RowsOut w (pairs (sortC zs))) := by
 have hu76 := Try.underlying76
 have HI := Aside0.mk hI
 clear hI
 have hsl : (sortC zs).length = zs.length := sortC_len zs
 obtain ⟨S, hS⟩ : ∃ S, S = sortC zs := ⟨_, rfl⟩
 have HS0 := Aside0.mk hS
 rw [← hS] at hsl ⊢
 clear hS
 have HF := Aside0.mk (sortedFunc_calls (w.heap.size + 1) cap A zs (by omega) ((w.alloc (.cells #[] 29)).alloc (.cells #[.slice A zs.length cap] 68)) (by simp) (blk_cell (two_new1 w _ _) 0) (cellsIn_two HI.out _ _))
 go_enter Try.func84, Try.ntmps84
 go_wp2_with (first | (go_at_call 101; refine (values_calls _ _ _ _).mono ?_; rintro e w1 ⟨rfl, hw1⟩; replace hw1 := hw1.symm; subst hw1) | (go_at_call 100; refine HF.out.mono ?_; rintro e w2 ⟨v, rfl, ho, hB⟩; obtain ⟨Av, cv, hv⟩ := own_slice ho; subst hv))
 have HB0 : Aside0 (Below (w.heap.size + 1) (w.alloc (.cells #[] 29)) w2) := ⟨below_then ((Below.refl (w.heap.size + 1) (w.alloc (.cells #[] 29))).alloc (by simp) _) (by simp) hB⟩
 have HBw : Aside0 (Below w.heap.size w w2) := ⟨below_then (((Below.refl w.heap.size w).alloc (Nat.le_refl _) _).alloc (by simp) _) (by simp; omega) hB⟩
 have HD0 : Aside0 (RowsD w2 w.heap.size (.slice (some ⟨w.heap.size, 0, none⟩) 0 0) []) := ⟨own_empty (Nat.le_refl _) HB0.out⟩
 have HO : Aside0 (w2.ownsRow w.heap.size 76 2 (.slice Av S.length cv) S.length (flat S)) := ⟨by rw [hsl]; have := own_weaken ho (show w.heap.size ≤ _ by simp; omega); rwa [← HS0.out] at this⟩
 have hSl : S.length ≤ 900000 := by omega
 rw [← hsl]
 clear ho hB HB0 HF HI hsl
 go_loopg [3, 11] S.length (fun m v3 v11 wr => ∃ (i : Nat) (vo : Value), v3 = vo ∧ v11 = .int .i64 (i : Int) ∧ Aside0 (i + m = S.length) ∧ Aside0 (RowsD wr w.heap.size vo (pairs (S.take i))) ∧ Aside0 (wr.ownsRow w.heap.size 76 2 (.slice Av S.length cv) S.length (flat S)) ∧ Aside0 (Below w.heap.size w wr))
 case atStart => exact ⟨0, _, rfl, rfl, ⟨by omega⟩, HD0, HO, HBw⟩
 case round =>
  clear HD0 HO HBw
  obtain ⟨i, vo, hvo, rfl, HI, HD, HO, HB⟩ := hrel
  replace hvo := hvo.symm
  subst hvo
  cases gk with
  | zero =>
   have hi : ¬ ((i : Int) < (S.length : Int)) := by have := HI.out; omega
   have HE : Aside0 (S.take i = S) := ⟨List.take_of_length_le (by have := HI.out; omega)⟩
   go_wp2_with (fail)
   refine bodyPost_ret (v := vo) (by simp [results, Try.results84, go_sem]) rfl ?_
   exact ⟨vo, rfl, HB.out, ⟨by have := HD.out; rwa [HE.out] at this⟩⟩
  | succ m =>
   have hin : i < S.length := by have := HI.out; omega
   have hi : (i : Int) < (S.length : Int) := by omega
   have hw := wrap_id (x := (i : Int) + 1) (by omega) (by omega)
   obtain ⟨g, cap2, hA, hE⟩ := cells_at HO.out (by omega)
   injection hA with hA hA2 hA3
   clear hA2
   subst hA hA3
   obtain ⟨q0, q1⟩ := hE i S[i] (List.getElem?_eq_getElem hin)
   have HP := Aside0.mk (pairs_snoc hin)
   have hpl : (pairs (S.take i)).length ≤ 1000000 := by rw [pairs_len, List.length_take]; omega
   clear hE
   obtain ⟨c, hc⟩ : ∃ c, c = S[i] := ⟨_, rfl⟩
   rw [← hc] at HP q0 q1
   clear hc
   have hs1 := HB.out.size
   go_upto_region 5 with (fail)
   have HDa := Aside0.mk (HD.out.alloc (.cells #[.int .i64 c.1, .int .i64 c.2] 76))
   have HBa := Aside0.mk (HB.out.alloc hs1 (.cells #[.int .i64 c.1, .int .i64 c.2] 76))
   have HOa := Aside0.mk (own_alloc HO.out (.cells #[.int .i64 c.1, .int .i64 c.2] 76))
   have hb0 := blk_new wr (.cells #[.int .i64 c.1, .int .i64 c.2] 76)
   have hs2 : Aside0 ((wr.alloc (.cells #[.int .i64 c.1, .int .i64 c.2] 76)).heap.size = wr.heap.size + 1) := ⟨by simp⟩
   clear HD HB HO q0 q1
   generalize wr.alloc (.cells #[.int .i64 c.1, .int .i64 c.2] 76) = wa at *
   have x0 := blk_cell hb0 0
   have x1 := blk_cell hb0 1
   simp only [List.getElem?_toArray, List.getElem?_cons_succ, List.getElem?_cons_zero] at x0 x1
   have hbw : w.heap.size ≤ wa.heap.size := by have := hs2.out; omega
   have HR2 := Aside0.mk (own_two wa c.1 c.2 w.heap.size (by omega) (.cells #[.slice (some ⟨wa.heap.size, 0, none⟩) 2 2] 29))
   go_wp2_with (first | ((with_reducible refine gate_builtin (b := .append) (xs := #[.tmp 15, .tmp 21]) rfl ?_); first | (refine wpList_appD rfl (.tmp 15) (.tmp 21) rfl rfl rfl HDa.out (fun b hb => ((MapKept.heap_alloc _ _).2 b (by simp; omega)).trans ((MapKept.heap_alloc wa _).2 b hb)) (by simp; omega) (by omega) hpl HR2.out (by intro k hk; simp [Value.ownBlock] at hk; omega) rfl (two_new1 wa _ _) ?_; intro g1 cap1 w11 hR hB hgr _; have HR11 := Aside0.mk hR; have HB11 := Aside0.mk hB; have HG11 := Aside0.mk hgr; have HO11 : Aside0 (w11.ownsRow w.heap.size 76 2 (.slice (some ⟨g, 0, none⟩) S.length cv) S.length (flat S)) := ⟨own_far hgr (own_alloc (own_alloc HOa.out _) _) (HDa.out.apart29 HOa.out)⟩; clear hR hB hgr) | (at_builtin; refine wpList_appD rfl (.tmp 15) (.tmp 21) rfl rfl rfl HDa.out (fun b hb => ((MapKept.heap_alloc _ _).2 b (by simp; omega)).trans ((MapKept.heap_alloc wa _).2 b hb)) (by simp; omega) (by omega) hpl HR2.out (by intro k hk; simp [Value.ownBlock] at hk; omega) rfl (two_new1 wa _ _) ?_; intro g1 cap1 w11 hR hB hgr _; have HR11 := Aside0.mk hR; have HB11 := Aside0.mk hB; have HG11 := Aside0.mk hgr; have HO11 : Aside0 (w11.ownsRow w.heap.size 76 2 (.slice (some ⟨g, 0, none⟩) S.length cv) S.length (flat S)) := ⟨own_far hgr (own_alloc (own_alloc HOa.out _) _) (HDa.out.apart29 HOa.out)⟩; clear hR hB hgr)))
   go_roundg m
   case measure => omega
   case rel => exact ⟨i + 1, _, rfl, by first | rfl | go_num, ⟨by have := HI.out; omega⟩, ⟨by rw [HP.out]; exact HR11.out⟩, HO11, ⟨HBa.out.trans (((Below.refl w.heap.size wa).alloc hbw _).alloc (by simp; omega) _ |>.trans HB11.out)⟩⟩
end Go.Proofs.Ytjedhjeijpbobaa.G8
namespace Go.Proofs.Ytjedhjeijpbobaa.G8
open Go.RowKit Go.Maps YtjedhjeijpbobaaW.PrintWords YtjedhjeijpbobaaW.PrintLast YtjedhjeijpbobaaW.PrintMore
open GA
end Go.Proofs.Ytjedhjeijpbobaa.G8
namespace Go.Proofs.Ytjedhjeijpbobaa.G8
open Go.Sort
def toP (r : List Int) : Int × Int := (r.getD 0 0, r.getD 1 0)
def Ord (rows : List (List Int)) : Prop := rows.Pairwise fun r s => ¬ lexLt (toP s) (toP r)
theorem sortC_ord (zs : List (Int × Int)) : Ord (pairs (sortC zs)) := by
 have h : (sortC zs).Pairwise fun x y => (!ltOf cmpV y x) = true := by
  refine List.pairwise_mergeSort (fun a b c h1 h2 => ?_) (fun a b => ?_) zs
  ·rw [Bool.not_eq_true', ltOf_lex] at *
   have k1 := of_decide_eq_false h1
   have k2 := of_decide_eq_false h2
   exact decide_eq_false (lex_ntrans k2 k1)
  ·rw [Bool.or_eq_true, Bool.not_eq_true', Bool.not_eq_true', ltOf_lex, ltOf_lex]
   by_cases q : lexLt b a
   ·exact .inr (decide_eq_false (lex_asymm q))
   ·exact .inl (decide_eq_false q)
 unfold Ord pairs
 rw [List.pairwise_map]
 refine h.imp fun {x y} hxy => ?_
 rw [Bool.not_eq_true', ltOf_lex] at hxy
 exact of_decide_eq_false hxy
end Go.Proofs.Ytjedhjeijpbobaa.G8
namespace Go.Proofs.Ytjedhjeijpbobaa.G8
open Go.RowKit Go.Maps YtjedhjeijpbobaaW.PrintWords YtjedhjeijpbobaaW.PrintLast YtjedhjeijpbobaaW.PrintMore
open GA
def RowsTwo (w : World) (rows : List (List Int)) (ok : Bool) (e : Ending) (w' : World) : Prop := ∃ vc, e = .returned (.tuple #[vc, .bool ok]) ∧ Below w.heap.size w w' ∧ Aside0 (RowsD w' w.heap.size vc rows)
end Go.Proofs.Ytjedhjeijpbobaa.G8
namespace Go.Proofs.Ytjedhjeijpbobaa.G8
open Go.RowKit Go.Maps Go.MapKept Go.WideShapes Go.ChangeMaps YtjedhjeijpbobaaW.PrintWords YtjedhjeijpbobaaW.PrintLast YtjedhjeijpbobaaW.PrintMore
open GA
theorem RowsD.change2 {w w1 : World} {base : Nat} {rows : List (List Int)} {L : List Value} {u v : Value} {r : List Int} {g cap i : Nat} (h1 : w.ownsRow base 29 1 (.slice (some ⟨g, 0, none⟩) rows.length cap) rows.length L) (h2 : RowsL w base rows L) (hi : i < rows.length) (hu : L[i]? = some u) (hv : w1.ownsRow base 3 1 v r.length (encI r)) (hf : ∀ k, v.ownBlock = some k → w.heap.size ≤ k ∨ u.ownBlock = some k) (e : ∀ b, b < w.heap.size → u.ownBlock ≠ some b → w1.heap[b]? = w.heap[b]?) :
  RowsD (w1.setCell ⟨g, i, none⟩ v) base (.slice (some ⟨g, 0, none⟩) rows.length cap) (rows.set i r) ∧ w1.heap[g]? = w.heap[g]? := by
 have hn : L.length = rows.length := by have := own_len h1; omega
 rcases h1.2 with ⟨h3, _⟩ | ⟨g1, cap1, cur, h3, hb, hh, h4, h5, h6, h7⟩
 ·cases h3
 injection h3 with e1 _ e3
 injection e1 with e1
 injection e1 with e1
 subst e1
 subst e3
 have hug : u.ownBlock ≠ some g := fun c => by
  obtain ⟨_, _, cells, hc⟩ := h2.blk hn hu c
  rw [hh] at hc
  simp at hc
 have hh1 : w1.heap[g]? = some (.cells cur 29 (0, 0)) := (e g (blk_lt hh) hug).trans hh
 refine ⟨?_, hh1.trans hh.symm⟩
 have hvg : v.ownBlock ≠ some g := fun c => by
  obtain ⟨cells, hc⟩ := own_typed hv g c
  rw [hh1] at hc
  simp at hc
 refine ⟨L.set i v, ?_, fun j s hs => ?_, fun a b x y k hx hy hab hk => ?_⟩
 ·refine ⟨by simp [hn], .inr ⟨g, cap, _, by rw [List.length_set], hb, blk_set hh1 _ _, by rw [List.length_set]; exact h4, h5, by simpa using h6, ?_⟩⟩
  rw [List.length_set, Nat.mul_one] at *
  apply List.ext_getElem?
  intro j
  by_cases hj : j < rows.length
  ·rw [List.getElem?_take_of_lt hj, Array.getElem?_toList]
   by_cases q : i = j
   ·subst q
    rw [Array.getElem?_setIfInBounds_self_of_lt (by omega), List.getElem?_set_self (by omega)]
   ·rw [Array.getElem?_setIfInBounds_ne q, List.getElem?_set_ne q, ← h7, List.getElem?_take_of_lt hj, Array.getElem?_toList]
  ·rw [List.getElem?_take_eq_none (by omega), List.getElem?_eq_none (by simp; omega)]
 ·by_cases q : i = j
  ·subst q
   rw [List.getElem?_set_self hi] at hs
   cases hs
   exact ⟨v, List.getElem?_set_self (by omega), own_setCell hv (fun c => hvg c.symm) _⟩
  ·rw [List.getElem?_set_ne q] at hs
   obtain ⟨x, q1, q2⟩ := h2.1 j s hs
   have q3 : w1.ownsRow base 3 1 x s.length (encI s) := own_move q2 fun k hk => e k (own_lt q2 k hk) (fun c => h2.2 i j u x k hu q1 q c hk)
   refine ⟨x, by rw [List.getElem?_set_ne q]; exact q1, own_setCell q3 (fun c => ?_) _⟩
   obtain ⟨cells, hc⟩ := own_typed q3 g c.symm
   rw [hh1] at hc
   simp at hc
 ·have aux : ∀ (a : Nat) (x : Value), (L.set i v)[a]? = some x → (a ≠ i ∧ L[a]? = some x) ∨ (a = i ∧ x = v) := fun a x hx => by
   by_cases q : i = a
   ·subst q
    rw [List.getElem?_set_self (by omega)] at hx
    exact .inr ⟨rfl, (Option.some.inj hx).symm⟩
   ·rw [List.getElem?_set_ne q] at hx
    exact .inl ⟨fun c => q c.symm, hx⟩
  rcases aux a x hx with ⟨ha, hx2⟩ | ⟨ha, rfl⟩ <;> rcases aux b y hy with ⟨hb2, hy2⟩ | ⟨hb2, rfl⟩
  ·exact h2.2 a b x y k hx2 hy2 hab hk
  ·intro c
   rcases hf k c with h | h
   ·have := (h2.blk hn hx2 hk).2.1
    omega
   ·exact h2.2 a i x u k hx2 hu ha hk h
  ·intro c
   rcases hf k hk with h | h
   ·have := (h2.blk hn hy2 c).2.1
    omega
   ·exact h2.2 b i y u k hy2 hu hb2 c h
  ·omega
def Hp0Out (w : World) (e : Ending) (w' : World) : Prop := ∃ gm, e = .returned (.map (some gm)) ∧ Below w.heap.size w w' ∧ Aside0 (MapIs w' gm 0 (fun _ _ => none))
set_option maxHeartbeats 4000000 in
set_option maxRecDepth 100000 in
theorem heapOf0_calls (w : World) : Calls Try.prog 81 #[.int .i64 0] w (Hp0Out w) := by
 have hu76 := Try.underlying76
 have hmm := @run_makeMap Try.prog
 have hm0 : MapIs (w.alloc (.map #[] 0)) w.heap.size 0 (fun _ _ => none) := ⟨_, World.ownsMap_made w Try.prog 76 (plainElem Try.prog 3), FieldIs.nil⟩
 have HM0 := Aside0.mk hm0
 have HB0 : Aside0 (Below w.heap.size w (w.alloc (.map #[] 0))) := ⟨(Below.refl w.heap.size w).alloc (Nat.le_refl _) (.map #[] 0)⟩
 clear hm0
 go_enter Try.func81, Try.ntmps81
 go_wp2_with (fail)
 have HM1 : Aside0 (MapIs ((w.alloc (.map #[] 0)).alloc (.cells #[.int .i64 0, .int .i64 0] 76)) w.heap.size 0 (fun _ _ => none)) := ⟨HM0.out.move ((MapKept.heap_alloc _ _).2 _ (by simp))⟩
 have HB1 : Aside0 (Below w.heap.size w ((w.alloc (.map #[] 0)).alloc (.cells #[.int .i64 0, .int .i64 0] 76))) := ⟨HB0.out.alloc (by simp) _⟩
 have HC1 : Aside0 (((w.alloc (.map #[] 0)).alloc (.cells #[.int .i64 0, .int .i64 0] 76)).heap[w.heap.size + 1]? = some (.cells #[.int .i64 0, .int .i64 0] 76 (0, 0))) := ⟨two_new1 w _ _⟩
 clear HM0 HB0
 go_loopg [4] 1 (fun m v4 wr => v4 = .slice (some ⟨w.heap.size + 1, 0, none⟩) m 1 ∧ Aside0 (m ≤ 1) ∧ Aside0 (wr.heap[w.heap.size + 1]? = some (.cells #[.int .i64 0, .int .i64 0] 76 (0, 0))) ∧ Aside0 (MapIs wr w.heap.size 0 (fun _ _ => none)) ∧ Aside0 (Below w.heap.size w wr))
 case atStart => exact ⟨rfl, ⟨Nat.le_refl _⟩, HC1, HM1, HB1⟩
 case round =>
  clear HC1 HM1 HB1
  obtain ⟨rfl, HI, HC, HM, HB⟩ := hrel
  cases gk with
  | zero =>
   go_wp2_with (fail)
   refine bodyPost_ret (v := .map (some w.heap.size)) (by simp [results, Try.results81, go_sem]) rfl ?_
   exact ⟨_, rfl, HB.out, HM⟩
  | succ m =>
   obtain rfl : m = 0 := by have := HI.out; omega
   have q0 := (blk_cell HC.out 0).trans rfl
   have q1 := (blk_cell HC.out 1).trans rfl
   have hs := HB.out.size
   have HMa : Aside0 (MapIs (wr.alloc (.cells #[.int .i64 0, .int .i64 0] 76)) w.heap.size 0 (fun _ _ => none)) := ⟨HM.out.move ((MapKept.heap_alloc wr _).2 _ (by obtain ⟨D, hm, _⟩ := HM.out; exact hm.lt))⟩
   have HBa := Aside0.mk (HB.out.alloc hs (.cells #[.int .i64 0, .int .i64 0] 76))
   have HCa := Aside0.mk (((MapKept.heap_alloc wr (.cells #[.int .i64 0, .int .i64 0] 76)).2 _ (blk_lt HC.out)).trans HC.out)
   have hlook := HMa.out.look0 (x := 0) (y := 0) (by decide) (by decide)
   simp only [Option.getD_none] at hlook
   have hw0 := wrap_id (x := (0 : Int)) (by omega) (by omega)
   clear HC HM HB
   go_wp2_with (fail)
   go_roundg 0
   case measure => omega
   case rel => exact ⟨by first | rfl | trivial, ⟨Nat.zero_le _⟩, HCa, HMa, HBa⟩
theorem lex_or {a b : Int × Int} (h : ¬ lexLt b a) (hne : a ≠ b) : lexLt a b := by
 by_cases q : lexLt a b
 ·exact q
 ·exact absurd (lex_total q h) hne
theorem sortC_is {cs ds : List (Int × Int)} (hn : cs.Nodup) (hd : ds.Pairwise lexLt) (hm : ∀ c, c ∈ cs ↔ c ∈ ds) : sortC cs = ds := by
 have h1 : (sortC cs).Pairwise fun a b => ¬ lexLt b a := by
  have := sortC_ord cs
  unfold Ord pairs at this
  rw [List.pairwise_map] at this
  exact this.imp fun {a b} h => h
 have h2 : (sortC cs).Nodup := (sortC_perm cs).nodup_iff.2 hn
 have h3 : (sortC cs).Pairwise lexLt := by
  have h2' : (sortC cs).Pairwise (fun a b => a ≠ b) := h2
  exact (h1.and h2').imp fun {a b} h => lex_or h.1 h.2
 exact lex_one h3 hd fun c => ((sortC_perm cs).mem_iff).trans (hm c)
def okH0 (n : Int) : Bool := decide (0 ≤ n ∧ n ≤ 250)
def heapRows (n : Int) : List (List Int) := if okH0 n = true then hrows n (heapU n) (heapCs n) else []
theorem heapRows0 {n : Int} (h : okH0 n = false) : heapRows n = [] := by unfold heapRows; rw [if_neg (by rw [h]; decide)]
theorem heapRows1 {n : Int} (h : okH0 n = true) : heapRows n = hrows n (heapU n) (heapCs n) := by unfold heapRows; rw [if_pos h]
def midH (f : Int × Int → Int) (S : List (Int × Int)) (i : Nat) : List (List Int) := ((S.take i).map fun c => [c.1, c.2, f c]) ++ pairs (S.drop i)
theorem midH_len (f : Int × Int → Int) (S : List (Int × Int)) (i : Nat) : (midH f S i).length = S.length := by
 unfold midH
 rw [List.length_append, List.length_map, pairs_len, List.length_take, List.length_drop]
 omega
theorem midH_get {f : Int × Int → Int} {S : List (Int × Int)} {i : Nat} (hi : i < S.length) : (midH f S i)[i]? = some [S[i].1, S[i].2] := by
 unfold midH pairs
 rw [List.getElem?_append_right (by simp; omega), List.length_map, List.length_take, List.getElem?_map, List.getElem?_drop, show i + (i - min i S.length) = i by omega, List.getElem?_eq_getElem hi]
 rfl
theorem midH_set {f : Int × Int → Int} {S : List (Int × Int)} {i : Nat} (hi : i < S.length) : (midH f S i).set i [S[i].1, S[i].2, f S[i]] = midH f S (i + 1) := by
 unfold midH
 have hl : ((S.take i).map fun c => [c.1, c.2, f c]).length = i := by rw [List.length_map, List.length_take]; omega
 have hp : pairs (S[i] :: S.drop (i + 1)) = [S[i].1, S[i].2] :: pairs (S.drop (i + 1)) := rfl
 rw [List.take_succ_eq_append_getElem hi, List.drop_eq_getElem_cons hi, List.map_append, hp, List.set_append, if_neg (by omega), hl, Nat.sub_self, List.set_cons_zero]
 simp
theorem iin0_bad {n : Int} (h : ¬ (0 ≤ n ∧ n ≤ 250)) : impl_in.f n 0 250 = some false := by
 unfold impl_in.f
 by_cases q : 0 ≤ n
 ·rw [if_pos q, decide_eq_false (by omega)]
 ·rw [if_neg q]
theorem iin0_good {n : Int} (h : 0 ≤ n ∧ n ≤ 250) : impl_in.f n 0 250 = some true := by
 unfold impl_in.f
 rw [if_pos h.1, decide_eq_true h.2]
def HcellsOut (w : World) (n : Int) (e : Ending) (w' : World) : Prop := ∃ gm N M, e = .returned (.map (some gm)) ∧ Below w.heap.size w w' ∧ Aside0 (MapIs w' gm N M) ∧ Aside0 (∀ a b, (M a b).getD 0 = hp n (heapU n) a b) ∧ Aside0 (∀ a b, (M a b).isSome = true ↔ (a, b) ∈ heapCs n) ∧ N ≤ 100000
theorem heapOf_any (n : Int) (h : 0 ≤ n ∧ n ≤ 250) (w : World) : Calls Try.prog 81 #[.int .i64 n] w (HcellsOut w n) := by
 by_cases h0 : n = 0
 ·subst h0
  refine (heapOf0_calls w).mono ?_
  rintro e w' ⟨gm, rfl, hB, hM⟩
  have hz : heapU 0 = fun _ _ => 0 := ((heapU_is h (Legal.zero 0) (fun a b => by rw [hp_zero]; split <;> omega))).symm
  refine ⟨gm, 0, _, rfl, hB, hM, ⟨fun a b => ?_⟩, ⟨fun a b => ?_⟩, by omega⟩
  ·rw [hz, hp_zero]
   simp
  ·rw [heap_none]
   simp
 ·refine (heapOf_calls n (by omega) w).mono ?_
  rintro e w' ⟨gm, N, u, M, rfl, hB, hM, hV, hS, hg, hN⟩
  have hu := heapU_is h hV.out.legal hS.out
  refine ⟨gm, N, M, rfl, hB, hM, ⟨fun a b => by rw [← hu]; exact hV.out.val a b⟩, ⟨fun a b => ?_⟩, hN⟩
  rw [mem_heapCs h, ← hu, hV.out.has, key_iff hV.out.legal h.1 hV.out.nn]
  rfl
def T8h : Bool × List (List Nat × List Nat) := (true, [([], []), ([], []), ([], []), ([], []), ([], []), ([4], [4]), ([5], [5]), ([], []), ([7], [7]), ([8], [8]), ([6, 9], [6, 9]), ([3, 10], [3, 10]), ([11], [11]), ([2, 12], [2, 12]), ([0, 1, 0, 1, 2, 3, 4, 5, 6, 7, 8, 9, 10, 11, 12, 13], [0, 1]), ([14, 13, 13, 0, 1, 2, 3, 4, 5, 6, 7, 8, 9, 10, 11, 12, 13], [13, 14])])
def B8h : List Nat := [0, 0, 0, 0, 0, 16, 48, 0, 128, 384, 1008, 2040, 4088, 8188, 16383, 32767]
theorem tab8h : rtab .any (opsOf Try.f62 8) = T8h := by kernel_rfl
theorem bits8h : waitsOk T8h.2 B8h = true := by kernel_rfl
theorem info3 : (Try.prog.info? 3).map (fun i => (i.zero, i.size, i.bytes)) = some (some (.int .i64 0), 1, 8) := by kernel_rfl
theorem cellsIn_of {w : World} {base : Nat} {vc : Value} {cs : List (Int × Int)} (h : w.ownsRow base 76 2 vc cs.length (flat cs)) : ∃ A cap, vc = .slice A cs.length cap ∧ CellsIn w.heap.size w A cs := by
 rcases Nat.eq_zero_or_pos cs.length with h0 | h0
 ·have hn : cs = [] := List.eq_nil_of_length_eq_zero h0
  rcases h.2 with ⟨h1, h2⟩ | ⟨b, cap, cur, h1, _⟩
  ·exact ⟨none, 0, by rw [h1, h0], fun i c hc => by rw [hn] at hc; simp at hc⟩
  ·exact ⟨_, cap, h1, fun i c hc => by rw [hn] at hc; simp at hc⟩
 ·obtain ⟨g2, cap, h1, h2⟩ := cells_at h h0
  refine ⟨_, cap, h1, fun i c hc => ?_⟩
  obtain ⟨q1, q2⟩ := h2 i c hc
  exact ⟨g2, rfl, own_lt h g2 (by rw [h1]; rfl), q1, q2⟩
theorem cells_same {n : Int} (h : 0 ≤ n ∧ n ≤ 250) {M : Fld} (hK : ∀ a b, (M a b).isSome = true ↔ (a, b) ∈ heapCs n) {cs : List (Int × Int)} (hw : ∀ c ∈ cs, wfI c.1 ∧ wfI c.2) (hm : ∀ x y, wfI x → wfI y → ((x, y) ∈ cs ↔ (M x y).isSome = true)) (c : Int × Int) : c ∈ cs ↔ c ∈ heapCs n := by
 constructor
 ·intro k
  exact (hK c.1 c.2).1 ((hm c.1 c.2 (hw c k).1 (hw c k).2).1 k)
 ·intro k
  have := cs_near h c k
  exact (hm c.1 c.2 (i64_ok (by omega) (by omega)) (i64_ok (by omega) (by omega))).2 ((hK c.1 c.2).2 k)
theorem RowsD.two_at {w : World} {base : Nat} {rows : List (List Int)} {L : List Value} {i : Nat} {x y : Int} (h : RowsL w base rows L) (hi : rows[i]? = some [x, y]) : ∃ b cap, L[i]? = some (.slice (some ⟨b, 0, none⟩) 2 cap) ∧ w.ownsRow base 3 1 (.slice (some ⟨b, 0, none⟩) 2 cap) 2 [.int .i64 x, .int .i64 y] ∧ w.cell? ⟨b, 0, none⟩ = some (.int .i64 x) ∧ w.cell? ⟨b, 1, none⟩ = some (.int .i64 y) ∧ b < w.heap.size := by
 obtain ⟨v, h1, h2⟩ := h.1 i _ hi
 rcases h2.2 with ⟨_, h3⟩ | ⟨g, cap, cur, rfl, hb, hh, h4, h5, h6, h7⟩
 ·simp at h3
 ·refine ⟨g, cap, h1, h2, ?_, ?_, blk_lt hh⟩
  ·rw [blk_cell hh 0]
   have := congrArg (fun l => l[0]?) h7
   simpa [encI] using this
  ·rw [blk_cell hh 1]
   have := congrArg (fun l => l[1]?) h7
   simpa [encI] using this
theorem MapIs.notCells {w : World} {gm N g : Nat} {M : Fld} (h : MapIs w gm N M) {cells : Array Value} {t : TypeId} (hg : w.heap[g]? = some (.cells cells t (0, 0))) : gm ≠ g := fun e => by
 obtain ⟨D, ⟨es, clock, hb, _⟩, _⟩ := h
 subst e
 rw [hb] at hg
 cases hg
theorem step_app3 {ops : Array Oper} {o : Oper} {a : Act} {K : Act → World → Prop} {Q : Exit → Act → World → Prop} {E : Prop} {W : World} {base b cap : Nat} {x y h : Int} (hgd : o.guard = none) (sv xv : Operand) (ho : o.op = .call { callee := .builtin .append, args := #[sv, xv], argTypes := #[29, 29] })
  (hs : a.eval sv = .slice (some ⟨b, 0, none⟩) 2 cap) {C : Nat} (hx : a.eval xv = .slice (some ⟨C, 0, none⟩) 1 1) (hown : W.ownsRow base 3 1 (.slice (some ⟨b, 0, none⟩) 2 cap) 2 [.int .i64 x, .int .i64 y]) (hC : W.heap[C]? = some (.cells #[.int .i64 h] 3 (0, 0))) (hbase : base ≤ W.heap.size)
  (k : ∀ g1 cap1 w1, w1.ownsRow base 3 1 (.slice (some ⟨g1, 0, none⟩) 3 cap1) 3 [.int .i64 x, .int .i64 y, .int .i64 h] → W.grownBy w1 (some b) → (g1 = b ∨ g1 = W.heap.size) → K (a.put o.dst (.slice (some ⟨g1, 0, none⟩) 3 cap1)) w1) :
  if Region.wanted o (yielded ops a.tmps) = true then Oper.wp Try.prog o a W K Q else E := by
 obtain ⟨i0, hi0, hz⟩ := Option.map_eq_some_iff.1 info3
 simp only [Prod.mk.injEq] at hz
 obtain ⟨hz0, hz1, hz2⟩ := hz
 refine step_append_lies W hgd sv xv 29 ho base 3 i0 (.int .i64 0) 1 8 Try.underlying29 hi0 hz0 hz1 hz2 rfl (by omega) _ 2 _ hs hown ⟨C, 0, none⟩ 1 1 [.int .i64 h] hx rfl (World.news_of_block hC) (by intro u hu; simp at hu; subst hu; rfl) (by omega) (by unfold maxLen; omega) (by omega) hbase _ rfl ?_
 intro g1 cap1 w1 hown1 hg hat hlt
 refine k g1 cap1 w1 hown1 hg ?_
 rcases hat with h1 | h1
 ·simp [Value.ownBlock] at h1
  exact .inl h1.symm
 ·exact .inr h1
theorem cell_same {w w1 : World} {g : Nat} (h : w1.heap[g]? = w.heap[g]?) (i : Nat) : w1.cell? ⟨g, i, none⟩ = w.cell? ⟨g, i, none⟩ := by
 unfold World.cell?
 simp only [h]
theorem frozen_same {w w1 : World} {g : Nat} (h : w1.heap[g]? = w.heap[g]?) (i : Nat) : w1.frozen? ⟨g, i, none⟩ = w.frozen? ⟨g, i, none⟩ := by
 unfold World.frozen?
 simp only [h]
set_option maxHeartbeats 8000000 in
set_option maxRecDepth 100000 in
theorem impl_HeapCells_calls (n : Int) (w : World) : Calls Try.prog 62 #[.int .i64 n] w (RowsTwo w (heapRows n) (okH0 n)) := by
 have hu76 := Try.underlying76
 by_cases hn : 0 ≤ n ∧ n ≤ 250
 ·have hok : okH0 n = true := decide_eq_true hn
  rw [heapRows1 hok, hok]
  have HA := Aside0.mk (fun W => impl_in.calls n 0 250 true W (iin0_good hn))
  have HH := Aside0.mk (fun W => heapOf_any n hn W)
  have hsort := Aside0.mk (sorted_gridL (hotB n) (-60) 121 121 (-60))
  obtain ⟨S, hS⟩ : ∃ S, S = heapCs n := ⟨_, rfl⟩
  have hnear : Aside0 (∀ c ∈ S, -15 ≤ c.1 ∧ c.1 ≤ 15 ∧ -15 ≤ c.2 ∧ c.2 ≤ 15) := ⟨by rw [hS]; exact cs_near hn⟩
  have hso : Aside0 (S.Pairwise lexLt) := ⟨by rw [hS]; exact hsort.out⟩
  obtain ⟨f, hf⟩ : ∃ f : Int × Int → Int, f = fun c => hp n (heapU n) c.1 c.2 := ⟨_, rfl⟩
  have hR : hrows n (heapU n) S = midH f S S.length := by unfold hrows midH pairs; rw [hf]; simp
  have HS := Aside0.mk hS
  have HF := Aside0.mk hf
  rw [← hS, hR]
  clear hsort hS hR hok hf
  go_enter Try.func62, Try.ntmps62
  go_wp2_with (first | (go_at_call 79; (with_reducible refine (HA.out _).mono ?_); rintro e w1 ⟨rfl, ⟨nd, rfl⟩⟩) | (go_at_call 81; (with_reducible refine (HH.out _).mono ?_); rintro e w2 ⟨gm, N, M, rfl, hB, hM, hV, hK, hN⟩) | (go_at_call 80; refine (cellsOf_calls gm N M _ hM.out hN).mono ?_; rintro e w3 ⟨vc, cs, rfl, hB3, hO, hl, hnd, hw, hm⟩; have hsub : ∀ c, c ∈ cs ↔ c ∈ S := (fun c => by rw [HS.out]; exact cells_same hn hK.out hw hm c); have hsc : sortC cs = S := sortC_is hnd hso.out hsub; obtain ⟨A, cap, hvc, hCi⟩ := cellsIn_of hO.out; subst hvc) | (go_at_call 84; refine (sorted_calls A cap cs (by omega) _ hCi).mono ?_; rintro e w4 ⟨vo, rfl, hB4, hD4⟩; rw [hsc] at hD4; obtain ⟨Ao, co, hvo, hco⟩ := hD4.out.slice; rw [pairs_len] at hvo hco; subst hvo))
  have hB0 : Aside0 (Below w.heap.size w w2) := ⟨below_then (bN_ (Below.refl w.heap.size w) nd) (by simp) hB⟩
  have hs2 := hB0.out.size
  have hs3 := hB3.size
  have HB : Aside0 (Below w.heap.size w w4) := ⟨(hB0.out.trans (hB3.mono hs2)).trans (hB4.mono (Nat.le_trans hs2 hs3))⟩
  have HM4 : Aside0 (MapIs w4 gm N M) := ⟨hM.out.move (by
   have hg : gm < w2.heap.size := by obtain ⟨D, hm, _⟩ := hM.out; exact hm.lt
   exact (hB4.block gm (by omega)).trans (hB3.block gm hg))⟩
  have hlS : S.length ≤ 100000 := by rw [← hsc, sortC_len]; exact hl
  have HD4 : Aside0 (RowsD w4 w.heap.size (.slice Ao S.length co) (midH f S 0)) := ⟨by have := hD4.out.lower (Nat.le_trans hs2 hs3); simpa [midH] using this⟩
  clear hB hB3 hB4 hM hO hl hnd hw hm hsub hsc hCi hD4 hK HH HA hB0 hs2 hs3
  go_loopg [18] S.length (fun m v18 wr => ∃ (i : Nat), v18 = .int .i64 (i : Int) ∧ Aside0 (i + m = S.length) ∧ Aside0 (RowsD wr w.heap.size (.slice Ao S.length co) (midH f S i)) ∧ Aside0 (MapIs wr gm N M) ∧ Aside0 (Below w.heap.size w wr))
  case atStart => exact ⟨0, rfl, ⟨by omega⟩, HD4, HM4, HB⟩
  case round =>
   clear HD4 HM4 HB
   obtain ⟨i, rfl, HI, HD, HM, HB⟩ := hrel
   cases gk with
   | zero =>
    have hi : ¬ ((i : Int) < (S.length : Int)) := by have := HI.out; omega
    have hil : i = S.length := by have := HI.out; omega
    subst hil
    go_wp2_with (fail)
    go_ret2
    exact ⟨_, rfl, HB.out, HD⟩
   | succ m =>
    have hin : i < S.length := by have := HI.out; omega
    have hi : (i : Int) < (S.length : Int) := by omega
    have hwi := wrap_id (x := (i : Int) + 1) (by omega) (by omega)
    obtain ⟨c, hc⟩ : ∃ c, c = S[i] := ⟨_, rfl⟩
    have hcn := hnear.out c (by rw [hc]; exact List.getElem_mem hin)
    have HG := Aside0.mk (midH_get (f := f) hin)
    have HSet := Aside0.mk (midH_set (f := f) hin)
    rw [← hc] at HG HSet
    have hwx : (Lit.int .i64 c.1).wf = true := i64_ok (by omega) (by omega)
    have hwy : (Lit.int .i64 c.2).wf = true := i64_ok (by omega) (by omega)
    obtain ⟨L, hL, hE⟩ := HD.out
    obtain ⟨b, capb, hLb, hob, hb0, hb1, hbl⟩ := RowsD.two_at hE HG.out
    obtain ⟨g, cg, hA, hgb, hcell, hfz⟩ := RowsD.at hL hLb
    rw [midH_len] at hA
    injection hA with hA hA2 hA3
    clear hA2
    subst hA hA3
    have HLook : Aside0 (∀ Y, MapIs Y gm N M → (Instr.lookup 67 (.map (some gm)) (.agg #[.int .i64 c.1, .int .i64 c.2]) false).run Try.prog Y = .ok (.int .i64 (f c)) Y) := ⟨fun Y hY => by
     have := hY.look0 hwx hwy
     rw [hV.out] at this
     rw [HF.out]
     exact this⟩
    have HX := Aside0.mk (And.intro hL hE)
    have HLb := Aside0.mk hLb
    have HOb := Aside0.mk hob
    clear hwx hwy hcn hc HG hL hE hLb hob HD
    go_upto_region 8 with (fail)
    have a0 : wr.drew.cell? ⟨b, 0, none⟩ = some (.int .i64 c.1) := hb0
    have a1 : wr.drew.cell? ⟨b, 1, none⟩ = some (.int .i64 c.2) := hb1
    have hfg : wr.drew.frozen? ⟨g, i, none⟩ = false := hfz
    have HXd : Aside0 (wr.drew.ownsRow w.heap.size 29 1 (.slice (some ⟨g, 0, none⟩) (midH f S i).length co) (midH f S i).length L ∧ RowsL wr.drew w.heap.size (midH f S i) L) := ⟨by rw [midH_len]; have := HX.out.1; rw [midH_len] at this; exact this, HX.out.2⟩
    have HMd : Aside0 (MapIs wr.drew gm N M) := ⟨HM.out.move rfl⟩
    have HBd : Aside0 (Below w.heap.size w wr.drew) := ⟨bN_ HB.out 1⟩
    have HOd : Aside0 (wr.drew.ownsRow w.heap.size 3 1 (.slice (some ⟨b, 0, none⟩) 2 capb) 2 [.int .i64 c.1, .int .i64 c.2]) := ⟨HOb.out⟩
    have hlk := HLook.out _ HMd.out
    have hblk : b < wr.drew.heap.size := hbl
    have hcell0 : wr.drew.cell? ⟨g, i, none⟩ = some (.slice (some ⟨b, 0, none⟩) 2 capb) := hcell
    clear HX HM HB HOb hb0 hb1 hfz hbl HLook
    refine start_ (n := 16) (S := fun w' => w'.cell? ⟨b, 0, none⟩ = some (.int .i64 c.1) ∧ w'.cell? ⟨b, 1, none⟩ = some (.int .i64 c.2) ∧ (Instr.lookup 67 (.map (some gm)) (.agg #[.int .i64 c.1, .int .i64 c.2]) false).run Try.prog w' = .ok (.int .i64 (f c)) w') (ds := [12, 13, 15]) #[false, false, false, false, false, false, false, false, false, false, false, false, false, false, false, false] (by kernel_rfl) rfl rfl ⟨a0, a1, hlk⟩ (fun hHeld => ?_)
    refine with_tabW tab8h bits8h (fun HT_ HW_ => ?_)
    generalize wr.drew = Y0 at *
    refine pu_ (i := 0) (N := some 23) (v := ?_) (a' := ?_) HT_.out rfl rfl (Or.inl ⟨by rfl, ?_⟩) ?_ ?_
    rotate_left
    ·intro w'
     go_simp
     with_reducible rfl
    rotate_left
    ·simp only [sp_]
     rfl
    refine pu_ (i := 1) (N := some 24) (v := ?_) (a' := ?_) HT_.out rfl rfl (Or.inl ⟨by rfl, ?_⟩) ?_ ?_
    rotate_left
    ·intro w'
     go_simp
     with_reducible rfl
    rotate_left
    ·simp only [sp_]
     rfl
    refine pu_ (i := 2) (N := some 25) (v := ?_) (a' := ?_) HT_.out rfl rfl (Or.inl ⟨by rfl, ?_⟩) ?_ ?_
    rotate_left
    ·intro w'
     go_simp
     with_reducible rfl
    rotate_left
    ·simp only [sp_]
     rfl
    refine pu_ (i := 3) (N := some 26) (v := ?_) (a' := ?_) HT_.out rfl rfl (Or.inl ⟨by rfl, ?_⟩) ?_ ?_
    rotate_left
    ·intro w'
     go_simp
     with_reducible rfl
    rotate_left
    ·simp only [sp_]
     rfl
    refine pu_ (i := 4) (N := some 27) (v := ?_) (a' := ?_) HT_.out rfl rfl (Or.inl ⟨by rfl, ?_⟩) ?_ ?_
    rotate_left
    ·intro w'
     go_simp
     with_reducible rfl
    rotate_left
    ·simp only [sp_]
     rfl
    refine pu_ (i := 7) (N := some 30) (v := ?_) (a' := ?_) HT_.out rfl rfl (Or.inl ⟨by rfl, ?_⟩) ?_ ?_
    rotate_left
    ·intro w'
     go_simp
     with_reducible rfl
    rotate_left
    ·simp only [sp_]
     rfl
    refine pu_ (i := 5) (N := some 28) (v := ?_) (a' := ?_) HT_.out rfl rfl (Or.inl ⟨by rfl, ?_⟩) ?_ ?_
    rotate_left
    ·intro w'
     go_simp
     with_reducible rfl
    rotate_left
    ·simp only [sp_]
     rfl
    refine pu_ (i := 8) (N := some 31) (v := ?_) (a' := ?_) HT_.out rfl rfl (Or.inl ⟨by rfl, ?_⟩) ?_ ?_
    rotate_left
    ·intro w'
     go_simp
     with_reducible rfl
    rotate_left
    ·simp only [sp_]
     rfl
    refine tk_ (i := 6) (N := some 29) (v := ?_) (a' := ?_) HT_.out HW_.out rfl rfl (Or.inl ⟨by rfl, ?_⟩) hHeld ?_ ?_
    rotate_left
    ·intro w' hSw; obtain ⟨hS0, hS1, hS2⟩ := hSw
     go_simp
     with_reducible rfl
    rotate_left
    ·simp only [sp_]
     rfl
    refine tk_ (i := 9) (N := some 32) (v := ?_) (a' := ?_) HT_.out HW_.out rfl rfl (Or.inl ⟨by rfl, ?_⟩) hHeld ?_ ?_
    rotate_left
    ·intro w' hSw; obtain ⟨hS0, hS1, hS2⟩ := hSw
     go_simp
     with_reducible rfl
    rotate_left
    ·simp only [sp_]
     rfl
    refine pu_ (i := 10) (N := some 33) (v := ?_) (a' := ?_) HT_.out rfl rfl (Or.inl ⟨by rfl, ?_⟩) ?_ ?_
    rotate_left
    ·intro w'
     go_simp
     with_reducible rfl
    rotate_left
    ·simp only [sp_]
     rfl
    refine tk_ (i := 11) (N := some 34) (v := ?_) (a' := ?_) HT_.out HW_.out rfl rfl (Or.inl ⟨by rfl, ?_⟩) hHeld ?_ ?_
    rotate_left
    ·intro w' hSw; obtain ⟨hS0, hS1, hS2⟩ := hSw
     go_simp
     with_reducible rfl
    rotate_left
    ·simp only [sp_]
     rfl
    refine last_ (i := 12) (N := some 35) #[true, true, true, true, true, true, true, true, true, true, true, true, true, false, false, false] rfl rfl (one_of HT_.out (by kernel_rfl)) (by decide) (fun K hK => ?_)
    refine value_ (v := .slice (some ⟨Y0.heap.size, 0, none⟩) 1 1) (w1 := Y0.alloc (.cells #[.int .i64 (f c)] 3)) (by rfl) rfl (by go_simp) ?_
    refine hK.out _ _ ?_
    clear hK K
    (try simp only [Act.put, List.setIfInBounds_toArray, List.set_cons_zero, List.set_cons_succ])
    refine last_ (i := 13) (N := some 36) #[true, true, true, true, true, true, true, true, true, true, true, true, true, true, false, false] rfl rfl (one_of HT_.out (by kernel_rfl)) (by decide) (fun K hK => ?_)
    refine step_app3 rfl (.tmp 25) (.tmp 35) rfl rfl rfl (own_alloc HOd.out _) (blk_new Y0 _) (by have := HBd.out.size; simp; omega) ?_
    intro g1 cap1 Y1 hO1 hg1 hat1
    refine hK.out _ _ ?_
    clear hK K
    (try simp only [Act.put, List.setIfInBounds_toArray, List.set_cons_zero, List.set_cons_succ])
    have hbb : w.heap.size ≤ b := own_base HOd.out b rfl
    have hold : ∀ k, k < Y0.heap.size → b ≠ k → Y1.heap[k]? = Y0.heap[k]? := fun k hk hne => (hg1.block k (by simp; omega) (by simpa using fun e => hne e.symm)).trans ((MapKept.heap_alloc Y0 _).2 k hk)
    have hput := RowsD.change2 (w1 := Y1) (r := [c.1, c.2, f c]) HXd.out.1 HXd.out.2 (by rw [midH_len]; exact hin) HLb.out hO1 (by intro k hk; simp [Value.ownBlock] at hk; rcases hat1 with h | h; exact .inr (by simp [Value.ownBlock]; omega); exact .inl (by simp at h; omega)) (fun k hk hne => hold k hk (by simpa [Value.ownBlock] using hne))
    rw [HSet.out, midH_len] at hput
    have hgm : gm < Y0.heap.size ∧ b ≠ gm ∧ gm ≠ g := by
     obtain ⟨cb, hcb⟩ := own_typed HOd.out b rfl
     obtain ⟨cgg, hcgg⟩ := own_typed HXd.out.1 g rfl
     exact ⟨by obtain ⟨D, hm, _⟩ := HMd.out; exact hm.lt, fun e => HMd.out.notCells hcb e.symm, HMd.out.notCells hcgg⟩
    have hcg : Y1.cell? ⟨g, i, none⟩ = some (.slice (some ⟨b, 0, none⟩) 2 capb) := (cell_same hput.2 i).trans hcell0
    have hfg1 : Y1.frozen? ⟨g, i, none⟩ = false := (frozen_same hput.2 i).trans hfg
    have HDn : Aside0 (RowsD (Y1.setCell ⟨g, i, none⟩ (.slice (some ⟨g1, 0, none⟩) 3 cap1)) w.heap.size (.slice (some ⟨g, 0, none⟩) S.length co) (midH f S (i + 1))) := ⟨hput.1⟩
    have HMn : Aside0 (MapIs (Y1.setCell ⟨g, i, none⟩ (.slice (some ⟨g1, 0, none⟩) 3 cap1)) gm N M) := ⟨(HMd.out.move (hold gm hgm.1 hgm.2.1)).move (Below.heap_setCell _ _ _ _ hgm.2.2)⟩
    have HBn : Aside0 (Below w.heap.size w (Y1.setCell ⟨g, i, none⟩ (.slice (some ⟨g1, 0, none⟩) 3 cap1))) := ⟨((HBd.out.alloc HBd.out.size _).grown hg1 (by have := HBd.out.size; simp; omega) (fun j e => by cases e; exact hbb)).setCell hgb _⟩
    clear hput hgm hO1 hg1 hat1 HXd HMd HBd HOd hold HLb HSet a0 a1 hlk hcell hcell0 hfg hblk hbb hHeld
    refine pu_ (i := 14) (N := some 37) (v := ?_) (a' := ?_) HT_.out rfl rfl (Or.inl ⟨by rfl, ?_⟩) ?_ ?_
    rotate_left
    ·intro w'
     go_simp
     with_reducible rfl
    rotate_left
    ·simp only [sp_]
     rfl
    refine lastS_ (i := 15) (w1 := Y1.setCell ⟨g, i, none⟩ (.slice (some ⟨g1, 0, none⟩) 3 cap1)) #[true, true, true, true, true, true, true, true, true, true, true, true, true, true, true, true] rfl rfl (one_of HT_.out (by kernel_rfl)) (by decide) (by rfl) ?_ ?_
    ·go_simp
    clear hcg hfg1
    generalize Y1.setCell ⟨g, i, none⟩ (.slice (some ⟨g1, 0, none⟩) 3 cap1) = Y2 at *
    (try simp only [Act.put, List.setIfInBounds_toArray, List.set_cons_zero, List.set_cons_succ])
    refine done_ (done_of HT_.out (by kernel_rfl)) ?_
    clear HT_ HW_
    go_wp2_with (fail)
    go_roundg m
    case measure => omega
    case rel => exact ⟨i + 1, by first | rfl | go_num, ⟨by have := HI.out; omega⟩, HDn, HMn, HBn⟩
 ·have hok : okH0 n = false := decide_eq_false hn
  rw [heapRows0 hok, hok]
  have HA := Aside0.mk (fun W => impl_in.calls n 0 250 false W (iin0_bad hn))
  clear hok
  go_enter Try.func62, Try.ntmps62
  go_wp2_with (first | (go_at_call 79; (with_reducible refine (HA.out _).mono ?_); rintro e w1 ⟨rfl, ⟨nd, rfl⟩⟩))
  go_ret2
  exact ⟨_, rfl, by repeat (first | exact Below.refl _ _ | apply bN_), ⟨RowsD.nil _ _⟩⟩
end Go.Proofs.Ytjedhjeijpbobaa.G8
namespace Go.Proofs.Ytjedhjeijpbobaa.G8
open Go.RowKit Go.Maps YtjedhjeijpbobaaW.PrintWords YtjedhjeijpbobaaW.PrintLast YtjedhjeijpbobaaW.PrintMore
theorem rowL_len (p : Int → Int → Bool) (x : Int) : ∀ (k : Nat) (y : Int), (rowL p x k y).length ≤ k
 | 0, y => by simp [rowL]
 | k + 1, y => by
  have := rowL_len p x k (y + 1)
  unfold rowL
  split
  ·rw [List.length_cons]; omega
  ·omega
theorem gridL_len (p : Int → Int → Bool) (lo : Int) (m : Nat) : ∀ (k : Nat) (x : Int), (gridL p lo m k x).length ≤ k * m
 | 0, x => by simp [gridL]
 | k + 1, x => by
  have h1 := rowL_len p x m lo
  have h2 := gridL_len p lo m k (x + 1)
  unfold gridL
  rw [List.length_append, Nat.add_mul]
  omega
theorem heapCs_len (n : Int) : (heapCs n).length ≤ 14641 := gridL_len (hotB n) (-60) 121 121 (-60)
theorem heapRows_len (n : Int) : (heapRows n).length ≤ 14641 := by
 unfold heapRows
 split
 ·rw [hrows_len]; exact heapCs_len n
 ·simp
end Go.Proofs.Ytjedhjeijpbobaa.G8
namespace Go.Proofs.Ytjedhjeijpbobaa.G8
open Go.RowKit Go.Maps YtjedhjeijpbobaaW.PrintWords YtjedhjeijpbobaaW.PrintLast YtjedhjeijpbobaaW.PrintMore
open GA
end Go.Proofs.Ytjedhjeijpbobaa.G8
namespace Go.Proofs.Ytjedhjeijpbobaa.G8
open Go.RowKit
theorem hp_turn (n : Int) (u : Odo) (a b : Int) : hp n (fun x y => u (-y) x) a b = hp n u (-b) a := by
 unfold hp nb
 have e1 : -(b + 1) = -b - 1 := by omega
 have e2 : -(b - 1) = -b + 1 := by omega
 simp only [e1, e2]
 by_cases q : a = 0 ∧ b = 0
 ·rw [if_pos q, if_pos (by omega)]; omega
 ·rw [if_neg q, if_neg (by omega)]; omega
theorem hp_turn' (n : Int) (u : Odo) (a b : Int) : hp n (fun x y => u y (-x)) a b = hp n u b (-a) := by
 unfold hp nb
 have e1 : -(a + 1) = -a - 1 := by omega
 have e2 : -(a - 1) = -a + 1 := by omega
 simp only [e1, e2]
 by_cases q : a = 0 ∧ b = 0
 ·rw [if_pos q, if_pos (by omega)]; omega
 ·rw [if_neg q, if_neg (by omega)]; omega
theorem hp_swap (n : Int) (u : Odo) (a b : Int) : hp n (fun x y => u y x) a b = hp n u b a := by
 unfold hp nb
 dsimp only
 by_cases q : a = 0 ∧ b = 0
 ·rw [if_pos q, if_pos (by omega)]; omega
 ·rw [if_neg q, if_neg (by omega)]; omega
theorem Legal.turn {n : Int} {u : Odo} (h : Legal n u) : Legal n (fun x y => u (-y) x) := by
 refine ⟨fun a b => h.pos _ _, fun v h0 hv a b => ?_⟩
 have := h.least (fun x y => v y (-x)) (fun a b => h0 _ _) (fun a b => by rw [hp_turn']; exact hv _ _) (-b) a
 simp only [Int.neg_neg] at this
 exact this
theorem Legal.swap {n : Int} {u : Odo} (h : Legal n u) : Legal n (fun x y => u y x) := by
 refine ⟨fun a b => h.pos _ _, fun v h0 hv a b => ?_⟩
 exact h.least (fun x y => v y x) (fun a b => h0 _ _) (fun a b => by rw [hp_swap]; exact hv _ _) b a
theorem heap_turn {n : Int} (h : 0 ≤ n ∧ n ≤ 250) (a b : Int) : heapU n (-b) a = heapU n a b := by
 have hu := heapU_ok h
 have := heapU_is h hu.1.turn (fun a b => by rw [hp_turn]; exact (hu.2 _ _).2)
 exact congrFun (congrFun this a) b
theorem heap_swap {n : Int} (h : 0 ≤ n ∧ n ≤ 250) (a b : Int) : heapU n b a = heapU n a b := by
 have hu := heapU_ok h
 have := heapU_is h hu.1.swap (fun a b => by rw [hp_swap]; exact (hu.2 _ _).2)
 exact congrFun (congrFun this a) b
theorem hp_alike {n : Int} (h : 0 ≤ n ∧ n ≤ 250) (a b : Int) : hp n (heapU n) (-b) a = hp n (heapU n) a b ∧ hp n (heapU n) b a = hp n (heapU n) a b := by
 constructor
 ·rw [← hp_turn]
  rw [show (fun x y => heapU n (-y) x) = heapU n from funext fun x => funext fun y => heap_turn h x y]
 ·rw [← hp_swap]
  rw [show (fun x y => heapU n y x) = heapU n from funext fun x => funext fun y => heap_swap h x y]
theorem cells_alike {n : Int} (h : 0 ≤ n ∧ n ≤ 250) {a b : Int} (hc : (a, b) ∈ heapCs n) : (-b, a) ∈ heapCs n ∧ (b, a) ∈ heapCs n := by
 rw [mem_heapCs h] at hc ⊢
 rw [mem_heapCs h]
 unfold hot at *
 rw [(hp_alike h a b).1, (hp_alike h a b).2, heap_turn h a b, heap_swap h a b]
 exact ⟨hc, hc⟩
theorem psum_hp (n : Int) (u : Odo) (a : Int) : ∀ (k : Nat) (lo : Int), psum (fun b => hp n u a b) k lo = psum (fun b => if a = 0 ∧ b = 0 then n else 0) k lo + psum (u (a + 1)) k lo + psum (u (a - 1)) k lo + psum (fun b => u a (b + 1)) k lo + psum (fun b => u a (b - 1)) k lo - 4 * psum (u a) k lo
 | 0, lo => by simp [psum]
 | k + 1, lo => by
  have ih := psum_hp n u a k (lo + 1)
  simp only [psum]
  rw [ih]
  unfold hp nb
  omega
theorem psum_up (f : Int → Int) : ∀ (k : Nat) (lo : Int), psum (fun b => f (b + 1)) k lo = psum f k (lo + 1)
 | 0, lo => rfl
 | k + 1, lo => by
  simp only [psum]
  rw [psum_up f k (lo + 1)]
theorem psum_down (f : Int → Int) : ∀ (k : Nat) (lo : Int), psum (fun b => f (b - 1)) k lo = psum f k (lo - 1)
 | 0, lo => rfl
 | k + 1, lo => by
  simp only [psum]
  rw [psum_down f k (lo + 1), show lo + 1 - 1 = lo - 1 + 1 by omega]
theorem psum_last (f : Int → Int) : ∀ (n : Nat) (lo : Int), psum f (n + 1) lo = psum f n lo + f (lo + n)
 | 0, lo => by simp [psum]
 | n + 1, lo => by
  have ih := psum_last f n (lo + 1)
  rw [show psum f (n + 1 + 1) lo = f lo + psum f (n + 1) (lo + 1) from rfl, ih, show psum f (n + 1) lo = f lo + psum f n (lo + 1) from rfl]
  rw [show lo + 1 + (n : Int) = lo + ((n + 1 : Nat) : Int) by omega]
  omega
theorem psum_shift (f : Int → Int) (k : Nat) (lo : Int) (h0 : f lo = 0) (h1 : f (lo + k) = 0) : psum f k (lo + 1) = psum f k lo := by
 have a : psum f (k + 1) lo = f lo + psum f k (lo + 1) := rfl
 have b := psum_last f k lo
 omega
theorem psum_same (f : Int → Int) (h : ∀ c, f c ≠ 0 → -59 ≤ c ∧ c ≤ 59) : psum (fun b => f (b + 1)) 121 (-60) = psum f 121 (-60) ∧ psum (fun b => f (b - 1)) 121 (-60) = psum f 121 (-60) := by
 have z : ∀ c, ¬ (-59 ≤ c ∧ c ≤ 59) → f c = 0 := fun c hc => by
  rcases Decidable.em (f c = 0) with e | e
  ·exact e
  ·exact absurd (h c e) hc
 constructor
 ·rw [psum_up]
  exact psum_shift f 121 (-60) (z _ (by decide)) (z _ (by decide))
 ·rw [psum_down]
  exact (psum_shift f 121 (-61) (z _ (by decide)) (z _ (by decide))).symm
theorem psum_zero : ∀ (k : Nat) (lo : Int), psum (fun _ => 0) k lo = 0
 | 0, lo => rfl
 | k + 1, lo => by simp only [psum]; rw [psum_zero k (lo + 1)]; rfl
theorem psum_one (n : Int) : psum (fun c => if c = 0 then n else 0) 121 (-60) = n := by
 rw [psum_upd (fun _ => 0) (fun c => if c = 0 then n else 0) 0 (fun c hc => if_neg hc) 121 (-60) (by decide) (by decide), psum_zero, if_pos rfl]
 omega
theorem psum_mid (n : Int) : psum (fun a => psum (fun b => if a = 0 ∧ b = 0 then n else 0) 121 (-60)) 121 (-60) = n := by
 rw [show (fun a : Int => psum (fun b => if a = 0 ∧ b = 0 then n else 0) 121 (-60)) = fun a => if a = 0 then n else 0 from funext fun a => ?_]
 ·exact psum_one n
 ·by_cases e : a = 0
  ·subst e
   rw [if_pos rfl]
   rw [show (fun b : Int => if (0 : Int) = 0 ∧ b = 0 then n else 0) = fun b => if b = 0 then n else 0 from funext fun b => by simp]
   exact psum_one n
  ·rw [if_neg e]
   rw [show (fun b : Int => if a = 0 ∧ b = 0 then n else 0) = fun _ => 0 from funext fun b => if_neg (fun q => e q.1)]
   exact psum_zero _ _
theorem psum_five (D U V W : Int → Int) : ∀ (k : Nat) (lo : Int), psum (fun a => D a + V a + W a + U a + U a - 4 * U a) k lo = psum D k lo + psum V k lo + psum W k lo - 2 * psum U k lo
 | 0, lo => by simp [psum]
 | k + 1, lo => by
  have ih := psum_five D U V W k (lo + 1)
  simp only [psum]
  rw [ih]
  omega
theorem Legal.flat {n : Int} {u : Odo} (h : Legal n u) (hn : n ≤ 250) (a b : Int) (hz : u a b ≠ 0) : (-59 ≤ a ∧ a ≤ 59) ∧ (-59 ≤ b ∧ b ≤ 59) := by
 have h1 := h.le hn a b
 have h2 := h.pos a b
 unfold v250 at h1
 split at h1 <;> omega
theorem hp_total {n : Int} {u : Odo} (h : Legal n u) (hn : n ≤ 250) : psum (fun a => psum (fun b => hp n u a b) 121 (-60)) 121 (-60) = n := by
 obtain ⟨U, hU⟩ : ∃ U : Int → Int, U = fun a => psum (u a) 121 (-60) := ⟨_, rfl⟩
 have e : (fun a => psum (fun b => hp n u a b) 121 (-60)) = fun a => psum (fun b => if a = 0 ∧ b = 0 then n else 0) 121 (-60) + U (a + 1) + U (a - 1) + U a + U a - 4 * U a := by
  funext a
  have hs := psum_same (u a) (fun c hc => (h.flat hn a c hc).2)
  rw [psum_hp, hs.1, hs.2, hU]
 rw [e, psum_five (fun a => psum (fun b => if a = 0 ∧ b = 0 then n else 0) 121 (-60)) U (fun a => U (a + 1)) (fun a => U (a - 1)), psum_mid]
 have hs := psum_same U (fun c hc => by
  rcases Decidable.em (-59 ≤ c ∧ c ≤ 59) with q | q
  ·exact q
  ·refine absurd ?_ hc
   rw [hU]
   show psum (u c) 121 (-60) = 0
   rw [show u c = fun _ => 0 from funext fun b => by
    rcases Decidable.em (u c b = 0) with z | z
    ·exact z
    ·exact absurd (h.flat hn c b z).1 q]
   exact psum_zero _ _)
 rw [hs.1, hs.2]
 omega
def sumC (f : Int → Int → Int) (cs : List (Int × Int)) : Int := (cs.map fun c => f c.1 c.2).sum
theorem sum_app (f : Int → Int → Int) (xs ys : List (Int × Int)) : sumC f (xs ++ ys) = sumC f xs + sumC f ys := by unfold sumC; simp
theorem sum_row (p : Int → Int → Bool) (f : Int → Int → Int) (hz : ∀ a b, p a b = false → f a b = 0) (x : Int) : ∀ (k : Nat) (y : Int), sumC f (rowL p x k y) = psum (fun b => f x b) k y
 | 0, y => rfl
 | k + 1, y => by
  have ih := sum_row p f hz x k (y + 1)
  unfold rowL
  simp only [psum]
  by_cases q : p x y = true
  ·rw [if_pos q, ← ih]; unfold sumC; simp
  ·rw [if_neg q, ih, hz x y (by simpa using q), Int.zero_add]
theorem sum_grid (p : Int → Int → Bool) (f : Int → Int → Int) (hz : ∀ a b, p a b = false → f a b = 0) (lo : Int) (m : Nat) : ∀ (k : Nat) (x : Int), sumC f (gridL p lo m k x) = psum (fun a => psum (fun b => f a b) m lo) k x
 | 0, x => rfl
 | k + 1, x => by
  unfold gridL
  rw [sum_app, sum_row p f hz, sum_grid p f hz lo m k (x + 1)]
  rfl
theorem heap_sum {n : Int} (h : 0 ≤ n ∧ n ≤ 250) : sumC (hp n (heapU n)) (heapCs n) = n := by
 have hu := heapU_ok h
 unfold heapCs
 rw [sum_grid (hotB n) (hp n (heapU n)) (fun a b q => ?_), hp_total hu.1 h.2]
 have := (hu.2 a b).1
 unfold hotB at q
 simp only [Bool.or_eq_false_iff, decide_eq_false_iff_not] at q
 omega
end Go.Proofs.Ytjedhjeijpbobaa.G8
namespace Go.Proofs.Ytjedhjeijpbobaa.GK
open Go.RowKit YtjedhjeijpbobaaW.PrintWords YtjedhjeijpbobaaW.PrintLast YtjedhjeijpbobaaW.PrintMore
open GA GJ
attribute [local go_sem] max2_int min2_int max_two min_two max_three min_three max_four min_four
def errW : Option Int → Value
 | none => .nilIface
 | some c => .iface 0 (.int .i64 c)
theorem errW_none : errW none = .nilIface := rfl
theorem errW_some (c : Int) : errW (some c) = .iface 0 (.int .i64 c) := rfl
end Go.Proofs.Ytjedhjeijpbobaa.GK
namespace Go.Proofs.Ytjedhjeijpbobaa.GL
open Go.RowKit YtjedhjeijpbobaaW.PrintWords YtjedhjeijpbobaaW.PrintLast YtjedhjeijpbobaaW.PrintMore
open GA GJ GK
attribute [local go_sem] max2_int min2_int max_two min_two max_three min_three max_four min_four
def errW : Option Int → Value
 | none => .nilIface
 | some c => .iface 0 (.int .i64 c)
theorem errW_none : errW none = .nilIface := rfl
theorem errW_some (c : Int) : errW (some c) = .iface 0 (.int .i64 c) := rfl
def rd_L4 (xs : List (List Int)) (i : Int) : (List Int) := xs.getD i.toNat ([] : List Int)
theorem at_L4 {w : World} {A : Option Addr} {n : Nat} {xs : List (List Int)} (h : Kd.C (Kd.slice 3 (Kd.int .i64)) w A n xs) (i : Int) (h0 : 0 ≤ i) (h1 : i < n) : ∃ ad A0 c0, A = some ad ∧ w.cell? (ad.add i.toNat) = some (.slice A0 (rd_L4 xs i).length c0) ∧ (rd_L4 xs i).length ≤ c0 ∧ (Kd.int .i64).C w A0 (rd_L4 xs i).length (rd_L4 xs i) := by
 obtain ⟨ad, c, e, _, hK, hc0⟩ := Kd.C_get h ([] : List Int) i h0 h1
 have hc : ∀ j u, c[j]? = some u → w.cell? (ad.add (i.toNat * 1 + j)) = some u := hc0
 obtain ⟨A0, c0, rfl, l0, g0⟩ := hK
 exact ⟨ad, A0, c0, e, by have hq := hc 0 _ rfl; rwa [Nat.mul_one, Nat.add_zero] at hq, l0, g0⟩
end Go.Proofs.Ytjedhjeijpbobaa.GL
