/-
  Ratios in lowest terms, of both sides; the differences of escapes and chances. Plain numbers.
-/
import Derived.Test.YtmechelmnpoddaaHm
import Derived.Test.YtmechelmnpoddaaE71
namespace Go.Proofs.Ytmechelmnpoddaa.H7
open Go.RowKit Go.Proofs.YtmechelmnpoddaaW.PrintWords Go.Proofs.YtmechelmnpoddaaW.PrintLast Go.Proofs.YtmechelmnpoddaaW.PrintMore
open Go.Proofs.Ytmechelmnpoddaa.A7 Go.Proofs.Ytmechelmnpoddaa.E7
set_option linter.unusedVariables false
set_option linter.unusedSimpArgs false

theorem succ_of {d k : Nat} (h : d < k) : ∃ m, k = m + 1 := ⟨k - 1, by omega⟩
theorem tmod_nat (a b : Nat) : Int.tmod (a : Int) (b : Int) = ((a % b : Nat) : Int) := (Int.ofNat_tmod a b).symm
theorem tdiv_nat (a b : Nat) : Int.tdiv (a : Int) (b : Int) = ((a / b : Nat) : Int) := (Int.ofNat_tdiv a b).symm
theorem spec_gcd (x y : Nat) (hx : x ≤ 1000000) (hy : y ≤ 1000000) : ∀ (b a k : Nat), b < k → 0 < Nat.gcd a b → spec_hiRatio.l0 k (x : Int) (y : Int) (a : Int) (b : Int) = some (((x / Nat.gcd a b : Nat) : Int), ((y / Nat.gcd a b : Nat) : Int)) := by
  intro b
  induction b using Nat.strongRecOn with
  | _ b ih =>
    intro a k hk hg
    obtain ⟨k, rfl⟩ := succ_of hk
    simp only [spec_hiRatio.l0]
    rcases Nat.eq_zero_or_pos b with rfl | hb
    · rw [Nat.gcd_zero_right] at hg ⊢
      have h1 := Nat.div_le_self x a
      have h2 := Nat.div_le_self y a
      rw [if_neg (by omega), if_neg (by omega), tdiv_nat, tdiv_nat]
      generalize x / a = xa at *
      generalize y / a = ya at *
      rw [wrap_id (by omega) (by omega), wrap_id (by omega) (by omega)]
    · have hm := Nat.mod_lt a hb
      have e : Nat.gcd b (a % b) = Nat.gcd a b := by rw [Nat.gcd_comm, ← Nat.gcd_rec, Nat.gcd_comm]
      rw [if_pos (by omega), if_neg (by omega), tmod_nat, ih (a % b) hm b k (by omega) (by rw [e]; exact hg), e]
theorem spec_ratio (x y : Nat) (hx : x ≤ 1000000) (hy : y ≤ 1000) (h0 : 0 < y) (k : Nat) (hk : 1100 ≤ k) : spec_hiRatio.f k (x : Int) (y : Int) = some (((x / Nat.gcd x y : Nat) : Int), ((y / Nat.gcd x y : Nat) : Int)) := by
  obtain ⟨k, rfl⟩ := succ_of (show 0 < k by omega)
  unfold spec_hiRatio.f
  rw [if_neg (by omega)]
  simp only [spec_hiRatio.j0]
  have e : absW (x : Int) = (x : Int) := by unfold absW; rw [wrap_id (by omega) (by omega)]; split <;> omega
  rw [l1Abs_eq, e]
  exact spec_gcd x y hx (by omega) y x k (by omega) (Nat.gcd_pos_of_pos_right _ h0)
theorem impl_gcd_eq : ∀ (b a k : Nat), b < k → impl_gcd.l0 k (a : Int) (b : Int) = some ((Nat.gcd a b : Nat) : Int) := by
  intro b
  induction b using Nat.strongRecOn with
  | _ b ih =>
    intro a k hk
    obtain ⟨k, rfl⟩ := succ_of hk
    simp only [impl_gcd.l0]
    rcases Nat.eq_zero_or_pos b with rfl | hb
    · rw [if_pos (by omega), Nat.gcd_zero_right]
    · have hm := Nat.mod_lt a hb
      have e : Nat.gcd b (a % b) = Nat.gcd a b := by rw [Nat.gcd_comm, ← Nat.gcd_rec, Nat.gcd_comm]
      rw [if_neg (by omega), tmod_nat, ih (a % b) hm b k (by omega), e]
theorem impl_ratio_eq (x y : Nat) (hx : x ≤ 1000000) (hy : y ≤ 1000) (h0 : 0 < y) (k : Nat) (hk : 1100 ≤ k) : impl_ratio.f k (x : Int) (y : Int) = some (((x / Nat.gcd x y : Nat) : Int), ((y / Nat.gcd x y : Nat) : Int)) := by
  unfold impl_ratio.f impl_gcd.f
  have e1 : mx (x : Int) (wrap64 (-(x : Int))) = (x : Int) := by unfold mx; rw [wrap_id (by omega) (by omega)]; split <;> omega
  have e2 : mx (y : Int) (wrap64 (-(y : Int))) = (y : Int) := by unfold mx; rw [wrap_id (by omega) (by omega)]; split <;> omega
  have hg := Nat.gcd_pos_of_pos_right x h0
  have h1 := Nat.div_le_self x (Nat.gcd x y)
  have h2 := Nat.div_le_self y (Nat.gcd x y)
  rw [e1, e2, impl_gcd_eq y x k (by omega)]
  simp only [Option.bind_some]
  rw [if_neg (by omega), if_neg (by omega), tdiv_nat, tdiv_nat]
  generalize x / Nat.gcd x y = xa at *
  generalize y / Nat.gcd x y = ya at *
  rw [wrap_id (by omega) (by omega), wrap_id (by omega) (by omega)]
theorem lowest (g x y : Nat) (hg : 0 < g) : g * x / Nat.gcd (g * x) (g * y) = x / Nat.gcd x y ∧ g * y / Nat.gcd (g * x) (g * y) = y / Nat.gcd x y := by
  rw [Nat.gcd_mul_left]
  exact ⟨Nat.mul_div_mul_left _ _ hg, Nat.mul_div_mul_left _ _ hg⟩
theorem mul_bd (E D : Int) (h0 : -200 ≤ E) (h1 : E ≤ 200) (d0 : 0 ≤ D) (d1 : D ≤ 500) : -100000 ≤ E * D ∧ E * D ≤ 100000 := by
  have h := Nat.mul_le_mul (show E.natAbs ≤ 200 by omega) (show D.natAbs ≤ 500 by omega)
  rw [← Int.natAbs_mul] at h
  generalize E * D = z at *
  omega
theorem absW_eq (x : Int) (h0 : -1000000 ≤ x) (h1 : x ≤ 1000000) : absW x = ((x.natAbs : Nat) : Int) := by
  unfold absW
  rw [wrap_id (by omega) (by omega)]
  split <;> omega
theorem size_eq (x : Int) (h0 : -1000000 ≤ x) (h1 : x ≤ 1000000) : impl_size.f x = some ((x.natAbs : Nat) : Int) := by
  unfold impl_size.f mx
  rw [wrap_id (by omega) (by omega)]
  congr 1
  split <;> omega
theorem gap_both (E n : Int) (g c1 c2 : Nat) (hg : 0 < g) (h2 : 0 < c2) (e0 : -200 ≤ E) (e1 : E ≤ 200) (n0 : 0 ≤ n) (n1 : n ≤ 200) (b1 : g * c1 ≤ 500) (b2 : g * c2 ≤ 500) :
    ∃ u v, ∀ k, 1100 ≤ k → spec_hiRatio.f k (absW (wrap64 (wrap64 (E * ((g * c2 : Nat) : Int)) - wrap64 (n * ((g * c1 : Nat) : Int))))) ((g * c2 : Nat) : Int) = some (u, v) ∧
      ((impl_size.f (wrap64 ((wrap64 (E * (c2 : Int))) - (wrap64 (n * (c1 : Int)))))).bind fun t => impl_ratio.f k t (c2 : Int)) = some (u, v) := by
  have c2le : c2 ≤ 500 := Nat.le_trans (Nat.le_mul_of_pos_left _ hg) b2
  have c1le : c1 ≤ 500 := Nat.le_trans (Nat.le_mul_of_pos_left _ hg) b1
  have m1 := mul_bd E ((g * c2 : Nat) : Int) e0 e1 (by omega) (by omega)
  have m2 := mul_bd n ((g * c1 : Nat) : Int) (by omega) n1 (by omega) (by omega)
  have m3 := mul_bd E (c2 : Int) e0 e1 (by omega) (by omega)
  have m4 := mul_bd n (c1 : Int) (by omega) n1 (by omega) (by omega)
  have hx : E * ((g * c2 : Nat) : Int) - n * ((g * c1 : Nat) : Int) = (g : Int) * (E * (c2 : Int) - n * (c1 : Int)) := by
    rw [Int.natCast_mul, Int.natCast_mul, Int.mul_sub, Int.mul_left_comm, Int.mul_left_comm n]
  have hn : (E * ((g * c2 : Nat) : Int) - n * ((g * c1 : Nat) : Int)).natAbs = g * (E * (c2 : Int) - n * (c1 : Int)).natAbs := by rw [hx, Int.natAbs_mul]; rfl
  rw [wrap_id (x := E * ((g * c2 : Nat) : Int)) (by omega) (by omega), wrap_id (x := n * ((g * c1 : Nat) : Int)) (by omega) (by omega), wrap_id (by omega) (by omega), absW_eq _ (by omega) (by omega), hn]
  rw [wrap_id (x := E * (c2 : Int)) (by omega) (by omega), wrap_id (x := n * (c1 : Int)) (by omega) (by omega), wrap_id (by omega) (by omega), size_eq _ (by omega) (by omega)]
  have ha : (E * (c2 : Int) - n * (c1 : Int)).natAbs ≤ 200000 := by omega
  have hb : g * (E * (c2 : Int) - n * (c1 : Int)).natAbs ≤ 200000 := by rw [← hn]; omega
  generalize (E * (c2 : Int) - n * (c1 : Int)).natAbs = a at *
  refine ⟨((a / Nat.gcd a c2 : Nat) : Int), ((c2 / Nat.gcd a c2 : Nat) : Int), fun k hk => ⟨?_, ?_⟩⟩
  · rw [spec_ratio (g * a) (g * c2) (by omega) (by omega) (Nat.mul_pos hg h2) k hk, (lowest g a c2 hg).1, (lowest g a c2 hg).2]
  · simp only [Option.bind_some]
    exact impl_ratio_eq a c2 (by omega) (by omega) h2 k hk
end Go.Proofs.Ytmechelmnpoddaa.H7
