/-
  Texts of the seat, merged (part 7).
-/
import Derived.Test.YtnbnalbomflafaaX13WMore
import Derived.Test.YtnbnalbomflafaaProg
import Derived.Deep.Matrix
import Derived.Lib.SmallJoins
import Derived.WalkKit
import Derived.ProofKit
import Derived.OpenShut
import Derived.ChangeSame
import Derived.Test.YtnbnalbomflafaaX136
set_option linter.unusedVariables false
set_option linter.unusedSimpArgs false
namespace Go.Proofs.Ytnbnalbomflafaa.DT
open Go.RowKit YtnbnalbomflafaaW.PrintWords YtnbnalbomflafaaW.PrintLast YtnbnalbomflafaaW.PrintMore
open GA hiding info37
open GR hiding rd_L1 at_L1
open RA
theorem gcd_facts {x d : Int} (hd : 0 < d) : ∃ g : Int, 0 < g ∧ (ratV x d).1 * g = x ∧ (ratV x d).2 * g = d ∧ Int.tdiv d (ratV x d).2 = g ∧ 0 < (ratV x d).2 := by
 have hg : 0 < Nat.gcd x.natAbs d.natAbs := Nat.gcd_pos_of_pos_right _ (by omega)
 have h1 : ((Nat.gcd x.natAbs d.natAbs : Nat) : Int) ∣ x := Int.dvd_natAbs.1 (Int.natCast_dvd_natCast.2 (Nat.gcd_dvd_left _ _))
 have h2 : ((Nat.gcd x.natAbs d.natAbs : Nat) : Int) ∣ d := Int.dvd_natAbs.1 (Int.natCast_dvd_natCast.2 (Nat.gcd_dvd_right _ _))
 unfold ratV
 generalize Nat.gcd x.natAbs d.natAbs = g at *
 have e1 : Int.tdiv x (g : Int) * (g : Int) = x := Int.tdiv_mul_cancel h1
 have e2 : Int.tdiv d (g : Int) * (g : Int) = d := Int.tdiv_mul_cancel h2
 have hp : 0 < Int.tdiv d (g : Int) := by
  by_cases q : 0 < Int.tdiv d (g : Int)
  ·exact q
  ·have : Int.tdiv d (g : Int) * (g : Int) ≤ 0 := Int.mul_nonpos_of_nonpos_of_nonneg (by omega) (by omega)
   omega
 refine ⟨(g : Int), by omega, e1, e2, ?_, hp⟩
 show Int.tdiv d (Int.tdiv d (g : Int)) = (g : Int)
 generalize Int.tdiv d (g : Int) = u at *
 rw [← e2, Int.mul_tdiv_cancel_left _ (by omega)]
structure Vals (l : List (List Int)) (a b : Int) (v : List Int) (den : Int) : Prop where
 len : v.length = l.length
 bnd : ∀ p : Int, 0 ≤ p → p < l.length → (rd v p).natAbs ≤ 11250000
 d0 : 0 < den
 d1 : den ≤ 11250000
 l8 : l.length ≤ 8
 deg : ∀ p : Int, 0 ≤ p → p < l.length → (rd_L1 l p).length ≤ 5
 ex : ∀ p : Int, 0 ≤ p → p < l.length → ∀ q ∈ rd_L1 l p, 0 ≤ q ∧ q < l.length
theorem abs_f {x : Int} (h : x.natAbs ≤ 1000000000000000) : spec_l1Abs.f x = some ((x.natAbs : Nat) : Int) := by
 unfold spec_l1Abs.f spec_l1Most.f
 rw [show wrap64 (-x) = -x from wrap_id (by omega) (by omega)]
 split
 ·rw [show ((x.natAbs : Nat) : Int) = x by omega]; rfl
 ·rw [show ((x.natAbs : Nat) : Int) = -x by omega]; rfl
theorem size_f {x : Int} (h : x.natAbs ≤ 1000000000000000) : GV.impl_size.f x = some ((x.natAbs : Nat) : Int) := by
 unfold GV.impl_size.f
 rw [abs_max x h]
end Go.Proofs.Ytnbnalbomflafaa.DT
namespace Go.Proofs.Ytnbnalbomflafaa.DT
open Go.RowKit YtnbnalbomflafaaW.PrintWords YtnbnalbomflafaaW.PrintLast YtnbnalbomflafaaW.PrintMore
open GA hiding info37
open GR hiding rd_L1 at_L1
open RA
theorem vals_of {l : List (List Int)} {a b : Int} (hg : goodB l a b = true) : Vals l a b (chL l a b) (denOf l a b) := by
 obtain ⟨_, _, _, _, _, h8, h5, hq, _⟩ := good_facts hg
 have h : Eqs l zeroOwn 1 a b := eqs_of hg (sum_chances h5)
 have hd := den_pos hg
 have hb := den_bound h
 exact ⟨by simp [chL, outL], fun p p0 p1 => out_bound h (by omega) p0 p1, hd, by omega, h8, h5, hq⟩
end Go.Proofs.Ytnbnalbomflafaa.DT
namespace Go.Proofs.Ytnbnalbomflafaa.RA
open Go.RowKit YtnbnalbomflafaaW.PrintWords YtnbnalbomflafaaW.PrintLast YtnbnalbomflafaaW.PrintMore
open DT
end Go.Proofs.Ytnbnalbomflafaa.RA
namespace Go.Proofs.Ytnbnalbomflafaa.RA
open Go.RowKit YtnbnalbomflafaaW.PrintWords YtnbnalbomflafaaW.PrintLast YtnbnalbomflafaaW.PrintMore
open GA
open GR hiding rd_L1 at_L1
open GQ hiding rd_L1 at_L1
open KA
def sumW (acc : Int) : List Int → Int
 | [] => acc
 | x :: l => sumW (wrap64 (acc + x)) l
theorem impl_sum_loop (s : List Int) (hl : s.length ≤ 1000000) (d : Nat) : ∀ (k i : Nat) (acc : Int), i + d = s.length → d < k → GU.impl_sum.l0 k acc s (s.length : Int) (i : Int) = some (sumW acc (s.drop i)) := by
 induction d with
 | zero =>
  intro k i acc hi hk
  obtain ⟨k, rfl⟩ := succ_of hk
  unfold GU.impl_sum.l0
  rw [if_neg (by omega), List.drop_eq_nil_of_le (by omega)]
  rfl
 | succ d ih =>
  intro k i acc hi hk
  obtain ⟨k, rfl⟩ := succ_of hk
  have hin : i < s.length := by omega
  have e2 := wrap_up hin (by omega)
  unfold GU.impl_sum.l0
  rw [if_pos (by omega), if_pos (by omega), if_pos (by omega), e2, ih k (i + 1) _ (by omega) (by omega), List.drop_eq_getElem_cons hin, rd_at s i hin]
  rfl
theorem spec_sum_loop (s : List Int) (hl : s.length ≤ 1000000) (d : Nat) : ∀ (k i : Nat) (acc : Int), i + d = s.length → d < k → spec_hiSum.l0 k acc s (s.length : Int) (i : Int) = some (sumW acc (s.drop i)) := by
 induction d with
 | zero =>
  intro k i acc hi hk
  obtain ⟨k, rfl⟩ := succ_of hk
  unfold spec_hiSum.l0
  rw [if_neg (by omega), List.drop_eq_nil_of_le (by omega)]
  rfl
 | succ d ih =>
  intro k i acc hi hk
  obtain ⟨k, rfl⟩ := succ_of hk
  have hin : i < s.length := by omega
  have e2 := wrap_up hin (by omega)
  unfold spec_hiSum.l0
  rw [if_pos (by omega), if_pos (by omega), if_pos (by omega), e2, ih k (i + 1) _ (by omega) (by omega), List.drop_eq_getElem_cons hin, rd_at s i hin]
  rfl
theorem impl_sum_f (s : List Int) (hl : s.length ≤ 1000000) (k : Nat) (hk : s.length < k) : GU.impl_sum.f k s = some (sumW 0 s) := by
 unfold GU.impl_sum.f
 have := impl_sum_loop s hl s.length k 0 0 (by omega) hk
 rwa [List.drop_zero] at this
theorem spec_sum_f (s : List Int) (hl : s.length ≤ 1000000) (k : Nat) (hk : s.length < k) : spec_hiSum.f k s = some (sumW 0 s) := by
 unfold spec_hiSum.f
 have := spec_sum_loop s hl s.length k 0 0 (by omega) hk
 rwa [List.drop_zero] at this
end Go.Proofs.Ytnbnalbomflafaa.RA
namespace Go.Proofs.Ytnbnalbomflafaa.DT
open Go.RowKit YtnbnalbomflafaaW.PrintWords YtnbnalbomflafaaW.PrintLast YtnbnalbomflafaaW.PrintMore
open GA hiding info37
open GR hiding rd_L1 at_L1
open RA
theorem hitOf_01 (q a : Int) : 0 ≤ hitOf q a ∧ hitOf q a ≤ 1 := by
 unfold hitOf
 split <;> omega
theorem chips_01 {l : List (List Int)} {a b p : Int} {n : Nat} {hits rot : List Int} {st : Int} {hits2 rot2 : List Int} {st2 : Int} (h : Chips l a b p n hits rot st hits2 rot2 st2) : (∀ y ∈ hits, 0 ≤ y ∧ y ≤ 1) → ∀ y ∈ hits2, 0 ≤ y ∧ y ≤ 1 := by
 induction h with
 | none => exact id
 | more n s hits rot st v1 rot1 st1 hits2 rot2 st2 h h2 ih =>
  intro hh
  refine ih fun y hy => ?_
  rcases List.mem_append.1 hy with hy | hy
  ·exact hh y hy
  ·obtain rfl := List.mem_singleton.1 hy
   exact hitOf_01 _ _
theorem sumW_le : ∀ (s : List Int) (acc : Int), (∀ y ∈ s, 0 ≤ y ∧ y ≤ 1) → 0 ≤ acc → acc + s.length ≤ 1000000 → 0 ≤ sumW acc s ∧ sumW acc s ≤ acc + s.length
 | [], acc, _, h0, _ => by simp only [sumW, List.length_nil]; omega
 | y :: s, acc, h, h0, h1 => by
  have hy := h y List.mem_cons_self
  simp only [List.length_cons, Int.natCast_add, Int.natCast_one] at h1 ⊢
  have := sumW_le s (acc + y) (fun z hz => h z (List.mem_cons_of_mem _ hz)) (by omega) (by omega)
  simp only [sumW]
  rw [show wrap64 (acc + y) = acc + y from wrap_id (by omega) (by omega)]
  omega
theorem hits_sum {l : List (List Int)} {x : List Int} {p a b n : Int} (h : askedB l x p a b n = true) : 0 ≤ sumW 0 (hitListA l x p a b n).1 ∧ sumW 0 (hitListA l x p a b n).1 ≤ 100 := by
 obtain ⟨_, _, _, _, _, hn0, hn1, _⟩ := asked_ends h
 have hc := (chipsA_is h).1
 have hl := chips_len hc
 have h1 := chips_01 hc (by simp)
 have e : (hitListA l x p a b n).1 = (chipsA l x p a b n).1 := by unfold hitListA; rw [if_pos h]
 rw [e]
 simp at hl
 have := sumW_le _ 0 h1 (by omega) (by omega)
 omega
theorem ratV_scale {x d g : Int} (hd : 0 < d) (hg : 0 < g) : ratV (x * g) (d * g) = ratV x d := by
 have hp : 0 < Nat.gcd x.natAbs d.natAbs := Nat.gcd_pos_of_pos_right _ (by omega)
 unfold ratV
 rw [Int.natAbs_mul, Int.natAbs_mul, Nat.gcd_mul_right, Int.natCast_mul, show ((g.natAbs : Nat) : Int) = g by omega]
 rw [Int.mul_tdiv_mul_of_pos_left _ _ hg, Int.mul_tdiv_mul_of_pos_left _ _ hg]
def gapV (s n c d : Int) : Int := (((s * d - n * c).natAbs : Nat) : Int)
theorem mul_bound {s d : Int} (h0 : 0 ≤ s) (h1 : s ≤ 100) (hd : d.natAbs ≤ 11250000) : (s * d).natAbs ≤ 1125000000 := by
 rw [Int.natAbs_mul]
 exact Nat.mul_le_mul (show s.natAbs ≤ 100 by omega) hd
theorem gap_bound {s n c d : Int} (h0 : 0 ≤ s) (h1 : s ≤ 100) (n0 : 0 ≤ n) (n1 : n ≤ 100) (hc : c.natAbs ≤ 11250000) (hd : d.natAbs ≤ 11250000) : wrap64 (wrap64 (s * d) - wrap64 (n * c)) = s * d - n * c ∧ (s * d - n * c).natAbs ≤ 2250000000 := by
 have h2 := mul_bound h0 h1 hd
 have h3 := mul_bound n0 n1 hc
 generalize s * d = x at *
 generalize n * c = y at *
 rw [show wrap64 x = x from wrap_id (by omega) (by omega), show wrap64 y = y from wrap_id (by omega) (by omega), show wrap64 (x - y) = x - y from wrap_id (by omega) (by omega)]
 exact ⟨rfl, by omega⟩
noncomputable def gapA (l : List (List Int)) (x : List Int) (p a b n : Int) : Int × Int := if askedB l x p a b n = true then ratV (gapV (sumW 0 (hitListA l x p a b n).1) n (rd (chL l a b) p) (denOf l a b)) (denOf l a b) else (0, 0)
theorem asked_good {l : List (List Int)} {x : List Int} {p a b n : Int} (h : askedB l x p a b n = true) : goodB l a b = true := by
 unfold askedB at h
 simp only [Bool.and_eq_true] at h
 exact h.1.1
theorem gap_scaled {s n c d : Int} (hd : 0 < d) : ratV (gapV s n (ratV c d).1 (ratV c d).2) (ratV c d).2 = ratV (gapV s n c d) d := by
 obtain ⟨g, g0, e1, e2, _, hp⟩ := gcd_facts (x := c) hd
 have e : gapV s n c d = gapV s n (ratV c d).1 (ratV c d).2 * g := by
  unfold gapV
  have : s * d - n * c = (s * (ratV c d).2 - n * (ratV c d).1) * g := by
   rw [Int.sub_mul, Int.mul_assoc, Int.mul_assoc, e1, e2]
  rw [this, Int.natAbs_mul, Int.natCast_mul, show ((g.natAbs : Nat) : Int) = g by omega]
 rw [e]
 rw [show ratV (gapV s n (ratV c d).1 (ratV c d).2 * g) d = ratV (gapV s n (ratV c d).1 (ratV c d).2 * g) ((ratV c d).2 * g) by rw [e2]]
 exact (ratV_scale hp g0).symm
theorem rat_small {c d : Int} (hc : c.natAbs ≤ 11250000) (hd : 0 < d) (hd2 : d ≤ 11250000) : (ratV c d).1.natAbs ≤ 11250000 ∧ (ratV c d).2 ≤ 11250000 := by
 obtain ⟨g, g0, e1, e2, _, hp⟩ := gcd_facts (x := c) hd
 have h1 : (ratV c d).1.natAbs * g.natAbs = c.natAbs := by rw [← Int.natAbs_mul, e1]
 have h2 : (ratV c d).1.natAbs * 1 ≤ (ratV c d).1.natAbs * g.natAbs := Nat.mul_le_mul_left _ (by omega)
 have h3 : (ratV c d).2 * 1 ≤ (ratV c d).2 * g := Int.mul_le_mul_of_nonneg_left (by omega) (by omega)
 omega
theorem spec_gap_f (l : List (List Int)) (x : List Int) (p a b n : Int) : ∃ k, GT.spec_HitGap.f k l x p a b n = some ((gapA l x p a b n).1, (gapA l x p a b n).2, askedB l x p a b n) := by
 cases h : askedB l x p a b n with
 | false =>
  refine ⟨400, ?_⟩
  unfold GT.spec_HitGap.f gapA
  rw [asked_eq l x p a b n 400 (Nat.le_refl _), h]
  rfl
 | true =>
  obtain ⟨K, hK⟩ := hiRun_f h
  have hf := hitListA_fits l x p a b n
  have hg := asked_good h
  have hv := vals_of hg
  have hd0 := hv.d0
  have hd1 := hv.d1
  obtain ⟨_, p0, p1, _, _, n0, n1, _⟩ := asked_ends h
  obtain ⟨s0, s1⟩ := hits_sum h
  have hcp := hv.bnd p p0 p1
  obtain ⟨r1, r2⟩ := rat_small hcp hd0 hd1
  obtain ⟨_, _, _, _, _, hp⟩ := gcd_facts (x := rd (chL l a b) p) hd0
  refine ⟨K + 200000000 + (hitListA l x p a b n).1.length + 1, ?_⟩
  obtain ⟨y, hy, hR⟩ := hiChances_f hg (K + 200000000 + (hitListA l x p a b n).1.length + 1) (by omega)
  have hyl := hR.len
  have hyp := ratK_at hg hR p0 p1
  have e : (chipsA l x p a b n).1 = (hitListA l x p a b n).1 := by unfold hitListA; rw [if_pos h]
  obtain ⟨g1, g2⟩ := gap_bound s0 s1 n0 n1 r1 (show (ratV (rd (chL l a b) p) (denOf l a b)).2.natAbs ≤ 11250000 by omega)
  have ho : gapA l x p a b n = ratV (gapV (sumW 0 (hitListA l x p a b n).1) n (rd (chL l a b) p) (denOf l a b)) (denOf l a b) := by unfold gapA; rw [if_pos h]
  unfold GT.spec_HitGap.f
  rw [asked_eq l x p a b n _ (by omega), h, Option.bind_some, if_pos rfl, hy, Option.bind_some, if_pos p0, if_pos (by omega), hK _ (by omega), Option.bind_some, hyp]
  show ((GQ.spec_hiSum.f _ (chipsA l x p a b n).1).bind _) = _
  rw [e, spec_sum_f _ hf _ (by omega), Option.bind_some]
  show ((spec_l1Abs.f (wrap64 (wrap64 (sumW 0 (hitListA l x p a b n).1 * (ratV (rd (chL l a b) p) (denOf l a b)).2) - wrap64 (n * (ratV (rd (chL l a b) p) (denOf l a b)).1)))).bind _) = _
  rw [g1, abs_f (by omega), Option.bind_some]
  show ((spec_hiRatio.f _ (gapV (sumW 0 (hitListA l x p a b n).1) n (ratV (rd (chL l a b) p) (denOf l a b)).1 (ratV (rd (chL l a b) p) (denOf l a b)).2) (ratV (rd (chL l a b) p) (denOf l a b)).2).bind _) = _
  rw [spec_ratio (by unfold gapV; omega) hp (by omega) _ (by omega), Option.bind_some, gap_scaled hd0, ho]
theorem impl_gap_f (l : List (List Int)) (x : List Int) (p a b n : Int) : ∃ k, GV.impl_HitGap.f k l x p a b n = some ((gapA l x p a b n).1, (gapA l x p a b n).2, askedB l x p a b n) := by
 cases h : askedB l x p a b n with
 | false =>
  refine ⟨400, ?_⟩
  unfold GV.impl_HitGap.f impl_hits.f gapA
  rw [Option.bind_some, h]
  rfl
 | true =>
  have hf := hitListA_fits l x p a b n
  have hg := asked_good h
  have hv := vals_of hg
  have hd0 := hv.d0
  have hd1 := hv.d1
  have hlen := hv.len
  obtain ⟨_, p0, p1, _, _, n0, n1, _⟩ := asked_ends h
  obtain ⟨s0, s1⟩ := hits_sum h
  have hcp := hv.bnd p p0 p1
  refine ⟨200000000 + (hitListA l x p a b n).1.length + 1, ?_⟩
  obtain ⟨g1, g2⟩ := gap_bound s0 s1 n0 n1 hcp (show (denOf l a b).natAbs ≤ 11250000 by omega)
  have ho : gapA l x p a b n = ratV (gapV (sumW 0 (hitListA l x p a b n).1) n (rd (chL l a b) p) (denOf l a b)) (denOf l a b) := by unfold gapA; rw [if_pos h]
  have hch : impl_chances.f l a b = some (chL l a b, denOf l a b) := by unfold impl_chances.f; rw [if_pos hg]
  unfold GV.impl_HitGap.f impl_hits.f
  rw [Option.bind_some]
  show (if askedB l x p a b n = true then _ else _) = _
  rw [h, if_pos rfl, hch, Option.bind_some]
  show ((GU.impl_sum.f _ (hitListA l x p a b n).1).bind _) = _
  rw [impl_sum_f _ hf _ (by omega), Option.bind_some, if_pos p0]
  show (if p < ((chL l a b).length : Int) then _ else _) = _
  rw [if_pos (by omega)]
  show ((GV.impl_size.f (wrap64 (wrap64 (sumW 0 (hitListA l x p a b n).1 * denOf l a b) - wrap64 (n * rd (chL l a b) p)))).bind _) = _
  rw [g1, size_f (by omega), Option.bind_some]
  show ((GV.impl_size.f (denOf l a b)).bind _) = _
  rw [size_f (by omega), Option.bind_some, show (((denOf l a b).natAbs : Nat) : Int) = denOf l a b by omega]
  rw [impl_ratio_f (by omega) hd0 (by omega) _ (by omega), Option.bind_some, ho]
  rfl
end Go.Proofs.Ytnbnalbomflafaa.DT
namespace Go.Proofs.Ytnbnalbomflafaa.RA
open Go.RowKit YtnbnalbomflafaaW.PrintWords YtnbnalbomflafaaW.PrintLast YtnbnalbomflafaaW.PrintMore
open DT
theorem spec_HitGap_c (l : List (List Int)) (x : List Int) (p a b n : Int) (W : World) (v u : Value) (hv : RowsC W v l) (hu : ListC W u x) : Calls Try.prog 51 #[.agg #[v], u, .int .i64 p, .int .i64 a, .int .i64 b, .int .i64 n] W (RatC W (gapA l x p a b n) (askedB l x p a b n)) := by
 obtain ⟨k, hk⟩ := spec_gap_f l x p a b n
 obtain ⟨A, c, rfl, hc, hC⟩ := hv
 obtain ⟨A1, c1, rfl, hc1, hC1⟩ := hu
 exact GT.spec_HitGap.calls k A c l A1 c1 x p a b n _ _ _ W hC hc hC1 hc1 hk
theorem impl_HitGap_c (l : List (List Int)) (x : List Int) (p a b n : Int) (W : World) (v u : Value) (hv : RowsC W v l) (hu : ListC W u x) : Calls Try.prog 52 #[.agg #[v], u, .int .i64 p, .int .i64 a, .int .i64 b, .int .i64 n] W (RatC W (gapA l x p a b n) (askedB l x p a b n)) := by
 obtain ⟨k, hk⟩ := impl_gap_f l x p a b n
 obtain ⟨A, c, rfl, hc, hC⟩ := hv
 obtain ⟨A1, c1, rfl, hc1, hC1⟩ := hu
 exact GV.impl_HitGap.calls k A c l A1 c1 x p a b n _ _ _ W hC hc hC1 hc1 hk
end Go.Proofs.Ytnbnalbomflafaa.RA
namespace Go.Proofs.Ytnbnalbomflafaa.RA
open Go.RowKit YtnbnalbomflafaaW.PrintWords YtnbnalbomflafaaW.PrintLast YtnbnalbomflafaaW.PrintMore
open DT
def T13_13 : Bool × List (List Nat × List Nat) := (true, [([], []), ([], []), ([1], [1]), ([0, 2, 2], [0, 2]), ([3], [3])])
def B13_13 : List Nat := [0, 0, 2, 7, 15]
theorem tabT13_13 : rtab .any (opsOf Try.f13 13) = T13_13 := by kernel_rfl
theorem bitsB13_13 : waitsOk T13_13.2 B13_13 = true := by kernel_rfl
set_option maxHeartbeats 4000000 in
set_option maxRecDepth 100000 in
theorem law_HitGap.walk (v0 : Value) (l0 : List (List Int)) (A_v1 : Option Addr) (c_v1 : Nat) (l1 : List Int) (a2 : Int) (a3 : Int) (a4 : Int) (a5 : Int) (w : World) (hv0 : RowsC w v0 l0) (hv1 : ListC w (.slice A_v1 l1.length c_v1) l1)  : Calls Try.prog 13 #[.agg #[v0], (.slice A_v1 l1.length c_v1), .int .i64 a2, .int .i64 a3, .int .i64 a4, .int .i64 a5] w fun e w' => e = .returned (.bool true) ∧ Below w.heap.size w w' := by
 have HS0 := Aside0.mk hv0
 have HS1 := Aside0.mk hv1
 clear hv0 hv1
 by_cases hl1 : (l1.length : Int) > 1048576
 ·go_enter Try.func13, Try.ntmps13
  go_upto_region 1 with (fail)
  have HBw : Aside0 (Below w.heap.size w (w.alloc (.cells #[v0] 24))) := ⟨(Below.refl w.heap.size w).alloc (by simp) _⟩
  have hzb : w.heap.size + 1 ≤ (w.alloc (.cells #[v0] 24)).heap.size := by simp
  have cx_0 : (w.alloc (.cells #[v0] 24)).cell? ⟨w.heap.size, 0, none⟩ = some v0 := box_10 w v0 24
  generalize (w.alloc (.cells #[v0] 24)) = Wb at *
  go_wp2_with (fail)
  go_ret
  exact ⟨by first | rfl | trivial, HBw.out⟩
 have hs1 : SmallL l1 := by unfold SmallL; omega
 obtain ⟨z0, hz0⟩ : ∃ z, z = szZ l0 1048576 := ⟨_, rfl⟩
 rcases szZ_is l0 1048576 (by omega) with hq0 | ⟨hp0, hr0, hs0⟩
 ·rw [← hz0] at hq0
  have hn0 : z0 < 0 := by omega
  replace hz0 := Aside0.mk hz0
  go_enter Try.func13, Try.ntmps13
  have HZ0 := Aside0.mk hz0.out
  go_upto_region 1 with (fail)
  have HBw : Aside0 (Below w.heap.size w (w.alloc (.cells #[v0] 24))) := ⟨(Below.refl w.heap.size w).alloc (by simp) _⟩
  have hzb : w.heap.size + 1 ≤ (w.alloc (.cells #[v0] 24)).heap.size := by simp
  have cx_0 : (w.alloc (.cells #[v0] 24)).cell? ⟨w.heap.size, 0, none⟩ = some v0 := box_10 w v0 24
  generalize (w.alloc (.cells #[v0] 24)) = Wb at *
  go_wp2_with (first | (go_at_call 19; refine (szG_c _ v0 l0 (HS0.out.below HBw.out) 1048576 (by omega)).mono ?_; rintro e W1 ⟨rfl, hB1⟩; rw [← HZ0.out]; have hz2 := hB1.size; have HB3 : Aside0 (Below w.heap.size w W1) := ⟨HBw.out.trans (hB1.mono (by omega))⟩; have HB4 : Aside0 (Below w.heap.size w W1) := ⟨HBw.out.trans (hB1.mono (by omega))⟩; have cx5 : W1.cell? ⟨w.heap.size, 0, none⟩ = some v0 := (hB1.cell (p := ⟨w.heap.size, 0, none⟩) (show w.heap.size < Wb.heap.size by omega)).trans cx_0; clear cx_0; clear HBw; clear hB1))
  go_ret
  exact ⟨by first | rfl | trivial, HB3.out⟩
 ·rw [← hz0] at hp0 hr0
  have hg0 : ¬ (z0 < 0) := by omega
  have HM : Aside0 (Small l0 ∧ SmallL l1) := ⟨hs0, hs1⟩
  have ht0 : 0 ≤ tot l0 ∧ tot l0 ≤ 1048576 := ⟨tot_pos _, HM.out.1.2.1⟩
  have ht1 : 0 ≤ (l1.length : Int) ∧ (l1.length : Int) ≤ 1048576 := ⟨by omega, HM.out.2⟩
  have hk : ¬ (1 + tot l0 + (l1.length : Int) < 0) := by omega
  have HK0 : Aside0 (0 ≤ 1 + tot l0 ∧ 1 + tot l0 ≤ 100000000) := ⟨by omega⟩
  have HK1 : Aside0 (0 ≤ 1 + tot l0 + (l1.length : Int) ∧ 1 + tot l0 + (l1.length : Int) ≤ 100000000) := ⟨by omega⟩
  clear ht0 ht1
  obtain ⟨R, hR⟩ : ∃ R, R = gapA l0 l1 a2 a3 a4 a5 := ⟨_, rfl⟩
  obtain ⟨ok, hok⟩ : ∃ ok, ok = askedB l0 l1 a2 a3 a4 a5 := ⟨_, rfl⟩
  have spec0 := fun W v u hv hu => spec_HitGap_c l0 l1 a2 a3 a4 a5 W v u hv hu
  have impl0 := fun W v u hv hu => impl_HitGap_c l0 l1 a2 a3 a4 a5 W v u hv hu
  rw [← hR, ← hok] at spec0 impl0
  have SP := Aside0.mk spec0
  have IM := Aside0.mk impl0
  clear hR hok spec0 impl0
  have HZ0 := Aside0.mk hz0
  clear hz0
  clear hs0 hs1
  go_enter Try.func13, Try.ntmps13
  go_upto_region 1 with (fail)
  have HBw : Aside0 (Below w.heap.size w (w.alloc (.cells #[v0] 24))) := ⟨(Below.refl w.heap.size w).alloc (by simp) _⟩
  have hzb : w.heap.size + 1 ≤ (w.alloc (.cells #[v0] 24)).heap.size := by simp
  have cx_0 : (w.alloc (.cells #[v0] 24)).cell? ⟨w.heap.size, 0, none⟩ = some v0 := box_10 w v0 24
  generalize (w.alloc (.cells #[v0] 24)) = Wb at *
  go_upto_region 7 with (first | (go_at_call 19; refine (szG_c _ v0 l0 (HS0.out.below HBw.out) 1048576 (by omega)).mono ?_; rintro e W1 ⟨rfl, hB6⟩; rw [← HZ0.out]; have hz7 := hB6.size; have HB8 : Aside0 (Below w.heap.size w W1) := ⟨HBw.out.trans (hB6.mono (by omega))⟩; have HB9 : Aside0 (Below w.heap.size w W1) := ⟨HBw.out.trans (hB6.mono (by omega))⟩; have cx10 : W1.cell? ⟨w.heap.size, 0, none⟩ = some v0 := (hB6.cell (p := ⟨w.heap.size, 0, none⟩) (show w.heap.size < Wb.heap.size by omega)).trans cx_0; clear cx_0; clear HBw; clear hB6))
  clear HZ0
  go_upto_region 8 with (first | (go_at_call 21; refine (toG_c _ v0 l0 (HS0.out.below HB8.out) HM.out.1).mono ?_; rintro e W2 ⟨v11, rfl, hB12, hD13⟩; have hz14 := hB12.size; have HB15 : Aside0 (Below w.heap.size w W2) := ⟨HB8.out.trans (hB12.mono (by omega))⟩; have HB16 : Aside0 (Below w.heap.size w W2) := ⟨HB9.out.trans (hB12.mono (by omega))⟩; have cx17 : W2.cell? ⟨w.heap.size, 0, none⟩ = some v0 := (hB12.cell (p := ⟨w.heap.size, 0, none⟩) (show w.heap.size < W1.heap.size by omega)).trans cx10; clear cx10; clear HB8 HB9; have HD18 := Aside0.mk hD13.out.toU; clear hD13) | (go_at_call 28; refine (toL_c _ (.slice A_v1 l1.length c_v1) l1 (HS1.out.below HB16.out) HM.out.2).mono ?_; rintro e W3 ⟨v19, rfl, hB20, hD21⟩; have hz22 := hB20.size; have HB23 : Aside0 (Below w.heap.size w W3) := ⟨HB15.out.trans (hB20.mono (by omega))⟩; have HB24 : Aside0 (Below w.heap.size w W3) := ⟨HB16.out.trans (hB20.mono (by omega))⟩; have HD25 := Aside0.mk (HD18.out.below (by omega) hB20); have cx26 : W3.cell? ⟨w.heap.size, 0, none⟩ = some v0 := (hB20.cell (p := ⟨w.heap.size, 0, none⟩) (show w.heap.size < W2.heap.size by omega)).trans cx17; clear cx17; clear HB15 HB16 HD18; have HD27 := Aside0.mk hD21.out.toU; clear hD21) | (go_at_call 51; refine (SP.out _ v11 v19 HD25.out.reads HD27.out.reads).mono ?_; rintro e W4 ⟨rfl, hB28⟩; have hz29 := hB28.size; have HB30 : Aside0 (Below w.heap.size w W4) := ⟨HB23.out.trans (hB28.mono (by omega))⟩; have HB31 : Aside0 (Below w.heap.size w W4) := ⟨HB24.out.trans (hB28.mono (by omega))⟩; have HD32 := Aside0.mk (HD25.out.below (by omega) hB28); have HD33 := Aside0.mk (HD27.out.below (by omega) hB28); have cx34 : W4.cell? ⟨w.heap.size, 0, none⟩ = some v0 := (hB28.cell (p := ⟨w.heap.size, 0, none⟩) (show w.heap.size < W3.heap.size by omega)).trans cx26; clear cx26; clear HB23 HB24 HD25 HD27; clear hB28))
  have hB35 : Below W4.heap.size W4 (W4.alloc (.cells #[.int .i64 R.1, .int .i64 R.2] 27)) := (Below.refl _ _).alloc (Nat.le_refl _) _
  have cx36 : (W4.alloc (.cells #[.int .i64 R.1, .int .i64 R.2] 27)).cell? ⟨W4.heap.size, 0, none⟩ = some (.int .i64 R.1) := (blk_cell (blk_new _ _) 0).trans rfl
  have cx37 : (W4.alloc (.cells #[.int .i64 R.1, .int .i64 R.2] 27)).cell? ⟨W4.heap.size, 1, none⟩ = some (.int .i64 R.2) := (blk_cell (blk_new _ _) 1).trans rfl
  have hz38 : W4.heap.size < (W4.alloc (.cells #[.int .i64 R.1, .int .i64 R.2] 27)).heap.size := by simp
  generalize (W4.alloc (.cells #[.int .i64 R.1, .int .i64 R.2] 27)) = W5 at *
  have hz39 := hB35.size
  have HB40 : Aside0 (Below w.heap.size w W5) := ⟨HB30.out.trans (hB35.mono (by omega))⟩
  have HB41 : Aside0 (Below w.heap.size w W5) := ⟨HB31.out.trans (hB35.mono (by omega))⟩
  have HD42 := Aside0.mk (HD32.out.below (by omega) hB35)
  have HD43 := Aside0.mk (HD33.out.below (by omega) hB35)
  have cx44 : W5.cell? ⟨w.heap.size, 0, none⟩ = some v0 := (hB35.cell (p := ⟨w.heap.size, 0, none⟩) (show w.heap.size < W4.heap.size by omega)).trans cx34
  clear cx34
  clear HB30 HB31 HD32 HD33
  clear HD42
  clear HD43
  go_upto_region 9 with (first | (go_at_call 21; refine (toG_c _ v0 l0 (HS0.out.below HB40.out) HM.out.1).mono ?_; rintro e W6 ⟨v45, rfl, hB46, hD47⟩; obtain ⟨A48, c49, hv_, _⟩ := hD47.out.slice; subst hv_; have hz50 := hB46.size; have HB51 : Aside0 (Below w.heap.size w W6) := ⟨HB40.out.trans (hB46.mono (by omega))⟩; have HB52 : Aside0 (Below w.heap.size w W6) := ⟨HB41.out.trans (hB46.mono (by omega))⟩; have cx53 : W6.cell? ⟨w.heap.size, 0, none⟩ = some v0 := (hB46.cell (p := ⟨w.heap.size, 0, none⟩) (show w.heap.size < W5.heap.size by omega)).trans cx44; have cx54 : W6.cell? ⟨W4.heap.size, 0, none⟩ = some (.int .i64 R.1) := (hB46.cell (p := ⟨W4.heap.size, 0, none⟩) (show W4.heap.size < W5.heap.size by omega)).trans cx36; have cx55 : W6.cell? ⟨W4.heap.size, 1, none⟩ = some (.int .i64 R.2) := (hB46.cell (p := ⟨W4.heap.size, 1, none⟩) (show W4.heap.size < W5.heap.size by omega)).trans cx37; clear cx44 cx36 cx37; clear HB40 HB41; have HD56 := Aside0.mk hD47.out.toU; clear hD47))
  have hB57 : Below W6.heap.size W6 (W6.alloc (.cells #[(.slice A48 l0.length c49)] 30)) := (Below.refl _ _).alloc (Nat.le_refl _) _
  have cx58 : (W6.alloc (.cells #[(.slice A48 l0.length c49)] 30)).cell? ⟨W6.heap.size, 0, none⟩ = some (.slice A48 l0.length c49) := (blk_cell (blk_new _ _) 0).trans rfl
  have hz59 : W6.heap.size < (W6.alloc (.cells #[(.slice A48 l0.length c49)] 30)).heap.size := by simp
  generalize (W6.alloc (.cells #[(.slice A48 l0.length c49)] 30)) = W7 at *
  have hz60 := hB57.size
  have HB61 : Aside0 (Below w.heap.size w W7) := ⟨HB51.out.trans (hB57.mono (by omega))⟩
  have HB62 : Aside0 (Below w.heap.size w W7) := ⟨HB52.out.trans (hB57.mono (by omega))⟩
  have HD63 := Aside0.mk (HD56.out.below (by omega) hB57)
  have cx64 : W7.cell? ⟨w.heap.size, 0, none⟩ = some v0 := (hB57.cell (p := ⟨w.heap.size, 0, none⟩) (show w.heap.size < W6.heap.size by omega)).trans cx53
  have cx65 : W7.cell? ⟨W4.heap.size, 0, none⟩ = some (.int .i64 R.1) := (hB57.cell (p := ⟨W4.heap.size, 0, none⟩) (show W4.heap.size < W6.heap.size by omega)).trans cx54
  have cx66 : W7.cell? ⟨W4.heap.size, 1, none⟩ = some (.int .i64 R.2) := (hB57.cell (p := ⟨W4.heap.size, 1, none⟩) (show W4.heap.size < W6.heap.size by omega)).trans cx55
  clear cx53 cx54 cx55
  clear HB51 HB52 HD56
  go_upto_region 10 with (first | (go_at_call 28; refine (toL_c _ (.slice A_v1 l1.length c_v1) l1 (HS1.out.below HB62.out) HM.out.2).mono ?_; rintro e W8 ⟨v67, rfl, hB68, hD69⟩; have hz70 := hB68.size; have HB71 : Aside0 (Below w.heap.size w W8) := ⟨HB61.out.trans (hB68.mono (by omega))⟩; have HB72 : Aside0 (Below w.heap.size w W8) := ⟨HB62.out.trans (hB68.mono (by omega))⟩; have HD73 := Aside0.mk (HD63.out.below (by omega) hB68); have cx74 : W8.cell? ⟨w.heap.size, 0, none⟩ = some v0 := (hB68.cell (p := ⟨w.heap.size, 0, none⟩) (show w.heap.size < W7.heap.size by omega)).trans cx64; have cx75 : W8.cell? ⟨W4.heap.size, 0, none⟩ = some (.int .i64 R.1) := (hB68.cell (p := ⟨W4.heap.size, 0, none⟩) (show W4.heap.size < W7.heap.size by omega)).trans cx65; have cx76 : W8.cell? ⟨W4.heap.size, 1, none⟩ = some (.int .i64 R.2) := (hB68.cell (p := ⟨W4.heap.size, 1, none⟩) (show W4.heap.size < W7.heap.size by omega)).trans cx66; have cx77 : W8.cell? ⟨W6.heap.size, 0, none⟩ = some (.slice A48 l0.length c49) := (hB68.cell (p := ⟨W6.heap.size, 0, none⟩) (show W6.heap.size < W7.heap.size by omega)).trans cx58; clear cx64 cx65 cx66 cx58; clear HB61 HB62 HD63; have HD78 := Aside0.mk hD69.out.toU; clear hD69))
  go_upto_region 11 with (first | (go_at_call 52; refine (IM.out _ (.slice A48 l0.length c49) v67 HD73.out.reads HD78.out.reads).mono ?_; rintro e W9 ⟨rfl, hB79⟩; have hz80 := hB79.size; have HB81 : Aside0 (Below w.heap.size w W9) := ⟨HB71.out.trans (hB79.mono (by omega))⟩; have HB82 : Aside0 (Below w.heap.size w W9) := ⟨HB72.out.trans (hB79.mono (by omega))⟩; have HD83 := Aside0.mk (HD73.out.below (by omega) hB79); have HD84 := Aside0.mk (HD78.out.below (by omega) hB79); have cx85 : W9.cell? ⟨w.heap.size, 0, none⟩ = some v0 := (hB79.cell (p := ⟨w.heap.size, 0, none⟩) (show w.heap.size < W8.heap.size by omega)).trans cx74; have cx86 : W9.cell? ⟨W4.heap.size, 0, none⟩ = some (.int .i64 R.1) := (hB79.cell (p := ⟨W4.heap.size, 0, none⟩) (show W4.heap.size < W8.heap.size by omega)).trans cx75; have cx87 : W9.cell? ⟨W4.heap.size, 1, none⟩ = some (.int .i64 R.2) := (hB79.cell (p := ⟨W4.heap.size, 1, none⟩) (show W4.heap.size < W8.heap.size by omega)).trans cx76; have cx88 : W9.cell? ⟨W6.heap.size, 0, none⟩ = some (.slice A48 l0.length c49) := (hB79.cell (p := ⟨W6.heap.size, 0, none⟩) (show W6.heap.size < W8.heap.size by omega)).trans cx77; clear cx74 cx75 cx76 cx77; clear HB71 HB72 HD73 HD78; clear hB79))
  have hB89 : Below W9.heap.size W9 (W9.alloc (.cells #[.int .i64 R.1, .int .i64 R.2] 27)) := (Below.refl _ _).alloc (Nat.le_refl _) _
  have cx90 : (W9.alloc (.cells #[.int .i64 R.1, .int .i64 R.2] 27)).cell? ⟨W9.heap.size, 0, none⟩ = some (.int .i64 R.1) := (blk_cell (blk_new _ _) 0).trans rfl
  have cx91 : (W9.alloc (.cells #[.int .i64 R.1, .int .i64 R.2] 27)).cell? ⟨W9.heap.size, 1, none⟩ = some (.int .i64 R.2) := (blk_cell (blk_new _ _) 1).trans rfl
  have hz92 : W9.heap.size < (W9.alloc (.cells #[.int .i64 R.1, .int .i64 R.2] 27)).heap.size := by simp
  generalize (W9.alloc (.cells #[.int .i64 R.1, .int .i64 R.2] 27)) = W10 at *
  have hz93 := hB89.size
  have HB94 : Aside0 (Below w.heap.size w W10) := ⟨HB81.out.trans (hB89.mono (by omega))⟩
  have HB95 : Aside0 (Below w.heap.size w W10) := ⟨HB82.out.trans (hB89.mono (by omega))⟩
  have HD96 := Aside0.mk (HD83.out.below (by omega) hB89)
  have HD97 := Aside0.mk (HD84.out.below (by omega) hB89)
  have cx98 : W10.cell? ⟨w.heap.size, 0, none⟩ = some v0 := (hB89.cell (p := ⟨w.heap.size, 0, none⟩) (show w.heap.size < W9.heap.size by omega)).trans cx85
  have cx99 : W10.cell? ⟨W4.heap.size, 0, none⟩ = some (.int .i64 R.1) := (hB89.cell (p := ⟨W4.heap.size, 0, none⟩) (show W4.heap.size < W9.heap.size by omega)).trans cx86
  have cx100 : W10.cell? ⟨W4.heap.size, 1, none⟩ = some (.int .i64 R.2) := (hB89.cell (p := ⟨W4.heap.size, 1, none⟩) (show W4.heap.size < W9.heap.size by omega)).trans cx87
  have cx101 : W10.cell? ⟨W6.heap.size, 0, none⟩ = some (.slice A48 l0.length c49) := (hB89.cell (p := ⟨W6.heap.size, 0, none⟩) (show W6.heap.size < W9.heap.size by omega)).trans cx88
  clear cx85 cx86 cx87 cx88
  clear HB81 HB82 HD83 HD84
  go_upto_region 13 with (first | (go_at_call 23; refine (eqRat_c _ R.1 R.2).mono ?_; rintro e W11 ⟨rfl, hB102⟩; have hz103 := hB102.size; have HB104 : Aside0 (Below w.heap.size w W11) := ⟨HB94.out.trans (hB102.mono (by omega))⟩; have HB105 : Aside0 (Below w.heap.size w W11) := ⟨HB95.out.trans (hB102.mono (by omega))⟩; have HD106 := Aside0.mk (HD96.out.below (by omega) hB102); have HD107 := Aside0.mk (HD97.out.below (by omega) hB102); have cx108 : W11.cell? ⟨w.heap.size, 0, none⟩ = some v0 := (hB102.cell (p := ⟨w.heap.size, 0, none⟩) (show w.heap.size < W10.heap.size by omega)).trans cx98; have cx109 : W11.cell? ⟨W4.heap.size, 0, none⟩ = some (.int .i64 R.1) := (hB102.cell (p := ⟨W4.heap.size, 0, none⟩) (show W4.heap.size < W10.heap.size by omega)).trans cx99; have cx110 : W11.cell? ⟨W4.heap.size, 1, none⟩ = some (.int .i64 R.2) := (hB102.cell (p := ⟨W4.heap.size, 1, none⟩) (show W4.heap.size < W10.heap.size by omega)).trans cx100; have cx111 : W11.cell? ⟨W6.heap.size, 0, none⟩ = some (.slice A48 l0.length c49) := (hB102.cell (p := ⟨W6.heap.size, 0, none⟩) (show W6.heap.size < W10.heap.size by omega)).trans cx101; have cx112 : W11.cell? ⟨W9.heap.size, 0, none⟩ = some (.int .i64 R.1) := (hB102.cell (p := ⟨W9.heap.size, 0, none⟩) (show W9.heap.size < W10.heap.size by omega)).trans cx90; have cx113 : W11.cell? ⟨W9.heap.size, 1, none⟩ = some (.int .i64 R.2) := (hB102.cell (p := ⟨W9.heap.size, 1, none⟩) (show W9.heap.size < W10.heap.size by omega)).trans cx91; clear cx98 cx99 cx100 cx101 cx90 cx91; clear HB94 HB95 HD96 HD97; clear hB102))
  go_upto_region 13 with (fail)
  have HB114 : Aside0 (Below w.heap.size w W11.drew) := ⟨bN_ HB104.out 1⟩
  have HB115 : Aside0 (Below w.heap.size w W11.drew) := ⟨bN_ HB105.out 1⟩
  have HD116 : Aside0 (RowsU W11.drew W5.heap.size W6.heap.size (.slice A48 l0.length c49) l0) := ⟨HD106.out.drewN 1⟩
  clear HD106
  have HD117 : Aside0 (ListU W11.drew W7.heap.size W8.heap.size v67 l1) := ⟨HD107.out.drewN 1⟩
  clear HD107
  have cx118 : W11.drew.cell? ⟨w.heap.size, 0, none⟩ = some v0 := cx108
  have cx119 : W11.drew.cell? ⟨W4.heap.size, 0, none⟩ = some (.int .i64 R.1) := cx109
  have cx120 : W11.drew.cell? ⟨W4.heap.size, 1, none⟩ = some (.int .i64 R.2) := cx110
  have cx121 : W11.drew.cell? ⟨W6.heap.size, 0, none⟩ = some (.slice A48 l0.length c49) := cx111
  have cx122 : W11.drew.cell? ⟨W9.heap.size, 0, none⟩ = some (.int .i64 R.1) := cx112
  have cx123 : W11.drew.cell? ⟨W9.heap.size, 1, none⟩ = some (.int .i64 R.2) := cx113
  clear cx108 cx109 cx110 cx111 cx112 cx113
  have hz124 : W11.heap.size ≤ W11.drew.heap.size := by simp
  refine start_ (n := 5) (S := fun w' => w'.cell? ⟨w.heap.size, 0, none⟩ = some v0 ∧ w'.cell? ⟨W4.heap.size, 0, none⟩ = some (.int .i64 R.1) ∧ w'.cell? ⟨W4.heap.size, 1, none⟩ = some (.int .i64 R.2) ∧ w'.cell? ⟨W6.heap.size, 0, none⟩ = some (.slice A48 l0.length c49) ∧ w'.cell? ⟨W9.heap.size, 0, none⟩ = some (.int .i64 R.1) ∧ w'.cell? ⟨W9.heap.size, 1, none⟩ = some (.int .i64 R.2)) (ds := []) #[false, false, false, false, false] (by kernel_rfl) rfl rfl ⟨cx118, cx119, cx120, cx121, cx122, cx123⟩ (fun hHeld => ?_)
  refine with_tabW tabT13_13 bitsB13_13 (fun HT_ HW_ => ?_)
  generalize W11.drew = W12 at *
  refine tk_ (i := 0) (N := some 63) (v := ?_) (a' := ?_) HT_.out HW_.out rfl rfl (Or.inl ⟨by rfl, ?_⟩) hHeld ?_ ?_
  rotate_left
  ·rintro w' ⟨s0, s1, s2, s3, s4, s5⟩
   go_simp
   with_reducible rfl
  rotate_left
  ·simp only [sp_]
   rfl
  refine tk_ (i := 1) (N := some 64) (v := ?_) (a' := ?_) HT_.out HW_.out rfl rfl (Or.inl ⟨by rfl, ?_⟩) hHeld ?_ ?_
  rotate_left
  ·rintro w' ⟨s0, s1, s2, s3, s4, s5⟩
   go_simp
   with_reducible rfl
  rotate_left
  ·simp only [sp_]
   rfl
  refine one_ (i := 2) (N := some 65) #[true, true, true, false, false] rfl rfl (one_of HT_.out (by kernel_rfl)) (by decide) (fun K hK => ?_)
  refine goes_ Try.func21 (by kernel_rfl) rfl #[.agg #[v0]] (by rfl) rfl rfl (by (try simp only [List.map_toArray, List.map_cons, List.map_nil]); first | done | rfl) ?_
  (with_reducible refine (toG_c _ v0 l0 (HS0.out.below HB114.out) HM.out.1).mono ?_; rintro e W13 ⟨v125, rfl, hB126, hD127⟩; have hz128 := hB126.size; have HB129 : Aside0 (Below w.heap.size w W13) := ⟨HB114.out.trans (hB126.mono (by omega))⟩; have HB130 : Aside0 (Below w.heap.size w W13) := ⟨HB115.out.trans (hB126.mono (by omega))⟩; have HD131 := Aside0.mk (HD116.out.below (by omega) hB126); have HD132 := Aside0.mk (HD117.out.below (by omega) hB126); have cx133 : W13.cell? ⟨w.heap.size, 0, none⟩ = some v0 := (hB126.cell (p := ⟨w.heap.size, 0, none⟩) (show w.heap.size < W12.heap.size by omega)).trans cx118; have cx134 : W13.cell? ⟨W4.heap.size, 0, none⟩ = some (.int .i64 R.1) := (hB126.cell (p := ⟨W4.heap.size, 0, none⟩) (show W4.heap.size < W12.heap.size by omega)).trans cx119; have cx135 : W13.cell? ⟨W4.heap.size, 1, none⟩ = some (.int .i64 R.2) := (hB126.cell (p := ⟨W4.heap.size, 1, none⟩) (show W4.heap.size < W12.heap.size by omega)).trans cx120; have cx136 : W13.cell? ⟨W6.heap.size, 0, none⟩ = some (.slice A48 l0.length c49) := (hB126.cell (p := ⟨W6.heap.size, 0, none⟩) (show W6.heap.size < W12.heap.size by omega)).trans cx121; have cx137 : W13.cell? ⟨W9.heap.size, 0, none⟩ = some (.int .i64 R.1) := (hB126.cell (p := ⟨W9.heap.size, 0, none⟩) (show W9.heap.size < W12.heap.size by omega)).trans cx122; have cx138 : W13.cell? ⟨W9.heap.size, 1, none⟩ = some (.int .i64 R.2) := (hB126.cell (p := ⟨W9.heap.size, 1, none⟩) (show W9.heap.size < W12.heap.size by omega)).trans cx123; clear cx118 cx119 cx120 cx121 cx122 cx123; clear HB114 HB115 HD116 HD117; have HD139 := Aside0.mk hD127.out.toU; clear hD127)
  refine ⟨_, rfl, ?_⟩
  refine hK.out _ _ ⟨cx133, cx134, cx135, cx136, cx137, cx138⟩ (fun hHeld => ?_)
  clear hK K
  refine norm_ (a' := ?_) ?_ ?_
  rotate_left
  ·show Act.put _ (some 65) _ = _
   simp only [sp_]
   rfl
  refine one_ (i := 3) (N := some 66) #[true, true, true, true, false] rfl rfl (one_of HT_.out (by kernel_rfl)) (by decide) (fun K hK => ?_)
  refine goes_ Try.func24 (by kernel_rfl) rfl #[.agg #[(.slice A48 l0.length c49)], .agg #[v125]] (by rfl) rfl rfl (by (try simp only [List.map_toArray, List.map_cons, List.map_nil]); first | done | rfl) ?_
  (with_reducible refine (eqG_c _ (.slice A48 l0.length c49) v125 l0 HD131.out.reads HD139.out.reads HM.out.1).mono ?_; rintro e W14 ⟨rfl, hB140⟩; have hz141 := hB140.size; have HB142 : Aside0 (Below w.heap.size w W14) := ⟨HB129.out.trans (hB140.mono (by omega))⟩; have HB143 : Aside0 (Below w.heap.size w W14) := ⟨HB130.out.trans (hB140.mono (by omega))⟩; have HD144 := Aside0.mk (HD131.out.below (by omega) hB140); have HD145 := Aside0.mk (HD132.out.below (by omega) hB140); have HD146 := Aside0.mk (HD139.out.below (by omega) hB140); have cx147 : W14.cell? ⟨w.heap.size, 0, none⟩ = some v0 := (hB140.cell (p := ⟨w.heap.size, 0, none⟩) (show w.heap.size < W13.heap.size by omega)).trans cx133; have cx148 : W14.cell? ⟨W4.heap.size, 0, none⟩ = some (.int .i64 R.1) := (hB140.cell (p := ⟨W4.heap.size, 0, none⟩) (show W4.heap.size < W13.heap.size by omega)).trans cx134; have cx149 : W14.cell? ⟨W4.heap.size, 1, none⟩ = some (.int .i64 R.2) := (hB140.cell (p := ⟨W4.heap.size, 1, none⟩) (show W4.heap.size < W13.heap.size by omega)).trans cx135; have cx150 : W14.cell? ⟨W6.heap.size, 0, none⟩ = some (.slice A48 l0.length c49) := (hB140.cell (p := ⟨W6.heap.size, 0, none⟩) (show W6.heap.size < W13.heap.size by omega)).trans cx136; have cx151 : W14.cell? ⟨W9.heap.size, 0, none⟩ = some (.int .i64 R.1) := (hB140.cell (p := ⟨W9.heap.size, 0, none⟩) (show W9.heap.size < W13.heap.size by omega)).trans cx137; have cx152 : W14.cell? ⟨W9.heap.size, 1, none⟩ = some (.int .i64 R.2) := (hB140.cell (p := ⟨W9.heap.size, 1, none⟩) (show W9.heap.size < W13.heap.size by omega)).trans cx138; clear cx133 cx134 cx135 cx136 cx137 cx138; clear HB129 HB130 HD131 HD132 HD139; clear hB140)
  refine ⟨_, rfl, ?_⟩
  refine hK.out _ _ ⟨cx147, cx148, cx149, cx150, cx151, cx152⟩ (fun hHeld => ?_)
  clear hK K
  refine norm_ (a' := ?_) ?_ ?_
  rotate_left
  ·show Act.put _ (some 66) _ = _
   simp only [sp_]
   rfl
  refine pu_ (i := 4) (N := some 67) (v := ?_) (a' := ?_) HT_.out rfl rfl (Or.inl ⟨by rfl, ?_⟩) ?_ ?_
  rotate_left
  ·intro w'
   go_simp
   with_reducible rfl
  rotate_left
  ·simp only [sp_]
   rfl
  refine done_ (done_of HT_.out (by kernel_rfl)) ?_
  clear HT_ HW_ hHeld
  clear HD146
  go_wp2_with (first | (go_at_call 28; refine (toL_c _ (.slice A_v1 l1.length c_v1) l1 (HS1.out.below HB143.out) HM.out.2).mono ?_; rintro e W15 ⟨v153, rfl, hB154, hD155⟩; have hz156 := hB154.size; have HB157 : Aside0 (Below w.heap.size w W15) := ⟨HB142.out.trans (hB154.mono (by omega))⟩; have HB158 : Aside0 (Below w.heap.size w W15) := ⟨HB143.out.trans (hB154.mono (by omega))⟩; have HD159 := Aside0.mk (HD144.out.below (by omega) hB154); have HD160 := Aside0.mk (HD145.out.below (by omega) hB154); have cx161 : W15.cell? ⟨w.heap.size, 0, none⟩ = some v0 := (hB154.cell (p := ⟨w.heap.size, 0, none⟩) (show w.heap.size < W14.heap.size by omega)).trans cx147; have cx162 : W15.cell? ⟨W4.heap.size, 0, none⟩ = some (.int .i64 R.1) := (hB154.cell (p := ⟨W4.heap.size, 0, none⟩) (show W4.heap.size < W14.heap.size by omega)).trans cx148; have cx163 : W15.cell? ⟨W4.heap.size, 1, none⟩ = some (.int .i64 R.2) := (hB154.cell (p := ⟨W4.heap.size, 1, none⟩) (show W4.heap.size < W14.heap.size by omega)).trans cx149; have cx164 : W15.cell? ⟨W6.heap.size, 0, none⟩ = some (.slice A48 l0.length c49) := (hB154.cell (p := ⟨W6.heap.size, 0, none⟩) (show W6.heap.size < W14.heap.size by omega)).trans cx150; have cx165 : W15.cell? ⟨W9.heap.size, 0, none⟩ = some (.int .i64 R.1) := (hB154.cell (p := ⟨W9.heap.size, 0, none⟩) (show W9.heap.size < W14.heap.size by omega)).trans cx151; have cx166 : W15.cell? ⟨W9.heap.size, 1, none⟩ = some (.int .i64 R.2) := (hB154.cell (p := ⟨W9.heap.size, 1, none⟩) (show W9.heap.size < W14.heap.size by omega)).trans cx152; clear cx147 cx148 cx149 cx150 cx151 cx152; clear HB142 HB143 HD144 HD145; have HD167 := Aside0.mk hD155.out.toU; clear hD155) | (go_at_call 30; refine (eqL_c _ v67 v153 l1 HD160.out.reads HD167.out.reads HM.out.2).mono ?_; rintro e w_ ⟨rfl, ⟨nd168, rfl⟩⟩; have HB169 : Aside0 (Below w.heap.size w (W15.drewN nd168)) := ⟨bN_ HB157.out nd168⟩; have HB170 : Aside0 (Below w.heap.size w (W15.drewN nd168)) := ⟨bN_ HB158.out nd168⟩; have HD171 := Aside0.mk (HD159.out.drewN nd168); have HD172 := Aside0.mk (HD160.out.drewN nd168); have HD173 := Aside0.mk (HD167.out.drewN nd168); have cx174 : (W15.drewN nd168).cell? ⟨w.heap.size, 0, none⟩ = some v0 := cx161; have cx175 : (W15.drewN nd168).cell? ⟨W4.heap.size, 0, none⟩ = some (.int .i64 R.1) := cx162; have cx176 : (W15.drewN nd168).cell? ⟨W4.heap.size, 1, none⟩ = some (.int .i64 R.2) := cx163; have cx177 : (W15.drewN nd168).cell? ⟨W6.heap.size, 0, none⟩ = some (.slice A48 l0.length c49) := cx164; have cx178 : (W15.drewN nd168).cell? ⟨W9.heap.size, 0, none⟩ = some (.int .i64 R.1) := cx165; have cx179 : (W15.drewN nd168).cell? ⟨W9.heap.size, 1, none⟩ = some (.int .i64 R.2) := cx166; clear cx161 cx162 cx163 cx164 cx165 cx166; have hz180 : W15.heap.size ≤ (W15.drewN nd168).heap.size := (by simp); clear HB157 HB158 HD159 HD160 HD167; generalize W15.drewN nd168 = W16 at *))
  clear HD173
  go_ret
  exact ⟨by first | rfl | trivial, HB169.out⟩
end Go.Proofs.Ytnbnalbomflafaa.RA
namespace Go.Proofs.Ytnbnalbomflafaa.KR
open Go.RowKit YtnbnalbomflafaaW.PrintWords
open Go.ChangeShapes Go.WideShapes Go.Deep
structure ListIn (W : World) (A : Option Addr) (n c : Nat) (l : List Int) : Prop where
 len : n = l.length
 le : l.length ≤ c
 reads : Kd.C (Kd.int .i64) W A l.length l
 wf : ∀ x ∈ l, (Lit.int .i64 x).wf = true
structure RowsIn (W : World) (A : Option Addr) (n c : Nat) (l : List (List Int)) : Prop where
 len : n = l.length
 le : l.length ≤ c
 reads : Kd.C (Kd.slice 3 (Kd.int .i64)) W A l.length l
 wf : ∀ r ∈ l, ∀ x ∈ r, (Lit.int .i64 x).wf = true
 small : ∀ r ∈ l, r.length ≤ 9223372036854775807
theorem reads_of {W : World} {a' : Option Addr} {n c : Nat} {zs : List Int} (hl : n ≤ c) (hm : c ≤ maxLen) (hz : zs.length = c) (hn : a' = none → c = 0)
  (hc : ∀ ad, a' = some ad → ∀ j, j < c → W.cell? (ad.add j) = some (.int .i64 (zs.getD j 0))) : Kd.C (Kd.int .i64) W a' (zs.take n).length (zs.take n) := by
 have hln : (zs.take n).length = n := by rw [List.length_take]; omega
 rw [hln]
 refine Kd.C_of_reads (d := 0) ⟨hln, by unfold maxLen at hm; omega, fun h0 => ?_⟩
 cases a' with
 | none => have := hn rfl; omega
 | some ad =>
  refine ⟨ad, rfl, fun j hj => ?_⟩
  rw [hc ad rfl j (by omega)]
  simp [List.getD_eq_getElem?_getD, hj]
theorem array1 {α : Type} {cs : Array α} (h : cs.size = 1) : ∃ c0, cs = #[c0] := by
 obtain ⟨l⟩ := cs
 match l, h with
 | [c0], _ => exact ⟨c0, rfl⟩
section
variable {H : Type} {enc : TypeId × Value → H} {W : World} {base : Nat} {held : Bool}
theorem open_list {a : Option Addr} {len cap : Nat} {d : DataW H} {p : List MemPlace} (h : DataW.Trod enc Try.prog W base (fun _ => true) held 37 (.slice a len cap) d p) : ∃ l, ListIn W a len cap l := by
 obtain ⟨fuel, hf⟩ := h
 rcases open_ints Try.underlying37 Try.underlying3 (by kernel_rfl) hf with ⟨hcs, _⟩ | ⟨x, l, c, zs, hcs, _, hl, hm, hz, _, hcell, hwz⟩
 ·simp [Value.cells] at hcs
  obtain ⟨rfl, rfl, rfl⟩ := hcs
  exact ⟨[], rfl, Nat.le_refl _, Kd.C_nil _ _, by simp⟩
 ·simp [Value.cells] at hcs
  obtain ⟨rfl, rfl, rfl⟩ := hcs
  have hz' : zs.length = cap := by simpa using hz
  have hln : (zs.take len).length = len := by rw [List.length_take]; omega
  refine ⟨zs.take len, hln.symm, by omega, ?_, fun x hx => hwz x (List.mem_of_mem_take hx)⟩
  refine reads_of hl hm hz' (fun h => by cases h) (fun ad e j hj => ?_)
  injection e with e
  subst e
  exact hcell j (by omega)
theorem rows_of {fuel : Nat} {cs : List Value} {x : DataW H × List MemPlace} (h : DataW.trod enc Try.prog W base (fun _ => true) held fuel 22 cs = some x) : ∃ A n c l, cs = [.slice A n c] ∧ RowsIn W A n c l := by
 rcases open_int_rows Try.underlying22 Try.underlying37 Try.underlying3 (by kernel_rfl) (by kernel_rfl) h with ⟨rfl, _⟩ | ⟨a, len, cap, A, L, C, Z, rfl, hb, hl, hm, hx, hr⟩
 ·exact ⟨none, 0, 0, [], rfl, rfl, Nat.le_refl _, Kd.C_nil _ _, by simp, by simp⟩
 ·refine ⟨some a, len, cap, (List.range len).map fun r => (Z r).take (L r), rfl, by simp, by simpa using hl, ?_, ?_, ?_⟩
  ·refine ⟨by simp, by simp; unfold maxLen at hm; omega, fun h0 => ⟨a, rfl, fun j p hj => ?_⟩⟩
   have hjl : j < len := by
    have := (List.getElem?_eq_some_iff.1 hj).1
    simpa using this
   obtain ⟨hc, h1, h2, h3, h4, h5, h6⟩ := hr j (by omega)
   have hp : p = (Z j).take (L j) := by
    rw [List.getElem?_map, List.getElem?_range hjl] at hj
    exact (Option.some.inj hj).symm
   have hpl : p.length = L j := by rw [hp, List.length_take]; omega
   refine ⟨[.slice (A j) p.length (C j)], rfl, ⟨A j, C j, rfl, by omega, ?_⟩, fun i u hu => ?_⟩
   ·rw [hp]
    exact reads_of h1 h2 h3 h5 (fun ad e i hi => (h6 ad e).2 i hi)
   ·have hi : i = 0 := by
     have := (List.getElem?_eq_some_iff.1 hu).1
     simp at this
     exact this
    subst hi
    simp at hu
    rw [← hu, hpl]
    have e : j * (Kd.slice 3 (Kd.int .i64)).sz + 0 = j := by show j * 1 + 0 = j; omega
    rw [e]
    exact hc
  ·intro r hr' x hx'
   obtain ⟨j, hj, rfl⟩ := List.mem_map.1 hr'
   have := List.mem_range.1 hj
   exact (hr j (by omega)).2.2.2.2.1 x (List.mem_of_mem_take hx')
  ·intro r hr'
   obtain ⟨j, hj, rfl⟩ := List.mem_map.1 hr'
   have hj := List.mem_range.1 hj
   have h1 := (hr j (by omega)).2.1
   have h2 := (hr j (by omega)).2.2.1
   unfold maxLen at h2
   rw [List.length_take]
   omega
set_option maxRecDepth 100000 in
theorem open_graph {r : Reach} {b0 t : Nat} {f0 : Field} {v : Value} {d : DataW H} {p : List MemPlace} (hs : Try.prog.underlying t = some (.struct #[f0])) (hC : Try.prog.cellsOf t = 1) (hf : f0.type = 22) (ho : f0.offset = 0)
  (hv : Value.okWide Try.prog W r b0 t v) (h : DataW.Trod enc Try.prog W base (fun _ => true) held t v d p) : ∃ A n c l, v = .agg #[.slice A n c] ∧ RowsIn W A n c l := by
 obtain ⟨cs, rfl, hsz⟩ := okWide_struct hs hv
 obtain ⟨c0, rfl⟩ := array1 (hsz.trans hC)
 obtain ⟨fuel, hfu⟩ := h
 obtain ⟨y0, n, hx, _, h0⟩ := trod_struct1 hs hfu
 have hc22 : Try.prog.cellsOf 22 = 1 := by kernel_rfl
 rw [hf, ho, hc22] at h0
 obtain ⟨A, m, c, l, hcs, hR⟩ := rows_of h0
 have e : c0 = .slice A m c := by simpa [Value.cells] using hcs
 subst e
 exact ⟨A, m, c, l, rfl, hR⟩
end
end Go.Proofs.Ytnbnalbomflafaa.KR
