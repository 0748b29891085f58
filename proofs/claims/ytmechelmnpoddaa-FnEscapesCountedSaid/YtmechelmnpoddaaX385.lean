/-
  Texts of the seat, merged (part 5).
-/
import Derived.Laws.BitsLemmas
import Derived.Test.YtmechelmnpoddaaX384
set_option linter.unusedVariables false
set_option linter.unusedSimpArgs false
namespace Go.Proofs.Ytmechelmnpoddaa.H7
open Go.RowKit YtmechelmnpoddaaW.PrintWords YtmechelmnpoddaaW.PrintLast
open A7 E7 F7
open Es (nth)
theorem xSame_loop (l : List Int) (hn : l.length ≤ 1000000000000) (d : Nat) : ∀ (k i : Nat), i + d = l.length → d < k → laws_xSame.l0 k l l (l.length : Int) (i : Int) = some true := by
 induction d with
 | zero =>
  intro k i hi hk
  obtain ⟨k, rfl⟩ : ∃ m, k = m + 1 := ⟨k - 1, by omega⟩
  simp only [laws_xSame.l0]
  rw [if_neg (by omega)]
 | succ d ih =>
  intro k i hi hk
  obtain ⟨k, rfl⟩ : ∃ m, k = m + 1 := ⟨k - 1, by omega⟩
  simp only [laws_xSame.l0]
  have e2 : wrap64 ((i : Int) + 1) = ((i + 1 : Nat) : Int) := by rw [wrap_id (by omega) (by omega)]; omega
  rw [if_pos (by omega), if_pos (by omega), if_pos (by omega), if_pos (by omega), if_pos trivial, e2]
  exact ih k (i + 1) (by omega) (by omega)
theorem xSame_refl (l : List Int) (hn : l.length ≤ 1000000000000) (k : Nat) (hk : l.length < k) : laws_xSame.f k l l = some true := by
 unfold laws_xSame.f
 rw [if_pos rfl]
 exact xSame_loop l hn l.length k 0 (by omega) hk
theorem xSum_eq (l : List Int) (hn : l.length ≤ 1000000000000) (hb : absI l ≤ 4611686018427387904) (k : Nat) (hk : l.length < k) : laws_xSum.f k l = some (sumI l) := by
 have h := sum_loop laws_xSum.l0 (fun _ _ _ _ _ => rfl) l hn l.length k 0 0 (by omega) hk (by left; simpa using hb)
 simpa [laws_xSum.f] using h
theorem sumI_ints : ∀ (l : List Nat), sumI (ints l) = ((l.sum : Nat) : Int)
 | [] => rfl
 | x :: t => by
  rw [show ints (x :: t) = (x : Int) :: ints t from rfl]
  simp only [sumI, List.sum_cons]
  rw [sumI_ints t]
  omega
theorem absI_ints : ∀ (l : List Nat), absI (ints l) = ((l.sum : Nat) : Int)
 | [] => rfl
 | x :: t => by
  rw [show ints (x :: t) = (x : Int) :: ints t from rfl]
  simp only [absI, List.sum_cons]
  rw [absI_ints t, if_neg (by omega)]
  omega
theorem sum_le (B : Nat) : ∀ (l : List Nat), (∀ x ∈ l, x ≤ B) → l.sum ≤ l.length * B
 | [], _ => by simp
 | x :: t, h => by
  have h1 := sum_le B t (fun y hy => h y (List.mem_cons_of_mem _ hy))
  have h2 := h x List.mem_cons_self
  simp only [List.sum_cons, List.length_cons, Nat.succ_mul]
  omega
def Bytes (l : List Int) : Prop := ∀ x ∈ l, 0 ≤ x ∧ x ≤ 255
theorem mask255 (x : Int) (h0 : 0 ≤ x) (h1 : x < 18446744073709551616) : Go.bits .and .u64 x 255 = x % 256 :=
 bits_mask .u64 64 (by decide) (fun n a b => by simp [IntKind.wrap, IntKind.bits, IntKind.signed]; omega) 8 (by decide) x h0 (by omega)
theorem u64_range (x : Int) : 0 ≤ IntKind.u64.wrap x ∧ IntKind.u64.wrap x < 18446744073709551616 := by simp [IntKind.wrap, IntKind.bits, IntKind.signed]; omega
theorem drawn_byte (x : Int) : 0 ≤ wrap64 (Go.bits .and .u64 (IntKind.u64.wrap x / 1099511627776) 255) ∧ wrap64 (Go.bits .and .u64 (IntKind.u64.wrap x / 1099511627776) 255) ≤ 255 := by
 have h := u64_range x
 generalize IntKind.u64.wrap x = y at *
 rw [mask255 _ (by omega) (by omega), wrap_id (by omega) (by omega)]
 omega
theorem next_some {l : List Int} (hb : Bytes l) {p : Int} (h0 : 0 ≤ p) (h1 : p ≤ 1000000) (sd : Int) : ∃ x s1, spec_l1Cur_next.f l p sd = some (x, p + 1, s1) ∧ 0 ≤ x ∧ x ≤ 255 := by
 have e : wrap64 (p + 1) = p + 1 := wrap_id (by omega) (by omega)
 unfold spec_l1Cur_next.f
 rw [e]
 by_cases h2 : p < (l.length : Int)
 rotate_left
 ·rw [if_neg h2, if_neg (by omega)]
  exact ⟨_, _, rfl, drawn_byte _⟩
 rw [if_pos h2, if_pos h0, if_pos (by omega)]
 have h3 : 0 ≤ rd l p ∧ rd l p ≤ 255 := by
  have := rd_at l p.toNat (by omega)
  rw [Int.toNat_of_nonneg h0] at this
  rw [this]
  exact hb _ (List.getElem_mem _)
 exact ⟨_, _, rfl, by rw [wrap_id (by omega) (by omega)]; exact h3⟩
theorem pick_some {l : List Int} (hb : Bytes l) {p : Int} (h0 : 0 ≤ p) (h1 : p ≤ 1000000) (sd : Int) {n : Int} (hn : 1 < n) (hn2 : n ≤ 200) : ∃ x s1, spec_l1Cur_pick.f l p sd n = some (x, p + 1, s1) ∧ 0 ≤ x ∧ x < n := by
 obtain ⟨x, s1, e, hx⟩ := next_some hb h0 h1 sd
 unfold spec_l1Cur_pick.f
 rw [if_neg (by omega), e]
 simp only [Option.bind_some]
 rw [if_neg (by omega), if_neg (by omega)]
 refine ⟨_, _, rfl, ?_⟩
 rw [Int.tmod_eq_emod_of_nonneg hx.1]
 exact ⟨Int.emod_nonneg _ (by omega), Int.emod_lt_of_pos _ (by omega)⟩
theorem among_some {l : List Int} (hb : Bytes l) {p : Int} (h0 : 0 ≤ p) (h1 : p ≤ 1000000) (sd : Int) (L : List Int) (hn : 1 < L.length) (hn2 : L.length ≤ 200) : ∃ x s1, spec_l1Cur_among.f l p sd L = some (x, p + 1, s1) := by
 obtain ⟨x, s1, e, hx⟩ := pick_some hb h0 h1 sd (n := (L.length : Int)) (by omega) (by omega)
 unfold spec_l1Cur_among.f
 rw [e]
 simp only [Option.bind_some]
 rw [if_pos hx.1, if_pos hx.2]
 exact ⟨_, _, rfl⟩
theorem one_some {l : List Int} (hb : Bytes l) {p : Int} (h0 : 0 ≤ p) (h1 : p ≤ 1000000) (sd : Int) {n : Int} (hn : 1 < n) (hn2 : n ≤ 200) : ∃ x s1, spec_l1Cur_one.f l p sd n = some (x, p + 1, s1) := by
 obtain ⟨x, s1, e, hx⟩ := pick_some hb h0 h1 sd hn hn2
 unfold spec_l1Cur_one.f
 rw [e]
 exact ⟨_, _, rfl⟩
theorem branch_some {l : List Int} (hb : Bytes l) {p : Int} (h0 : 0 ≤ p) (h1 : p ≤ 1000) (sd : Int) : ∃ b d q s1, spec_l1Cur_branch.f l p sd = some (b, d, q, s1) ∧ 0 ≤ q ∧ q ≤ p + 3 := by
 obtain ⟨x, s1, e1⟩ := one_some hb h0 (by omega) sd (n := 14) (by omega) (by omega)
 unfold spec_l1Cur_branch.f
 rw [e1]
 simp only [Option.bind_some]
 cases x with
 | true =>
  obtain ⟨y, s2, e2⟩ := among_some hb (p := p + 1) (by omega) (by omega) s1 [1, 4, 2, 3, (-1), 4611686018427387904] (by decide) (by decide)
  obtain ⟨z, s3, e3⟩ := among_some hb (p := p + 1 + 1) (by omega) (by omega) s2 [0, 7, 5, 6, (-1), 4611686018427387904] (by decide) (by decide)
  rw [if_pos rfl, e2]
  simp only [Option.bind_some]
  rw [e3]
  exact ⟨_, _, p + 1 + 1 + 1, _, rfl, by omega, by omega⟩
 | false =>
  obtain ⟨y, s2, e2⟩ := one_some hb (p := p + 1) (by omega) (by omega) s1 (n := 2) (by omega) (by omega)
  rw [if_neg (by decide), e2]
  simp only [Option.bind_some]
  cases y with
  | true =>
   obtain ⟨z, s3, e3, _⟩ := pick_some hb (p := p + 1 + 1) (by omega) (by omega) s2 (n := 6) (by omega) (by omega)
   rw [if_pos rfl, e3]
   exact ⟨_, _, p + 1 + 1 + 1, _, rfl, by omega, by omega⟩
  | false =>
   obtain ⟨z, s3, e3, _⟩ := pick_some hb (p := p + 1 + 1) (by omega) (by omega) s2 (n := 4) (by omega) (by omega)
   rw [if_neg (by decide), e3]
   exact ⟨_, _, p + 1 + 1 + 1, _, rfl, by omega, by omega⟩
theorem count_some {l : List Int} (hb : Bytes l) : ∃ b d, spec_DrawCountNodes.f l = some (b, d) := by
 obtain ⟨b, d, q, s1, e, _⟩ := branch_some hb (Int.le_refl 0) (by omega) 0
 unfold spec_DrawCountNodes.f
 rw [e]
 exact ⟨_, _, rfl⟩
theorem nodes_all (b d : Int) : ∃ N : Nat, ∀ k, 30 ≤ k → spec_esNodes.f k b d = some (N : Int) := by
 obtain ⟨N, h, _⟩ := nodes_of b d
 refine ⟨N, fun k hk => ?_⟩
 obtain ⟨m, rfl⟩ : ∃ m, k = 30 + m := ⟨k - 30, by omega⟩
 clear hk
 induction m with
 | zero => exact h
 | succ m ih => exact spec_esNodes.mono b d (30 + m) _ ih
theorem escape_some {l : List Int} (hb : Bytes l) : ∃ b d x n, ∀ k, 30 ≤ k → spec_DrawEscapeList.f k l = some (b, d, x, n) := by
 obtain ⟨b, d, q, s1, e1, hq0, hq1⟩ := branch_some hb (Int.le_refl 0) (by omega) 0
 obtain ⟨n, s2, e2⟩ := among_some hb hq0 (by omega) s1 [0, 1, 3, 7, 20, 63, 127, 200, 201, (-1)] (by decide) (by decide)
 obtain ⟨y, s3, e3⟩ := one_some hb (p := q + 1) (by omega) (by omega) s2 (n := 3) (by omega) (by omega)
 obtain ⟨N, e4⟩ := nodes_all b d
 obtain ⟨x, s5, e5⟩ := among_some hb (p := q + 1 + 1) (by omega) (by omega) s3 [0, 1, 2, 3, 0, 1, 2, 4, (-1)] (by decide) (by decide)
 refine ⟨b, d, x, if y = true then (if 0 < (N : Int) then (N : Int) else n) else n, fun k hk => ?_⟩
 unfold spec_DrawEscapeList.f
 rw [e1]
 simp only [Option.bind_some]
 rw [e2]
 simp only [Option.bind_some]
 rw [e3]
 simp only [Option.bind_some]
 rw [e4 k hk]
 simp only [Option.bind_some]
 rw [e5]
 rfl
theorem bytes_of {l : List Int} (h : ∀ x ∈ l, (Lit.int .u8 x).wf = true) : Bytes l := by
 intro x hx
 have := h x hx
 have e1 : IntKind.u8.min = 0 := rfl
 have e2 : IntKind.u8.max = 255 := rfl
 simp [Lit.wf, e1, e2] at this
 omega
theorem big_some (l0 l1 : List Int) : ∃ b, laws_big.f l0 l1 = some b := by
 unfold laws_big.f
 split
 ·exact ⟨_, rfl⟩
 ·exact ⟨_, rfl⟩
structure Known (b d x n : Nat) (S : Es.St) : Prop where
 good : Es.Good b d (Es.inner b d) x n S
 tree : (b, d) ∈ Es.trees
 b2 : 2 ≤ b
 b3 : b ≤ 3
 d1 : 1 ≤ d
 d6 : d ≤ 6
 x3 : x ≤ b
 n2 : n ≤ 200
 few : Es.inner b d + b ^ d ≤ 130
 nodes : spec_esNodes.f 30 (b : Int) (d : Int) = some ((Es.inner b d + b ^ d : Nat) : Int)
 power : spec_esPower.f 30 (b : Int) (d : Int) = some ((b ^ d : Nat) : Int)
theorem tree_pow (b d : Nat) (h : (b, d) ∈ Es.trees) : spec_esPower.f 30 (b : Int) (d : Int) = some ((b ^ d : Nat) : Int) ∧ spec_esNodes.f 30 (b : Int) (d : Int) = some ((Es.inner b d + b ^ d : Nat) : Int) ∧ Es.inner b d + b ^ d ≤ 130 := by
 simp only [Es.trees, List.mem_cons, Prod.mk.injEq, List.mem_nil_iff, or_false] at h
 rcases h with ⟨rfl, rfl⟩ | ⟨rfl, rfl⟩ | ⟨rfl, rfl⟩ | ⟨rfl, rfl⟩ | ⟨rfl, rfl⟩ | ⟨rfl, rfl⟩ | ⟨rfl, rfl⟩ | ⟨rfl, rfl⟩ | ⟨rfl, rfl⟩ | ⟨rfl, rfl⟩ <;> exact ⟨by decide +kernel, by decide +kernel, by decide⟩
theorem known_of {b d x n : Int} (h : asked b d x n = true) : ∃ b1 d1 x1 n1 : Nat, b = b1 ∧ d = d1 ∧ x = x1 ∧ n = n1 ∧ Known b1 d1 x1 n1 (outS b d x n) := by
 obtain ⟨b1, d1, k1, n1, N, p, rfl, rfl, rfl, rfl, ht, hk, hn, hT, hc⟩ := asked_tree h
 obtain ⟨e1, e2, e3⟩ := tree_pow b1 d1 ht
 exact ⟨b1, d1, k1, n1, rfl, rfl, rfl, rfl, Es.good_is b1 d1 k1 n1 ht hk hn _ hc, ht, hT.b2, hT.b3, hT.d1, hT.d6, hk, hn, e3, e2, e1⟩
end Go.Proofs.Ytmechelmnpoddaa.H7
namespace Go.Proofs.Ytmechelmnpoddaa.Pure
open Go.RowKit F9 F7 YtmechelmnpoddaaW.PrintWords YtmechelmnpoddaaW.PrintLast
open A7 H7 E7
open Es (nth)
theorem up1 (i : Nat) (h : i ≤ 1000000) : wrap64 ((i : Int) + 1) = ((i + 1 : Nat) : Int) := by rw [wrap_id (by omega) (by omega)]; omega
structure Chance (b d : Nat) (g c1 c2 N : Nat) : Prop where
 ic : impl_EscapeChance.f 1000 (b : Int) (d : Int) = some ((c1 : Int), (c2 : Int), true)
 sc : spec_EscapeChance.f 1000 (b : Int) (d : Int) = some ((c1 : Int), (c2 : Int), true)
 ec : impl_escapeChance.f 1000 (b : Int) (d : Int) = some ((c1 : Int), (c2 : Int))
 ir : impl_ChipsInRound.f 1000 (b : Int) (d : Int) = some ((N : Int), true)
 sr : spec_ChipsInRound.f 1000 (b : Int) (d : Int) = some ((N : Int), true)
 ik : impl_CountNodes.f 1000 (b : Int) (d : Int) = some ((N : Int), true)
 sk : spec_CountNodes.f 1000 (b : Int) (d : Int) = some ((N : Int), true)
 num : g * c1 = (b - 1) * b ^ d
 den : g * c2 = b ^ (d + 1) - 1
 g0 : 0 < g
 c0 : 0 < c2
 c1s : c1 ≤ 500
 c2s : c2 ≤ 500
 N0 : 0 < N
 N1 : N ≤ 130
 NN : N = Es.inner b d + b ^ d
theorem chance_tree (b d : Nat) (h : (b, d) ∈ Es.trees) : ∃ g c1 c2 N, Chance b d g c1 c2 N := by
 simp only [Es.trees, List.mem_cons, Prod.mk.injEq, List.mem_nil_iff, or_false] at h
 rcases h with ⟨rfl, rfl⟩ | ⟨rfl, rfl⟩ | ⟨rfl, rfl⟩ | ⟨rfl, rfl⟩ | ⟨rfl, rfl⟩ | ⟨rfl, rfl⟩ | ⟨rfl, rfl⟩ | ⟨rfl, rfl⟩ | ⟨rfl, rfl⟩ | ⟨rfl, rfl⟩
 ·exact ⟨1, 2, 3, 3, by decide +kernel, by decide +kernel, by decide +kernel, by decide +kernel, by decide +kernel, by decide +kernel, by decide +kernel, by decide, by decide, by decide, by decide, by decide, by decide, by decide, by decide, by decide⟩
 ·exact ⟨1, 4, 7, 7, by decide +kernel, by decide +kernel, by decide +kernel, by decide +kernel, by decide +kernel, by decide +kernel, by decide +kernel, by decide, by decide, by decide, by decide, by decide, by decide, by decide, by decide, by decide⟩
 ·exact ⟨1, 8, 15, 15, by decide +kernel, by decide +kernel, by decide +kernel, by decide +kernel, by decide +kernel, by decide +kernel, by decide +kernel, by decide, by decide, by decide, by decide, by decide, by decide, by decide, by decide, by decide⟩
 ·exact ⟨1, 16, 31, 31, by decide +kernel, by decide +kernel, by decide +kernel, by decide +kernel, by decide +kernel, by decide +kernel, by decide +kernel, by decide, by decide, by decide, by decide, by decide, by decide, by decide, by decide, by decide⟩
 ·exact ⟨1, 32, 63, 63, by decide +kernel, by decide +kernel, by decide +kernel, by decide +kernel, by decide +kernel, by decide +kernel, by decide +kernel, by decide, by decide, by decide, by decide, by decide, by decide, by decide, by decide, by decide⟩
 ·exact ⟨1, 64, 127, 127, by decide +kernel, by decide +kernel, by decide +kernel, by decide +kernel, by decide +kernel, by decide +kernel, by decide +kernel, by decide, by decide, by decide, by decide, by decide, by decide, by decide, by decide, by decide⟩
 ·exact ⟨2, 3, 4, 4, by decide +kernel, by decide +kernel, by decide +kernel, by decide +kernel, by decide +kernel, by decide +kernel, by decide +kernel, by decide, by decide, by decide, by decide, by decide, by decide, by decide, by decide, by decide⟩
 ·exact ⟨2, 9, 13, 13, by decide +kernel, by decide +kernel, by decide +kernel, by decide +kernel, by decide +kernel, by decide +kernel, by decide +kernel, by decide, by decide, by decide, by decide, by decide, by decide, by decide, by decide, by decide⟩
 ·exact ⟨2, 27, 40, 40, by decide +kernel, by decide +kernel, by decide +kernel, by decide +kernel, by decide +kernel, by decide +kernel, by decide +kernel, by decide, by decide, by decide, by decide, by decide, by decide, by decide, by decide, by decide⟩
 ·exact ⟨2, 81, 121, 121, by decide +kernel, by decide +kernel, by decide +kernel, by decide +kernel, by decide +kernel, by decide +kernel, by decide +kernel, by decide, by decide, by decide, by decide, by decide, by decide, by decide, by decide, by decide⟩
theorem all_k {α : Type} {g : Nat → Option α} (hm : ∀ k, LeO (g k) (g (k + 1))) {v : α} {k : Nat} (hk : 1000 ≤ k) (h : g 1000 = some v) : g k = some v := at_rounds hm hk h
structure Alike (b d : Int) (u v N : Int) (ok : Bool) : Prop where
 ic : ∀ k, 1000 ≤ k → impl_EscapeChance.f k b d = some (u, v, ok)
 sc : ∀ k, 1000 ≤ k → spec_EscapeChance.f k b d = some (u, v, ok)
 ir : ∀ k, 1000 ≤ k → impl_ChipsInRound.f k b d = some (N, ok)
 sr : ∀ k, 1000 ≤ k → spec_ChipsInRound.f k b d = some (N, ok)
 ik : ∀ k, 1000 ≤ k → impl_CountNodes.f k b d = some (N, ok)
 sk : ∀ k, 1000 ≤ k → spec_CountNodes.f k b d = some (N, ok)
theorem Chance.alike {b d g c1 c2 N : Nat} (h : Chance b d g c1 c2 N) : Alike (b : Int) (d : Int) (c1 : Int) (c2 : Int) (N : Int) true :=
 ⟨fun k hk => all_k (g := fun k => impl_EscapeChance.f k (b : Int) (d : Int)) (fun k => impl_EscapeChance.mono _ _ k) hk h.ic, fun k hk => all_k (g := fun k => spec_EscapeChance.f k (b : Int) (d : Int)) (fun k => spec_EscapeChance.mono _ _ k) hk h.sc,
  fun k hk => all_k (g := fun k => impl_ChipsInRound.f k (b : Int) (d : Int)) (fun k => impl_ChipsInRound.mono _ _ k) hk h.ir, fun k hk => all_k (g := fun k => spec_ChipsInRound.f k (b : Int) (d : Int)) (fun k => spec_ChipsInRound.mono _ _ k) hk h.sr,
  fun k hk => all_k (g := fun k => impl_CountNodes.f k (b : Int) (d : Int)) (fun k => impl_CountNodes.mono _ _ k) hk h.ik, fun k hk => all_k (g := fun k => spec_CountNodes.f k (b : Int) (d : Int)) (fun k => spec_CountNodes.mono _ _ k) hk h.sk⟩
theorem alike_some (b d : Int) : ∃ u v N ok, Alike b d u v N ok := by
 by_cases hb : branch b d
 ·obtain ⟨b1, d1, rfl, rfl, ht⟩ := branch_tree hb
  obtain ⟨g, c1, c2, N, h⟩ := chance_tree b1 d1 ht
  exact ⟨_, _, _, _, h.alike⟩
 obtain ⟨N, h1, h2, h3⟩ := nodes_of b d
 have hN : N = 0 := by
  by_cases h0 : 0 < N
  ·exact absurd (h2.1 h0) hb
  omega
 subst hN
 rw [decide_eq_false hb] at h3
 have e1 : ∀ k, 1000 ≤ k → spec_esNodes.f k b d = some 0 := fun k hk => at_rounds (g := fun k => spec_esNodes.f k b d) (fun k => spec_esNodes.mono _ _ k) (show 30 ≤ k by omega) h1
 have e2 : ∀ k, 1000 ≤ k → impl_isBranching.f k b d = some false := fun k hk => at_rounds (g := fun k => impl_isBranching.f k b d) (fun k => impl_isBranching.mono _ _ k) (show 30 ≤ k by omega) h3
 have s1 : ∀ k, 1000 ≤ k → spec_CountNodes.f k b d = some (0, false) := fun k hk => by unfold spec_CountNodes.f; rw [e1 k hk]; rfl
 have s2 : ∀ k, 1000 ≤ k → impl_CountNodes.f k b d = some (0, false) := fun k hk => by unfold impl_CountNodes.f; rw [e2 k hk, Option.bind_some, if_neg (by decide)]
 refine ⟨0, 0, 0, false, fun k hk => ?_, fun k hk => ?_, fun k hk => ?_, fun k hk => ?_, s2, s1⟩
 ·unfold impl_EscapeChance.f; rw [e2 k hk, Option.bind_some, if_neg (by decide)]
 ·unfold spec_EscapeChance.f; rw [e1 k hk, Option.bind_some, if_pos rfl]
 ·unfold impl_ChipsInRound.f; rw [s2 k hk]; rfl
 ·unfold spec_ChipsInRound.f; rw [s1 k hk]; rfl
theorem e_j6 (b d x n : Int) (k : Nat) (hk : 1100 ≤ k) : laws_FnEscapesCounted.j6 k b d n (if asked b d x n = true then same b d x n else false) (asked b d x n) false = some true := by
 obtain ⟨k, rfl⟩ : ∃ m, k = m + 1 := ⟨k - 1, by omega⟩
 simp only [laws_FnEscapesCounted.j6]
 rw [if_neg (by decide)]
 cases hq : asked b d x n with
 | false => rw [if_neg (by decide)]
 | true =>
  obtain ⟨b1, d1, x1, n1, rfl, rfl, rfl, rfl, K⟩ := known_of hq
  obtain ⟨g, c1, c2, N, C⟩ := chance_tree b1 d1 K.tree
  rw [if_pos rfl, if_pos rfl, C.alike.ir k (by omega), Option.bind_some, if_pos rfl, if_neg (by have := C.N0; show ¬ ((N : Int) = 0); omega)]
  have hback := K.good.back
  rw [← C.NN] at hback
  by_cases h0 : n1 % N = 0
  rotate_left
  ·have h1 : ¬ (Int.tmod (n1 : Int) (N : Int) = 0) := by
    rw [tmod_nat]
    omega
   rw [if_neg h1]
  have hr := hback h0
  have hs : same (b1 : Int) (d1 : Int) (x1 : Int) (n1 : Int) = true := by
   unfold same
   rw [hr, List.all_eq_true]
   intro y hy
   simp [ints] at hy
   simp [hy.2]
  rw [hs, if_pos rfl]
  split <;> rfl
theorem e_j5 (l : List Int) (hb : Bytes l) (k : Nat) (hk : 1200 ≤ k) : laws_FnEscapesCounted.j5 k l = some true := by
 obtain ⟨b, d, e⟩ := count_some hb
 obtain ⟨b2, d2, x2, n2, e2⟩ := escape_some hb
 obtain ⟨u, v, N, ok, A⟩ := alike_some b d
 obtain ⟨k, rfl⟩ : ∃ m, k = m + 1 := ⟨k - 1, by omega⟩
 have hk2 : 1000 ≤ k := by omega
 simp only [laws_FnEscapesCounted.j5]
 have hd1 : spec_DrawEscapeChance.f l = some (b, d) := by unfold spec_DrawEscapeChance.f; rw [e]; rfl
 have hd2 : spec_DrawAreAsBefore.f k l = some (b2, d2, x2, n2) := by unfold spec_DrawAreAsBefore.f; rw [e2 k (by omega)]; rfl
 have a1 : impl_AreAsBefore.f b2 d2 x2 n2 = some (if asked b2 d2 x2 n2 = true then same b2 d2 x2 n2 else false, asked b2 d2 x2 n2) := rfl
 have a2 : spec_AreAsBefore.f b2 d2 x2 n2 = some (if asked b2 d2 x2 n2 = true then same b2 d2 x2 n2 else false, asked b2 d2 x2 n2) := rfl
 rw [hd1, Option.bind_some, A.ic k hk2, Option.bind_some, A.sc k hk2, Option.bind_some, A.ik k hk2, Option.bind_some, A.sk k hk2, Option.bind_some, A.ir k hk2, Option.bind_some, A.sr k hk2, Option.bind_some, hd2, Option.bind_some, a1, Option.bind_some, a2, Option.bind_some]
 simp only [bne_self_eq_false, beq_self_eq_true, Bool.not_true, Bool.or_self, Bool.false_eq_true, if_false, if_true]
 exact e_j6 b2 d2 x2 n2 k (by omega)
theorem gap_val (b d x n : Int) (hq : asked b d x n = true) (hn : 0 ≤ n ∧ n ≤ 200) (c1 c2 : Nat) (hc : ∀ k, 1000 ≤ k → impl_escapeChance.f k b d = some ((c1 : Int), (c2 : Int))) (h2 : 0 < c2) (b1 : c1 ≤ 500) (b2 : c2 ≤ 500) (k : Nat) (hk : 1100 ≤ k) (a : Nat) (ha : a = (sumE b d x n * (c2 : Int) - n * (c1 : Int)).natAbs) :
  impl_EscapeGap.f k b d x n = some (((a / Nat.gcd a c2 : Nat) : Int), ((c2 / Nat.gcd a c2 : Nat) : Int), true) := by
 obtain ⟨hs0, hs1⟩ := sumE_small hq
 unfold impl_EscapeGap.f
 rw [impl_escapes b d x n k (by omega), hq, Option.bind_some, if_pos rfl, if_pos rfl, hc k (by omega), Option.bind_some]
 generalize sumE b d x n = E at *
 have m3 := mul_bd E (c2 : Int) hs0 hs1 (by omega) (by omega)
 have m4 := mul_bd n (c1 : Int) (by omega) hn.2 (by omega) (by omega)
 show ((impl_size.f (wrap64 ((wrap64 (E * (c2 : Int))) - (wrap64 (n * (c1 : Int)))))).bind fun t148 => ((impl_ratio.f k t148 (c2 : Int)).bind fun bt149 => (some (bt149.1, bt149.2, true)))) = _
 rw [wrap_id (x := E * (c2 : Int)) (by omega) (by omega), wrap_id (x := n * (c1 : Int)) (by omega) (by omega), wrap_id (by omega) (by omega), size_eq _ (by omega) (by omega), ← ha, Option.bind_some]
 have ha2 : a ≤ 200000 := by omega
 rw [impl_ratio_eq a c2 (by omega) (by omega) h2 k hk]
 rfl
theorem gap_facts {b d x n : Nat} {S : Es.St} (K : Known b d x n S) {g c1 c2 N : Nat} (C : Chance b d g c1 c2 N) (hE : S.ends.sum ≤ 200) (a : Nat) (ha : a = (((S.ends.sum : Nat) : Int) * (c2 : Int) - (n : Int) * (c1 : Int)).natAbs) :
  a ≤ (2 * d + 3) * c2 := by
 have h1 := K.good.gap1
 have h2 := K.good.gap2
 rw [← C.den, ← C.num] at h1 h2
 have hg := C.g0
 have f1 : S.ends.sum * c2 ≤ n * c1 + (2 * d + 3) * c2 := by
  apply Nat.le_of_mul_le_mul_left _ hg
  rw [Nat.mul_add]
  rw [Nat.mul_left_comm g n c1, Nat.mul_left_comm g S.ends.sum c2, Nat.mul_left_comm g (2 * d + 3) c2]
  exact h1
 have f2 : n * c1 ≤ S.ends.sum * c2 + (2 * d + 3) * c2 := by
  apply Nat.le_of_mul_le_mul_left _ hg
  rw [Nat.mul_add]
  rw [Nat.mul_left_comm g n c1, Nat.mul_left_comm g S.ends.sum c2, Nat.mul_left_comm g (2 * d + 3) c2]
  exact h2
 have e1 : ((S.ends.sum : Nat) : Int) * (c2 : Int) = ((S.ends.sum * c2 : Nat) : Int) := by simp
 have e2 : (n : Int) * (c1 : Int) = ((n * c1 : Nat) : Int) := by simp
 rw [e1, e2] at ha
 generalize S.ends.sum * c2 = A at *
 generalize n * c1 = B at *
 generalize (2 * d + 3) * c2 = M at *
 omega
theorem low_le (a c m : Nat) (hc : 0 < c) (h : a ≤ m * c) : a / Nat.gcd a c ≤ m * (c / Nat.gcd a c) := by
 have hg : 0 < Nat.gcd a c := Nat.gcd_pos_of_pos_right _ hc
 have e1 : a = Nat.gcd a c * (a / Nat.gcd a c) := (Nat.mul_div_cancel' (Nat.gcd_dvd_left a c)).symm
 have e2 : c = Nat.gcd a c * (c / Nat.gcd a c) := (Nat.mul_div_cancel' (Nat.gcd_dvd_right a c)).symm
 apply Nat.le_of_mul_le_mul_left _ hg
 rw [← e1, Nat.mul_left_comm, ← e2]
 exact h
theorem low_cross (a c : Nat) : a / Nat.gcd a c * c = a * (c / Nat.gcd a c) := by
 rw [Nat.div_mul_right_comm (Nat.gcd_dvd_left a c), Nat.mul_div_assoc _ (Nat.gcd_dvd_right a c)]
theorem e_l1 (l : List Int) (hb : Bytes l) {b d x n : Nat} {S : Es.St} (K : Known b d x n S) (N : Nat) (hN : N = Es.inner b d + b ^ d) : ∀ (m i k : Nat), i + m = n → N ≤ i → 1300 + m ≤ k →
  laws_FnEscapesCounted.l1 k l (n : Int) (ints S.ends) (N : Int) (i : Int) = some true := by
 obtain ⟨E, T, M, so⟩ := K.good.so
 have hn := K.n2
 have hl : ((ints S.ends).length : Int) = (n : Int) := by rw [ints_len, so.le]
 intro m
 induction m with
 | zero =>
  intro i k hi hNi hk
  obtain ⟨k, rfl⟩ : ∃ m, k = m + 1 := ⟨k - 1, by omega⟩
  have hlt : ¬ ((i : Int) < (n : Int)) := by omega
  simp only [laws_FnEscapesCounted.l1]
  rw [if_neg hlt]
  exact e_j5 l hb k (by omega)
 | succ m ih =>
  intro i k hi hNi hk
  obtain ⟨k, rfl⟩ : ∃ m, k = m + 1 := ⟨k - 1, by omega⟩
  have hlt : (i : Int) < (n : Int) := by omega
  have hw : wrap64 ((i : Int) - (N : Int)) = ((i - N : Nat) : Int) := by rw [wrap_id (by omega) (by omega)]; omega
  have hper := so.per i (by omega) (by omega)
  rw [← hN] at hper
  have hge : ((i - N : Nat) : Int) < (n : Int) := by omega
  have heq : ((nth S.ends i : Nat) : Int) = ((nth S.ends (i - N) : Nat) : Int) := by rw [hper]
  have ih' := ih (i + 1) k (by omega) (by omega) (by omega)
  simp only [laws_FnEscapesCounted.l1]
  rw [hw, hl, if_pos hlt, if_pos (Int.natCast_nonneg i), if_pos hlt, if_pos (Int.natCast_nonneg _), if_pos hge, rd_ints, rd_ints, if_pos heq, up1 i (by omega)]
  exact ih'
theorem e_l0 (l : List Int) (hb : Bytes l) {b d x n : Nat} {S : Es.St} (K : Known b d x n S) (N : Nat) (hN : N = Es.inner b d + b ^ d) (hNn : N ≤ n) : ∀ (m i k : Nat), i + m = d → 1600 + m ≤ k →
  laws_FnEscapesCounted.l0 k l (b : Int) (d : Int) (n : Int) (ints S.ends) (N : Int) ((b ^ i : Nat) : Int) (i : Int) = some true := by
 obtain ⟨E, T, M, so⟩ := K.good.so
 have hn := K.n2
 have hd := K.d6
 have hb2 := K.b2
 have htop := K.good.top
 rw [← hN] at htop
 have hfew := K.few
 intro m
 induction m with
 | zero =>
  intro i k hi hk
  obtain ⟨k, rfl⟩ : ∃ m, k = m + 1 := ⟨k - 1, by omega⟩
  obtain rfl : i = d := by omega
  have hlt : ¬ ((i : Int) < (i : Int)) := by omega
  have hle : (N : Int) ≤ ((ints S.ends).length : Int) := by rw [ints_len, so.le]; omega
  have ht : (ints S.ends).take N = ints (S.ends.take N) := by simp [ints, List.map_take]
  have hs : laws_xSum.f k ((ints S.ends).take (N : Int).toNat) = some ((b ^ i : Nat) : Int) := by
   have hsum := htop hNn
   rw [Int.toNat_natCast, ht]
   have hl : (ints (S.ends.take N)).length ≤ 200 := by rw [ints_len, List.length_take]; omega
   have hab : absI (ints (S.ends.take N)) ≤ 4611686018427387904 := by rw [absI_ints, hsum]; have hp : b ^ i ≤ 130 := (by omega); clear hsum; omega
   rw [xSum_eq _ (by omega) hab k (by omega), sumI_ints, hsum]
  simp only [laws_FnEscapesCounted.l0]
  rw [if_neg hlt, if_pos (Int.natCast_nonneg N), if_pos hle, hs, Option.bind_some, if_pos rfl]
  exact e_l1 l hb K N hN (n - N) N k (by omega) (Nat.le_refl N) (by omega)
 | succ m ih =>
  intro i k hi hk
  obtain ⟨k, rfl⟩ : ∃ m, k = m + 1 := ⟨k - 1, by omega⟩
  have hlt : (i : Int) < (d : Int) := by omega
  have hp : b ^ (i + 1) ≤ 130 := Nat.le_trans (Nat.pow_le_pow_right (by omega) (by omega)) (show b ^ d ≤ 130 by omega)
  have e : wrap64 (((b ^ i : Nat) : Int) * (b : Int)) = ((b ^ (i + 1) : Nat) : Int) := by
   have e0 : ((b ^ i : Nat) : Int) * (b : Int) = ((b ^ (i + 1) : Nat) : Int) := by rw [Nat.pow_succ]; simp
   rw [e0, wrap_id (by omega) (by omega)]
  have ih' := ih (i + 1) k (by omega) (by omega)
  simp only [laws_FnEscapesCounted.l0]
  rw [if_pos hlt, e, up1 i (by omega)]
  exact ih'
theorem e_j2 (l : List Int) (hb : Bytes l) {b d x n : Nat} {S : Es.St} (K : Known b d x n S) {g c1 c2 N : Nat} (C : Chance b d g c1 c2 N) (a : Nat) (ha : a ≤ 100000) (k : Nat) (hk : 1700 ≤ k) :
  laws_FnEscapesCounted.j2 k l (b : Int) (d : Int) (n : Int) (ints S.ends) (N : Int) (a : Int) ((a / Nat.gcd a c2 : Nat) : Int) ((c2 / Nat.gcd a c2 : Nat) : Int) (c1 : Int) (c2 : Int) = some true := by
 obtain ⟨k, rfl⟩ : ∃ m, k = m + 1 := ⟨k - 1, by omega⟩
 have hd := K.d6
 have e : wrap64 (((a / Nat.gcd a c2 : Nat) : Int) * (c2 : Int)) = wrap64 ((a : Int) * ((c2 / Nat.gcd a c2 : Nat) : Int)) := by
  rw [← Int.natCast_mul, ← Int.natCast_mul, low_cross]
 simp only [laws_FnEscapesCounted.j2]
 rw [if_pos e]
 by_cases hN : N ≤ n
 ·have h1 : (n : Int) ≥ (N : Int) := by omega
  rw [if_pos h1]
  exact e_l0 l hb K N C.NN hN d 0 k (Nat.zero_add d) (by omega)
 have h1 : ¬ ((n : Int) ≥ (N : Int)) := by omega
 rw [if_neg h1]
 exact e_j5 l hb k (by omega)
theorem e_j1 (l : List Int) (hb : Bytes l) {b d x n : Nat} {S : Es.St} (K : Known b d x n S) {g c1 c2 N : Nat} (C : Chance b d g c1 c2 N) (hE : S.ends.sum ≤ 200) (a : Nat) (ha : a = (((S.ends.sum : Nat) : Int) * (c2 : Int) - (n : Int) * (c1 : Int)).natAbs) (k : Nat) (hk : 1800 ≤ k) :
  laws_FnEscapesCounted.j1 k l (b : Int) (d : Int) (n : Int) (ints S.ends) ((S.ends.sum : Nat) : Int) (N : Int) false ((a / Nat.gcd a c2 : Nat) : Int) ((c2 / Nat.gcd a c2 : Nat) : Int) (c1 : Int) (c2 : Int) = some true := by
 obtain ⟨k, rfl⟩ : ∃ m, k = m + 1 := ⟨k - 1, by omega⟩
 have hn := K.n2
 have h1s := C.c1s
 have h2s := C.c2s
 have m3 := mul_bd ((S.ends.sum : Nat) : Int) (c2 : Int) (by omega) (by omega) (by omega) (by omega)
 have m4 := mul_bd (n : Int) (c1 : Int) (by omega) (by omega) (by omega) (by omega)
 have hz : wrap64 (wrap64 (((S.ends.sum : Nat) : Int) * (c2 : Int)) - wrap64 ((n : Int) * (c1 : Int))) = ((S.ends.sum : Nat) : Int) * (c2 : Int) - (n : Int) * (c1 : Int) := by
  rw [wrap_id (x := ((S.ends.sum : Nat) : Int) * (c2 : Int)) (by omega) (by omega), wrap_id (x := (n : Int) * (c1 : Int)) (by omega) (by omega), wrap_id (by omega) (by omega)]
 have hgap := gap_facts K C hE a ha
 generalize ((S.ends.sum : Nat) : Int) * (c2 : Int) - (n : Int) * (c1 : Int) = z at *
 have ha2 : a ≤ 100000 := by
  have h1 : (2 * d + 3) * c2 ≤ 15 * 500 := Nat.mul_le_mul (by have := K.d6; omega) C.c2s
  omega
 have hj := e_j2 l hb K C a ha2 k (by omega)
 simp only [laws_FnEscapesCounted.j1]
 rw [if_neg (by decide), hz]
 by_cases h0 : z < 0
 ·have e : wrap64 (-z) = (a : Int) := by rw [wrap_id (by omega) (by omega)]; omega
  rw [if_pos h0, e]
  exact hj
 have e : z = (a : Int) := by omega
 rw [if_neg h0, e]
 exact hj
theorem le_dec (x y : Nat) (h : x ≤ y) : decide ((x : Int) > (y : Int)) = false := by
 rw [decide_eq_false]
 omega
theorem gap_small (d u v : Nat) (hd : d ≤ 6) (hv : v ≤ 500) (h : u ≤ (2 * d + 3) * v) : decide ((u : Int) > wrap64 (wrap64 (wrap64 (2 * (d : Int)) + 3) * (v : Int))) = false := by
 have h4 : (2 * d + 3) * v ≤ 15 * 500 := Nat.mul_le_mul (by omega) hv
 have e0 : wrap64 (wrap64 (2 * (d : Int)) + 3) = ((2 * d + 3 : Nat) : Int) := by rw [wrap_id (x := 2 * (d : Int)) (by omega) (by omega), wrap_id (by omega) (by omega)]; omega
 rw [e0, ← Int.natCast_mul]
 clear e0
 generalize (2 * d + 3) * v = M at *
 rw [wrap_id (by omega) (by omega)]
 exact le_dec u M h
theorem e_j0 (l : List Int) (hb : Bytes l) (b d x n : Int) (k : Nat) (hk : 2000 ≤ k) (XE : List Int) (ok : Bool) (E u v : Int) (hok : ok = asked b d x n) (hXE : asked b d x n = true → XE = ints (outS b d x n).ends) (hE : asked b d x n = true → E = sumE b d x n)
  (hu : asked b d x n = true → ∀ k, 1100 ≤ k → impl_EscapeGap.f k b d x n = some (u, v, true)) : laws_FnEscapesCounted.j0 k l b d n XE ok E false u v = some true := by
 obtain ⟨k, rfl⟩ : ∃ m, k = m + 1 := ⟨k - 1, by omega⟩
 have hk1 : 1200 ≤ k := by omega
 have hk2 : 1000 ≤ k := by omega
 have hk3 : 1800 ≤ k := by omega
 have hk4 : 300 ≤ k := by omega
 clear hk
 simp only [laws_FnEscapesCounted.j0]
 rw [if_neg (by decide)]
 cases hq : asked b d x n with
 | false =>
  rw [hok, hq, if_neg (by decide)]
  exact e_j5 l hb k hk1
 | true =>
  have hs0 := (sum_le 1 _ (out_small hq).1)
  have hs1 := (out_len hq).1
  have hv := hu hq 1100 (Nat.le_refl _)
  have hEE := hE hq
  have hXX := hXE hq
  have gv := gap_val b d x n hq
  have hsE : sumE b d x n = (((outS b d x n).ends.sum : Nat) : Int) := sumI_ints _
  rw [hsE] at gv hEE
  rw [hok, hq, if_pos rfl, hEE, hXX]
  clear hok hXE hE hu hEE hXX hsE
  obtain ⟨b1, d1, x1, n1, rfl, rfl, rfl, rfl, K⟩ := known_of hq
  clear hq
  generalize outS (b1 : Int) (d1 : Int) (x1 : Int) (n1 : Int) = S at *
  obtain ⟨g, c1, c2, N, C⟩ := chance_tree b1 d1 K.tree
  have hSE : S.ends.sum ≤ 200 := by omega
  obtain ⟨a, ha⟩ : ∃ a, a = (((S.ends.sum : Nat) : Int) * (c2 : Int) - (n1 : Int) * (c1 : Int)).natAbs := ⟨_, rfl⟩
  have hn := K.n2
  rw [gv (by omega) c1 c2 (chance_all C.ec) C.c0 C.c1s C.c2s 1100 (Nat.le_refl _) a ha] at hv
  simp only [Option.some.injEq, Prod.mk.injEq, and_true] at hv
  obtain ⟨rfl, rfl⟩ := hv
  have hj1 := e_j1 l hb K C hSE a ha k hk3
  obtain ⟨E, T, M, so⟩ := K.good.so
  have l1 : ((ints S.ends).length : Int) = (n1 : Int) := by rw [ints_len, so.le]
  have e3 : laws_xSum.f k (ints S.ends) = some ((S.ends.sum : Nat) : Int) := by
   have h1 : (ints S.ends).length ≤ 200 := by rw [ints_len, so.le]; exact hn
   have h2 : absI (ints S.ends) ≤ 4611686018427387904 := by rw [absI_ints]; clear l1 ha; omega
   rw [xSum_eq _ (by omega) h2 k (by omega), sumI_ints]
  have hd := K.d6
  have hgap := low_le a c2 (2 * d1 + 3) C.c0 (gap_facts K C hSE a ha)
  have h6 := gap_small d1 (a / Nat.gcd a c2) (c2 / Nat.gcd a c2) (by omega) (Nat.le_trans (Nat.div_le_self _ _) C.c2s) hgap
  rw [h6, C.alike.ic k hk2, Option.bind_some, C.alike.ir k hk2, Option.bind_some, if_pos l1, e3, Option.bind_some, if_pos rfl, if_pos rfl, if_pos rfl]
  exact hj1
theorem FnEscapesCounted : laws_FnEscapesCounted.Pure := by
 intro l0 l1 _ _ h0 _ _ h1
 have B0 := bytes_of h0
 have B1 := bytes_of h1
 refine ⟨5000, ?_⟩
 obtain ⟨g, hg⟩ := big_some l0 l1
 unfold laws_FnEscapesCounted.f
 rw [hg, Option.bind_some]
 cases g with
 | true => rw [if_pos rfl]
 | false =>
 rw [if_neg (by decide)]
 obtain ⟨b, d, x, n, e⟩ := escape_some B0
 obtain ⟨u, v, hgap⟩ := both_gaps b d x n
 obtain ⟨XE, hXE⟩ : ∃ X, X = (if asked b d x n = true then ints (outS b d x n).ends else []) := ⟨_, rfl⟩
 obtain ⟨E, hE⟩ : ∃ X, X = (if asked b d x n = true then sumE b d x n else 0) := ⟨_, rfl⟩
 have hgap' := fun k hk => (hgap k hk).2
 obtain ⟨ok, hok⟩ : ∃ ok, ok = asked b d x n := ⟨_, rfl⟩
 have e1 : impl_EscapeList.f b d x n = some (XE, ok) := by rw [hXE, hok]; rfl
 have e2 : spec_EscapeList.f b d x n = some (XE, ok) := by rw [hXE, hok]; rfl
 have e3 : impl_EscapesOf.f 5000 b d x n = some (E, ok) := by rw [hE, hok, impl_escapes b d x n 5000 (by omega)]
 have e4 : spec_EscapesOf.f b d x n = some (E, ok) := by rw [hE, hok]; rfl
 have e5 : impl_EscapeGap.f 5000 b d x n = some (u, v, ok) := by rw [hok]; exact (hgap 5000 (by omega)).2
 have e6 : spec_EscapeGap.f 5000 b d x n = some (u, v, ok) := by rw [hok]; exact (hgap 5000 (by omega)).1
 have hT : XE.length ≤ 200 := by rw [hXE]; exact list_len b d x n (fun s => s.ends) (fun s => .inl rfl)
 rw [e 5000 (by omega), Option.bind_some, e1, Option.bind_some, e2, Option.bind_some, e3, Option.bind_some, e4, Option.bind_some, e5, Option.bind_some, e6, Option.bind_some]
 simp only [bne_self_eq_false, beq_self_eq_true, Bool.not_true, Bool.or_self, Bool.false_eq_true, if_false, if_true]
 rw [xSame_refl XE (by omega) 5000 (by omega), Option.bind_some, if_pos rfl]
 exact e_j0 l1 B1 b d x n 5000 (by omega) XE ok E u v hok (fun h => by rw [hXE, if_pos h]) (fun h => by rw [hE, if_pos h]) (fun h k hk => by rw [hgap' k hk, h])
end Go.Proofs.Ytmechelmnpoddaa.Pure
