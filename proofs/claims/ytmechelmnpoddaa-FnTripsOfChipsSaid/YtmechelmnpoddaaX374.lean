/-
  Texts of the seat, merged (part 4).
-/
import Derived.Laws.BitsLemmas
import Derived.Test.YtmechelmnpoddaaX373
set_option linter.unusedVariables false
set_option linter.unusedSimpArgs false
namespace Go.Proofs.Ytmechelmnpoddaa.H7
open Go.RowKit YtmechelmnpoddaaW.PrintWords YtmechelmnpoddaaW.PrintLast
open A7 E7 F7
open Es (nth)
theorem xSame_loop (l : List Int) (hn : l.length ≤ 1000000000000) (d : Nat) : ∀ (k i : Nat), i + d = l.length → d < k → laws_xSame.l0 k l l (l.length : Int) (i : Int) = some true := by
 induction d with
 | zero =>
  intro k i hi hk
  obtain ⟨k, rfl⟩ : ∃ m, k = m + 1 := ⟨k - 1, by omega⟩
  simp only [laws_xSame.l0]
  rw [if_neg (by omega)]
 | succ d ih =>
  intro k i hi hk
  obtain ⟨k, rfl⟩ : ∃ m, k = m + 1 := ⟨k - 1, by omega⟩
  simp only [laws_xSame.l0]
  have e2 : wrap64 ((i : Int) + 1) = ((i + 1 : Nat) : Int) := by rw [wrap_id (by omega) (by omega)]; omega
  rw [if_pos (by omega), if_pos (by omega), if_pos (by omega), if_pos (by omega), if_pos trivial, e2]
  exact ih k (i + 1) (by omega) (by omega)
theorem xSame_refl (l : List Int) (hn : l.length ≤ 1000000000000) (k : Nat) (hk : l.length < k) : laws_xSame.f k l l = some true := by
 unfold laws_xSame.f
 rw [if_pos rfl]
 exact xSame_loop l hn l.length k 0 (by omega) hk
theorem xMost_loop (l : List Int) (hn : l.length ≤ 1000000000000) (d : Nat) : ∀ (k i : Nat) (m : Int), i + d = l.length → d < k → laws_xMost.l0 k m l (l.length : Int) (i : Int) = some (mostI m (l.drop i)) := by
 induction d with
 | zero =>
  intro k i m hi hk
  obtain ⟨k, rfl⟩ : ∃ m, k = m + 1 := ⟨k - 1, by omega⟩
  simp only [laws_xMost.l0]
  rw [if_neg (by omega), List.drop_of_length_le (by omega)]
  rfl
 | succ d ih =>
  intro k i m hi hk
  obtain ⟨k, rfl⟩ : ∃ m, k = m + 1 := ⟨k - 1, by omega⟩
  have hlt : i < l.length := by omega
  simp only [laws_xMost.l0]
  have e2 : wrap64 ((i : Int) + 1) = ((i + 1 : Nat) : Int) := by rw [wrap_id (by omega) (by omega)]; omega
  rw [if_pos (by omega), if_pos (by omega), if_pos (by omega), rd_at l i hlt, e2, ih k (i + 1) _ (by omega) (by omega), ih k (i + 1) _ (by omega) (by omega), drop_step l i hlt]
  simp only [mostI]
  by_cases h1 : l[i] > m
  ·rw [if_pos h1, if_neg (by omega)]
  ·rw [if_neg h1]
   by_cases h2 : m > l[i]
   ·rw [if_pos h2]
   ·rw [if_neg h2, show m = l[i] by omega]
theorem xMost_eq (l : List Int) (hn : l.length ≤ 1000000000000) (k : Nat) (hk : l.length < k) : laws_xMost.f k l = some (mostI 0 l) := by
 have h := xMost_loop l hn l.length k 0 0 (by omega) hk
 simpa [laws_xMost.f] using h
theorem xSum_eq (l : List Int) (hn : l.length ≤ 1000000000000) (hb : absI l ≤ 4611686018427387904) (k : Nat) (hk : l.length < k) : laws_xSum.f k l = some (sumI l) := by
 have h := sum_loop laws_xSum.l0 (fun _ _ _ _ _ => rfl) l hn l.length k 0 0 (by omega) hk (by left; simpa using hb)
 simpa [laws_xSum.f] using h
theorem sumI_ints : ∀ (l : List Nat), sumI (ints l) = ((l.sum : Nat) : Int)
 | [] => rfl
 | x :: t => by
  rw [show ints (x :: t) = (x : Int) :: ints t from rfl]
  simp only [sumI, List.sum_cons]
  rw [sumI_ints t]
  omega
theorem absI_ints : ∀ (l : List Nat), absI (ints l) = ((l.sum : Nat) : Int)
 | [] => rfl
 | x :: t => by
  rw [show ints (x :: t) = (x : Int) :: ints t from rfl]
  simp only [absI, List.sum_cons]
  rw [absI_ints t, if_neg (by omega)]
  omega
theorem sum_le (B : Nat) : ∀ (l : List Nat), (∀ x ∈ l, x ≤ B) → l.sum ≤ l.length * B
 | [], _ => by simp
 | x :: t, h => by
  have h1 := sum_le B t (fun y hy => h y (List.mem_cons_of_mem _ hy))
  have h2 := h x List.mem_cons_self
  simp only [List.sum_cons, List.length_cons, Nat.succ_mul]
  omega
def Bytes (l : List Int) : Prop := ∀ x ∈ l, 0 ≤ x ∧ x ≤ 255
theorem mask255 (x : Int) (h0 : 0 ≤ x) (h1 : x < 18446744073709551616) : Go.bits .and .u64 x 255 = x % 256 :=
 bits_mask .u64 64 (by decide) (fun n a b => by simp [IntKind.wrap, IntKind.bits, IntKind.signed]; omega) 8 (by decide) x h0 (by omega)
theorem u64_range (x : Int) : 0 ≤ IntKind.u64.wrap x ∧ IntKind.u64.wrap x < 18446744073709551616 := by simp [IntKind.wrap, IntKind.bits, IntKind.signed]; omega
theorem drawn_byte (x : Int) : 0 ≤ wrap64 (Go.bits .and .u64 (IntKind.u64.wrap x / 1099511627776) 255) ∧ wrap64 (Go.bits .and .u64 (IntKind.u64.wrap x / 1099511627776) 255) ≤ 255 := by
 have h := u64_range x
 generalize IntKind.u64.wrap x = y at *
 rw [mask255 _ (by omega) (by omega), wrap_id (by omega) (by omega)]
 omega
theorem next_some {l : List Int} (hb : Bytes l) {p : Int} (h0 : 0 ≤ p) (h1 : p ≤ 1000000) (sd : Int) : ∃ x s1, spec_l1Cur_next.f l p sd = some (x, p + 1, s1) ∧ 0 ≤ x ∧ x ≤ 255 := by
 have e : wrap64 (p + 1) = p + 1 := wrap_id (by omega) (by omega)
 unfold spec_l1Cur_next.f
 rw [e]
 by_cases h2 : p < (l.length : Int)
 ·rw [if_pos h2, if_pos h0, if_pos (by omega)]
  have h3 : 0 ≤ rd l p ∧ rd l p ≤ 255 := by
   have := rd_at l p.toNat (by omega)
   rw [Int.toNat_of_nonneg h0] at this
   rw [this]
   exact hb _ (List.getElem_mem _)
  exact ⟨_, _, rfl, by rw [wrap_id (by omega) (by omega)]; exact h3⟩
 ·rw [if_neg h2, if_neg (by omega)]
  exact ⟨_, _, rfl, drawn_byte _⟩
theorem pick_some {l : List Int} (hb : Bytes l) {p : Int} (h0 : 0 ≤ p) (h1 : p ≤ 1000000) (sd : Int) {n : Int} (hn : 1 < n) (hn2 : n ≤ 200) : ∃ x s1, spec_l1Cur_pick.f l p sd n = some (x, p + 1, s1) ∧ 0 ≤ x ∧ x < n := by
 obtain ⟨x, s1, e, hx⟩ := next_some hb h0 h1 sd
 unfold spec_l1Cur_pick.f
 rw [if_neg (by omega), e]
 simp only [Option.bind_some]
 rw [if_neg (by omega), if_neg (by omega)]
 refine ⟨_, _, rfl, ?_⟩
 rw [Int.tmod_eq_emod_of_nonneg hx.1]
 exact ⟨Int.emod_nonneg _ (by omega), Int.emod_lt_of_pos _ (by omega)⟩
theorem among_some {l : List Int} (hb : Bytes l) {p : Int} (h0 : 0 ≤ p) (h1 : p ≤ 1000000) (sd : Int) (L : List Int) (hn : 1 < L.length) (hn2 : L.length ≤ 200) : ∃ x s1, spec_l1Cur_among.f l p sd L = some (x, p + 1, s1) := by
 obtain ⟨x, s1, e, hx⟩ := pick_some hb h0 h1 sd (n := (L.length : Int)) (by omega) (by omega)
 unfold spec_l1Cur_among.f
 rw [e]
 simp only [Option.bind_some]
 rw [if_pos hx.1, if_pos hx.2]
 exact ⟨_, _, rfl⟩
theorem one_some {l : List Int} (hb : Bytes l) {p : Int} (h0 : 0 ≤ p) (h1 : p ≤ 1000000) (sd : Int) {n : Int} (hn : 1 < n) (hn2 : n ≤ 200) : ∃ x s1, spec_l1Cur_one.f l p sd n = some (x, p + 1, s1) := by
 obtain ⟨x, s1, e, hx⟩ := pick_some hb h0 h1 sd hn hn2
 unfold spec_l1Cur_one.f
 rw [e]
 exact ⟨_, _, rfl⟩
theorem branch_some {l : List Int} (hb : Bytes l) {p : Int} (h0 : 0 ≤ p) (h1 : p ≤ 1000) (sd : Int) : ∃ b d q s1, spec_l1Cur_branch.f l p sd = some (b, d, q, s1) ∧ 0 ≤ q ∧ q ≤ p + 3 := by
 obtain ⟨x, s1, e1⟩ := one_some hb h0 (by omega) sd (n := 14) (by omega) (by omega)
 unfold spec_l1Cur_branch.f
 rw [e1]
 simp only [Option.bind_some]
 cases x with
 | true =>
  obtain ⟨y, s2, e2⟩ := among_some hb (p := p + 1) (by omega) (by omega) s1 [1, 4, 2, 3, (-1), 4611686018427387904] (by decide) (by decide)
  obtain ⟨z, s3, e3⟩ := among_some hb (p := p + 1 + 1) (by omega) (by omega) s2 [0, 7, 5, 6, (-1), 4611686018427387904] (by decide) (by decide)
  rw [if_pos rfl, e2]
  simp only [Option.bind_some]
  rw [e3]
  exact ⟨_, _, p + 1 + 1 + 1, _, rfl, by omega, by omega⟩
 | false =>
  obtain ⟨y, s2, e2⟩ := one_some hb (p := p + 1) (by omega) (by omega) s1 (n := 2) (by omega) (by omega)
  rw [if_neg (by decide), e2]
  simp only [Option.bind_some]
  cases y with
  | true =>
   obtain ⟨z, s3, e3, _⟩ := pick_some hb (p := p + 1 + 1) (by omega) (by omega) s2 (n := 6) (by omega) (by omega)
   rw [if_pos rfl, e3]
   exact ⟨_, _, p + 1 + 1 + 1, _, rfl, by omega, by omega⟩
  | false =>
   obtain ⟨z, s3, e3, _⟩ := pick_some hb (p := p + 1 + 1) (by omega) (by omega) s2 (n := 4) (by omega) (by omega)
   rw [if_neg (by decide), e3]
   exact ⟨_, _, p + 1 + 1 + 1, _, rfl, by omega, by omega⟩
theorem nodes_all (b d : Int) : ∃ N : Nat, ∀ k, 30 ≤ k → spec_esNodes.f k b d = some (N : Int) := by
 obtain ⟨N, h, _⟩ := nodes_of b d
 refine ⟨N, fun k hk => ?_⟩
 obtain ⟨m, rfl⟩ : ∃ m, k = 30 + m := ⟨k - 30, by omega⟩
 clear hk
 induction m with
 | zero => exact h
 | succ m ih => exact spec_esNodes.mono b d (30 + m) _ ih
theorem escape_some {l : List Int} (hb : Bytes l) : ∃ b d x n, ∀ k, 30 ≤ k → spec_DrawEscapeList.f k l = some (b, d, x, n) := by
 obtain ⟨b, d, q, s1, e1, hq0, hq1⟩ := branch_some hb (Int.le_refl 0) (by omega) 0
 obtain ⟨n, s2, e2⟩ := among_some hb hq0 (by omega) s1 [0, 1, 3, 7, 20, 63, 127, 200, 201, (-1)] (by decide) (by decide)
 obtain ⟨y, s3, e3⟩ := one_some hb (p := q + 1) (by omega) (by omega) s2 (n := 3) (by omega) (by omega)
 obtain ⟨N, e4⟩ := nodes_all b d
 obtain ⟨x, s5, e5⟩ := among_some hb (p := q + 1 + 1) (by omega) (by omega) s3 [0, 1, 2, 3, 0, 1, 2, 4, (-1)] (by decide) (by decide)
 refine ⟨b, d, x, if y = true then (if 0 < (N : Int) then (N : Int) else n) else n, fun k hk => ?_⟩
 unfold spec_DrawEscapeList.f
 rw [e1]
 simp only [Option.bind_some]
 rw [e2]
 simp only [Option.bind_some]
 rw [e3]
 simp only [Option.bind_some]
 rw [e4 k hk]
 simp only [Option.bind_some]
 rw [e5]
 rfl
theorem rotors_some {l : List Int} (hb : Bytes l) : ∃ b d x n lv, ∀ k, 30 ≤ k → spec_DrawRotorsOnLevel.f k l = some (b, d, x, n, lv) := by
 obtain ⟨b, d, x, n, e⟩ := escape_some hb
 obtain ⟨lv, s1, e1⟩ := among_some hb (Int.le_refl 0) (by omega) 0 [0, 1, 2, 3, wrap64 (d - 1), d, (-1)] (by simp) (by simp)
 refine ⟨b, d, x, n, lv, fun k hk => ?_⟩
 unfold spec_DrawRotorsOnLevel.f
 rw [e k hk]
 simp only [Option.bind_some]
 rw [e1]
 rfl
theorem bytes_of {l : List Int} (h : ∀ x ∈ l, (Lit.int .u8 x).wf = true) : Bytes l := by
 intro x hx
 have := h x hx
 have e1 : IntKind.u8.min = 0 := rfl
 have e2 : IntKind.u8.max = 255 := rfl
 simp [Lit.wf, e1, e2] at this
 omega
theorem big_some (l0 l1 : List Int) : ∃ b, laws_big.f l0 l1 = some b := by
 unfold laws_big.f
 split
 ·exact ⟨_, rfl⟩
 ·exact ⟨_, rfl⟩
structure Known (b d x n : Nat) (S : Es.St) : Prop where
 good : Es.Good b d (Es.inner b d) x n S
 tree : (b, d) ∈ Es.trees
 b2 : 2 ≤ b
 b3 : b ≤ 3
 d1 : 1 ≤ d
 d6 : d ≤ 6
 x3 : x ≤ b
 n2 : n ≤ 200
 few : Es.inner b d + b ^ d ≤ 130
 nodes : spec_esNodes.f 30 (b : Int) (d : Int) = some ((Es.inner b d + b ^ d : Nat) : Int)
 power : spec_esPower.f 30 (b : Int) (d : Int) = some ((b ^ d : Nat) : Int)
theorem tree_pow (b d : Nat) (h : (b, d) ∈ Es.trees) : spec_esPower.f 30 (b : Int) (d : Int) = some ((b ^ d : Nat) : Int) ∧ spec_esNodes.f 30 (b : Int) (d : Int) = some ((Es.inner b d + b ^ d : Nat) : Int) ∧ Es.inner b d + b ^ d ≤ 130 := by
 simp only [Es.trees, List.mem_cons, Prod.mk.injEq, List.mem_nil_iff, or_false] at h
 rcases h with ⟨rfl, rfl⟩ | ⟨rfl, rfl⟩ | ⟨rfl, rfl⟩ | ⟨rfl, rfl⟩ | ⟨rfl, rfl⟩ | ⟨rfl, rfl⟩ | ⟨rfl, rfl⟩ | ⟨rfl, rfl⟩ | ⟨rfl, rfl⟩ | ⟨rfl, rfl⟩ <;> exact ⟨by decide +kernel, by decide +kernel, by decide⟩
theorem known_of {b d x n : Int} (h : asked b d x n = true) : ∃ b1 d1 x1 n1 : Nat, b = b1 ∧ d = d1 ∧ x = x1 ∧ n = n1 ∧ Known b1 d1 x1 n1 (outS b d x n) := by
 obtain ⟨b1, d1, k1, n1, N, p, rfl, rfl, rfl, rfl, ht, hk, hn, hT, hc⟩ := asked_tree h
 obtain ⟨e1, e2, e3⟩ := tree_pow b1 d1 ht
 exact ⟨b1, d1, k1, n1, rfl, rfl, rfl, rfl, Es.good_is b1 d1 k1 n1 ht hk hn _ hc, ht, hT.b2, hT.b3, hT.d1, hT.d6, hk, hn, e3, e2, e1⟩
end Go.Proofs.Ytmechelmnpoddaa.H7
namespace Go.Proofs.Ytmechelmnpoddaa.Pure
open Go.RowKit F9 F7 YtmechelmnpoddaaW.PrintWords YtmechelmnpoddaaW.PrintLast
open H7 E7
open Es (nth)
theorem up1 (i : Nat) (h : i ≤ 1000000) : wrap64 ((i : Int) + 1) = ((i + 1 : Nat) : Int) := by rw [wrap_id (by omega) (by omega)]; omega
theorem mem_le_sum : ∀ (l : List Nat) (i : Nat), nth l i ≤ l.sum
 | [], i => by simp [nth]
 | x :: t, 0 => by simp [nth]
 | x :: t, i + 1 => by
  have := mem_le_sum t i
  have e : nth (x :: t) (i + 1) = nth t i := by simp [nth]
  rw [e]
  simp only [List.sum_cons]
  omega
theorem take_sum (l : List Nat) (i : Nat) (h : i < l.length) : (l.take (i + 1)).sum = (l.take i).sum + nth l i := by
 rw [List.take_succ_eq_append_getElem h, List.sum_append]
 simp [nth, h]
theorem nth_mem (l : List Nat) (i : Nat) (h : i < l.length) : nth l i ∈ l := by
 have : nth l i = l[i] := by simp [nth, h]
 rw [this]
 exact List.getElem_mem _
theorem t_l3 (b d n : Int) (hq : asked b d 0 n = true) (hb : 2 ≤ b) (hb3 : b ≤ 3) : ∀ (m i k : Nat), i + m = (turnedL b d n).length → 300 + m ≤ k →
  laws_FnTripsOfChips.l3 k b d n (turnedL b d n) ((turnedL b d n).length : Int) (i : Int) = some true := by
 have hl : (turnedL b d n).length = b.toNat + 1 := by simp [turnedL]
 intro m
 induction m with
 | zero =>
  intro i k hi hk
  obtain ⟨k, rfl⟩ : ∃ m, k = m + 1 := ⟨k - 1, by omega⟩
  simp only [laws_FnTripsOfChips.l3]
  rw [if_neg (by omega)]
 | succ m ih =>
  intro i k hi hk
  obtain ⟨k, rfl⟩ : ∃ m, k = m + 1 := ⟨k - 1, by omega⟩
  have hlt : i < (turnedL b d n).length := by omega
  simp only [laws_FnTripsOfChips.l3]
  rw [if_pos (by omega), if_pos (by omega), if_pos (by omega), impl_escapes b d (i : Int) n k (by omega), asked_turn hq (by omega) (by omega)]
  simp only [Option.bind_some, if_true]
  have e : rd (turnedL b d n) (i : Int) = sumE b d (i : Int) n := by rw [rd_at _ _ hlt]; simp [turnedL]
  rw [e, if_pos rfl, up1 i (by omega)]
  exact ih (i + 1) k (by omega) (by omega)
theorem t_j8 (l : List Int) (hb : Bytes l) (k : Nat) (hk : 1500 ≤ k) : laws_FnTripsOfChips.j8 k l = some true := by
 obtain ⟨b, d, x, n, e⟩ := escape_some hb
 obtain ⟨k, rfl⟩ : ∃ m, k = m + 1 := ⟨k - 1, by omega⟩
 simp only [laws_FnTripsOfChips.j8]
 have e1 : spec_DrawTurnedEscapes.f k l = some (b, d, n) := by unfold spec_DrawTurnedEscapes.f; rw [e k (by omega)]; rfl
 rw [e1]
 simp only [Option.bind_some]
 rw [turned_impl b d n k (by omega)]
 have e2 : spec_TurnedEscapes.f b d n = some (if asked b d 0 n = true then turnedL b d n else [], asked b d 0 n) := rfl
 simp only [Option.bind_some]
 rw [e2]
 simp only [Option.bind_some, bne_self_eq_false]
 have hlen : (if asked b d 0 n = true then turnedL b d n else []).length ≤ 200 := by
  split
  ·rename_i h; exact turned_len b d n h
  ·exact Nat.zero_le _
 rw [xSame_refl _ (by omega) k (by omega)]
 simp only [Option.bind_some, Bool.false_eq_true, if_false]
 obtain ⟨k, rfl⟩ : ∃ m, k = m + 1 := ⟨k - 1, by omega⟩
 simp only [laws_FnTripsOfChips.j9]
 cases hq : asked b d 0 n with
 | false => simp
 | true =>
  simp only [Bool.not_true, Bool.false_eq_true, if_false, if_true]
  obtain ⟨b1, d1, x1, n1, rfl, rfl, _, rfl, K⟩ := known_of hq
  have := K.b2
  have := K.b3
  exact t_l3 _ _ _ hq (by omega) (by omega) (turnedL (b1 : Int) (d1 : Int) (n1 : Int)).length 0 k (by omega) (by have := turned_len _ _ _ hq; omega)
theorem t_l2 (l : List Int) (hb : Bytes l) {b d x n : Nat} {S : Es.St} (K : Known b d x n S) (lv : Nat) (hlv : lv < d) (hvis : S.vis.sum ≤ 100000000) (R : List Nat) (hR : R = (S.rot.drop (Es.inner b lv)).take (b ^ lv)) (hlen : R.length = b ^ lv) (hl : b ^ lv ≤ 130) : ∀ (m i k : Nat) (a : Int), i + m = R.length → 1600 + m ≤ k → a = (((R.take i).sum : Nat) : Int) - (i : Int) * (x : Int) → -3 * (i : Int) ≤ a → a ≤ 3 * (i : Int) →
  laws_FnTripsOfChips.l2 k l (b : Int) (x : Int) (lv : Int) (ints S.vis) a (ints R) (R.length : Int) (i : Int) = some true := by
 have hrb : ∀ r ∈ R, r ≤ b := by
  obtain ⟨E, T, M, so⟩ := K.good.so
  intro r hr
  rw [hR] at hr
  exact so.rb r (List.mem_of_mem_drop (List.mem_of_mem_take hr))
 have hb3 := K.b3
 have hb2 := K.b2
 have hx := K.x3
 intro m
 induction m with
 | zero =>
  intro i k a hi hk ha ha1 ha2
  obtain ⟨k, rfl⟩ : ∃ m, k = m + 1 := ⟨k - 1, by omega⟩
  simp only [laws_FnTripsOfChips.l2]
  have hvl : S.vis.length = d + 1 := by obtain ⟨E, T, M, so⟩ := K.good.so; exact so.f.lv
  have hv := mem_le_sum S.vis lv
  rw [if_neg (by omega), if_pos (by omega), if_pos (by rw [ints_len]; omega), rd_ints, wrap_id (x := (b : Int) + 1) (by omega) (by omega), if_neg (by omega)]
  have hi' : i = R.length := by omega
  rw [hi', List.take_of_length_le (Nat.le_refl _)] at ha
  have hlev := K.good.lev lv hlv
  rw [← hR] at hlev
  have hd : ((b : Int) + 1) ∣ wrap64 (a - (nth S.vis lv : Int)) := by
   rw [wrap_id (by omega) (by omega), ha, hlen]
   have e : ((b ^ lv : Nat) : Int) * (x : Int) = ((x * b ^ lv : Nat) : Int) := by rw [Nat.mul_comm]; simp
   rw [e]
   generalize x * b ^ lv = X at *
   have hb' : b = 2 ∨ b = 3 := by omega
   rcases hb' with rfl | rfl
   ·show ((3 : Int)) ∣ _
    omega
   ·show ((4 : Int)) ∣ _
    omega
  rw [Int.tmod_eq_zero_of_dvd hd, wrap_id (by omega) (by omega), Int.zero_add, Int.tmod_self, if_pos rfl]
  exact t_j8 l hb k (by omega)
 | succ m ih =>
  intro i k a hi hk ha ha1 ha2
  obtain ⟨k, rfl⟩ : ∃ m, k = m + 1 := ⟨k - 1, by omega⟩
  have hlt : i < R.length := by omega
  have hr := hrb _ (nth_mem R i hlt)
  simp only [laws_FnTripsOfChips.l2]
  rw [if_pos (by omega), if_pos (by omega), if_pos (by rw [ints_len]; omega), rd_ints, if_neg (by omega), if_neg (by omega), up1 i (by omega), wrap_id (x := (nth R i : Int) - (x : Int)) (by omega) (by omega), wrap_id (by omega) (by omega)]
  refine ih (i + 1) k _ (by omega) (by omega) ?_ (by omega) (by omega)
  rw [take_sum R i hlt, ha]
  have e : ((i + 1 : Nat) : Int) * (x : Int) = (i : Int) * (x : Int) + (x : Int) := by rw [Int.natCast_add, Int.add_mul]; simp
  rw [e]
  omega
theorem t_l1 (l : List Int) (hb : Bytes l) {b d x n : Nat} {S : Es.St} (hS : S = outS (b : Int) (d : Int) (x : Int) (n : Int)) (hq : asked (b : Int) (d : Int) (x : Int) (n : Int) = true) (K : Known b d x n S) (lv : Nat) (hlv : lv < d) (hvis : S.vis.sum ≤ 100000000) (R : List Nat) (hR : R = (S.rot.drop (Es.inner b lv)).take (b ^ lv)) (hlen : R.length = b ^ lv) (hl : b ^ lv ≤ 130) : ∀ (m i k : Nat), i + m = lv → 2000 + m ≤ k →
  laws_FnTripsOfChips.l1 k l (b : Int) (d : Int) (x : Int) (n : Int) (lv : Int) (ints R) ((b ^ i : Nat) : Int) (i : Int) = some true := by
 have hb3 := K.b3
 have hb2 := K.b2
 have hd6 := K.d6
 intro m
 induction m with
 | zero =>
  intro i k hi hk
  obtain ⟨k, rfl⟩ : ∃ m, k = m + 1 := ⟨k - 1, by omega⟩
  obtain rfl : i = lv := by omega
  simp only [laws_FnTripsOfChips.l1]
  have e2 : impl_LevelVisits.f (b : Int) (d : Int) (x : Int) (n : Int) = some (ints S.vis, true) := by unfold impl_LevelVisits.f; rw [hq, if_pos rfl, hS]
  rw [if_neg (by omega), e2]
  simp only [Option.bind_some, if_true]
  obtain ⟨k, rfl⟩ : ∃ m, k = m + 1 := ⟨k - 1, by omega⟩
  simp only [laws_FnTripsOfChips.j6]
  have e3 : (((ints R).length : Int) != ((b ^ i : Nat) : Int)) = false := by rw [ints_len, hlen]; simp
  rw [e3, if_neg (by decide), ints_len]
  exact t_l2 l hb K i hlv hvis R hR hlen hl _ 0 k 0 (Nat.zero_add _) (by omega) (by simp) (by omega) (by omega)
 | succ m ih =>
  intro i k hi hk
  obtain ⟨k, rfl⟩ : ∃ m, k = m + 1 := ⟨k - 1, by omega⟩
  simp only [laws_FnTripsOfChips.l1]
  have hp : b ^ (i + 1) ≤ 130 := Nat.le_trans (Nat.pow_le_pow_right (by omega) (by omega)) hl
  have e : ((b ^ i : Nat) : Int) * (b : Int) = ((b ^ (i + 1) : Nat) : Int) := by rw [Nat.pow_succ]; simp
  rw [if_pos (by omega), up1 i (by omega), e, wrap_id (by omega) (by omega)]
  exact ih (i + 1) k (by omega) (by omega)
theorem vis_small {b d x n : Int} (h : asked b d x n = true) {b1 d1 x1 n1 : Nat} (K : Known b1 d1 x1 n1 (outS b d x n)) : (outS b d x n).trips.sum ≤ 20000000 ∧ (outS b d x n).ends.sum ≤ 200 ∧ (outS b d x n).vis.sum ≤ 100000000 := by
 have h1 := sum_le 100000 _ (out_small h).2
 have h2 := sum_le 1 _ (out_small h).1
 have h3 := out_len h
 have h4 := K.good.all
 have h5 : (outS b d x n).trips.length * 100000 ≤ 200 * 100000 := Nat.mul_le_mul_right _ h3.2.1
 omega
theorem t_j3 (l : List Int) (hb : Bytes l) (k : Nat) (hk : 2500 ≤ k) : laws_FnTripsOfChips.j3 k l = some true := by
 obtain ⟨b, d, x, n, lv, e⟩ := rotors_some hb
 obtain ⟨k, rfl⟩ : ∃ m, k = m + 1 := ⟨k - 1, by omega⟩
 simp only [laws_FnTripsOfChips.j3]
 rw [e k (by omega)]
 have e1 : impl_RotorsOnLevel.f b d x n lv = some (if lasked b d x n lv = true then ints (rowOf b d x n lv) else [], lasked b d x n lv) := rfl
 have e2 : spec_RotorsOnLevel.f b d x n lv = some (if lasked b d x n lv = true then ints (rowOf b d x n lv) else [], lasked b d x n lv) := rfl
 simp only [Option.bind_some]
 rw [e1, e2]
 simp only [Option.bind_some, bne_self_eq_false]
 cases hq : lasked b d x n lv with
 | false =>
  rw [if_neg (by decide), if_neg (by decide), xSame_refl _ (by simp) k (by simp; omega)]
  simp only [Option.bind_some]
  obtain ⟨k, rfl⟩ : ∃ m, k = m + 1 := ⟨k - 1, by omega⟩
  simp only [laws_FnTripsOfChips.j4]
  rw [if_neg (by decide), if_neg (by decide)]
  exact t_j8 l hb k (by omega)
 | true =>
  obtain ⟨ha, b', d', l', f', p', rfl, rfl, rfl, hl1, hl2, hl3, hL, hrow, _⟩ := lasked_is hq
  obtain ⟨b1, d1, x1, n1, eb, ed, rfl, rfl, K⟩ := known_of ha
  obtain rfl : b' = b1 := by omega
  obtain rfl : d' = d1 := by omega
  have hvs := vis_small ha K
  have hlev := lev_is b' d' l' K.tree hl1
  have hR : rowOf (b' : Int) (d' : Int) (x1 : Int) (n1 : Int) (l' : Int) = ((outS (b' : Int) (d' : Int) (x1 : Int) (n1 : Int)).rot.drop (Es.inner b' l')).take (b' ^ l') := by
   unfold rowOf
   rw [Int.toNat_natCast, Int.toNat_natCast]
  have hrl : (outS (b' : Int) (d' : Int) (x1 : Int) (n1 : Int)).rot.length = Es.inner b' d' := by obtain ⟨E, T, M, so⟩ := K.good.so; exact so.f.lr
  have hf := hlev.fits
  have hfew := hlev.few
  have hlen : (rowOf (b' : Int) (d' : Int) (x1 : Int) (n1 : Int) (l' : Int)).length = b' ^ l' := by
   rw [hR, List.length_take, List.length_drop, hrl]
   omega
  rw [if_neg (by decide), if_pos rfl, xSame_refl _ (by rw [ints_len]; omega) k (by rw [ints_len]; omega)]
  simp only [Option.bind_some]
  obtain ⟨k, rfl⟩ : ∃ m, k = m + 1 := ⟨k - 1, by omega⟩
  simp only [laws_FnTripsOfChips.j4]
  rw [if_neg (by decide), if_pos trivial]
  exact t_l1 l hb rfl ha K l' hl1 hvs.2.2 _ hR hlen (by omega) l' 0 k (by omega) (by omega)
theorem tm_up (t d : Nat) (h4 : d ≤ t) (h5 : (t - d) % 2 = 0) (ht : t ≤ 20000000) : ¬ ((t : Int) < (d : Int)) ∧ Int.tmod (wrap64 ((t : Int) - (d : Int))) 2 = 0 := by
 refine ⟨by omega, ?_⟩
 rw [wrap_id (by omega) (by omega), Int.tmod_eq_emod_of_nonneg (by omega)]
 omega
theorem tm_home (t : Nat) (h : t % 2 = 1) : Int.tmod (t : Int) 2 = 1 := by
 rw [Int.tmod_eq_emod_of_nonneg (by omega)]
 omega
theorem lt_of (i n : Nat) (h : i < n) : (i : Int) < (n : Int) := by omega
theorem is1 (e : Nat) (h : e = 1) : (e : Int) = 1 ∧ ¬ ((e : Int) = 0) := by omega
theorem is0 (e : Nat) (h : e < 2) (h' : ¬ e = 1) : e = 0 ∧ ¬ ((e : Int) = 1) ∧ (e : Int) = 0 := by omega
theorem t_l0 (l : List Int) (hb : Bytes l) {b d x n : Nat} {S : Es.St} (K : Known b d x n S) (ht : S.trips.sum ≤ 20000000) : ∀ (m i k : Nat), i + m = n → 2600 + m ≤ k →
  laws_FnTripsOfChips.l0 k l (d : Int) (ints S.ends) (ints S.trips) ((ints S.trips).length : Int) (i : Int) = some true := by
 obtain ⟨E, T, M, so⟩ := K.good.so
 have hn := K.n2
 have hd := K.d6
 intro m
 induction m with
 | zero =>
  intro i k hi hk
  obtain ⟨k, rfl⟩ : ∃ m, k = m + 1 := ⟨k - 1, by omega⟩
  simp only [laws_FnTripsOfChips.l0]
  rw [ints_len, so.lt, if_neg (by omega)]
  exact t_j3 l hb k (by omega)
 | succ m ih =>
  intro i k hi hk
  obtain ⟨k, rfl⟩ : ∃ m, k = m + 1 := ⟨k - 1, by omega⟩
  have ih' := ih (i + 1) k (by omega) (by omega)
  have hin : i < n := by omega
  have h2 := so.e2 _ (nth_mem S.ends i (by rw [so.le]; exact hin))
  have h1 := so.one i hin
  have h3 : nth S.trips i ≤ 20000000 := Nat.le_trans (mem_le_sum S.trips i) ht
  have hI := lt_of i n hin
  rw [ints_len, so.lt] at ih'
  simp only [laws_FnTripsOfChips.l0]
  rw [ints_len, ints_len, so.lt, so.le, if_pos hI, if_pos (Int.natCast_nonneg i), if_pos hI, if_pos hI, rd_ints, rd_ints, up1 i (by omega)]
  by_cases h0 : nth S.ends i = 1
  ·obtain ⟨h4, h5⟩ := h1.1 h0
   obtain ⟨h6, h7⟩ := tm_up _ _ h4 h5 h3
   obtain ⟨h8, h9⟩ := is1 _ h0
   rw [if_pos h8, if_neg h6, if_pos h7, if_neg h9]
   exact ih'
  ·obtain ⟨h4, h5, h6⟩ := is0 _ h2 h0
   have h7 := tm_home _ (h1.2 h4)
   rw [if_neg h5, if_pos h6, if_pos h7]
   exact ih'
theorem sumE_eq (b d x n : Int) : sumE b d x n = (((outS b d x n).ends.sum : Nat) : Int) := sumI_ints _
theorem sums_of {b d x n : Nat} {S : Es.St} (K : Known b d x n S) (ht : S.trips.sum ≤ 20000000 ∧ S.ends.sum ≤ 200 ∧ S.vis.sum ≤ 100000000) (k : Nat) (hk : 300 ≤ k) : laws_xMost.f k (ints S.trips) = some (mostI 0 (ints S.trips)) ∧ laws_xSum.f k (ints S.vis) = some ((S.vis.sum : Nat) : Int) ∧ laws_xSum.f k (ints S.trips) = some ((S.trips.sum : Nat) : Int) := by
 obtain ⟨E, T, M, so⟩ := K.good.so
 have hn := K.n2
 have hd := K.d6
 have l1 : (ints S.trips).length = n := by rw [ints_len, so.lt]
 have l2 : (ints S.vis).length = d + 1 := by rw [ints_len, so.f.lv]
 have b1 : absI (ints S.vis) ≤ 4611686018427387904 := by rw [absI_ints]; have := ht.2.2; clear ht; omega
 have b2 : absI (ints S.trips) ≤ 4611686018427387904 := by rw [absI_ints]; have := ht.1; clear ht; omega
 refine ⟨xMost_eq _ (by omega) k (by omega), ?_, ?_⟩
 ·rw [xSum_eq _ (by omega) b1 k (by omega), sumI_ints]
 ·rw [xSum_eq _ (by omega) b2 k (by omega), sumI_ints]
theorem j1_sum (n v t e : Nat) (hn : n ≤ 200) (ht : t ≤ 20000000) (he : e ≤ 200) (h : v = t + e) : ((v : Nat) : Int) = wrap64 (wrap64 ((n : Int) + (t : Int)) - wrap64 ((n : Int) - (e : Int))) := by
 rw [wrap_id (x := (n : Int) + (t : Int)) (by omega) (by omega), wrap_id (x := (n : Int) - (e : Int)) (by omega) (by omega), wrap_id (by omega) (by omega)]
 omega
theorem t_j1 (l : List Int) (hb : Bytes l) {b d x n : Nat} {S : Es.St} (K : Known b d x n S) (ht : S.trips.sum ≤ 20000000 ∧ S.ends.sum ≤ 200 ∧ S.vis.sum ≤ 100000000) (k : Nat) (hk : 3000 ≤ k) :
  laws_FnTripsOfChips.j1 k l (d : Int) (n : Int) (ints S.trips) (ints S.vis) ((S.ends.sum : Nat) : Int) (ints S.ends) false = some true := by
 obtain ⟨k, rfl⟩ : ∃ m, k = m + 1 := ⟨k - 1, by omega⟩
 obtain ⟨_, e4, e5⟩ := sums_of K ht k (by omega)
 have e6 := j1_sum n _ _ _ K.n2 ht.1 ht.2.1 K.good.all
 have hn := K.n2
 simp only [laws_FnTripsOfChips.j1]
 rw [if_neg (by decide), e4, Option.bind_some, e5, Option.bind_some, if_pos e6]
 exact t_l0 l hb K ht.1 n 0 k (Nat.zero_add n) (by omega)
theorem t_j0 (l : List Int) (hb : Bytes l) (b d x n : Int) (k : Nat) (hk : 4000 ≤ k) (XT XV : List Int) (ok : Bool) (lg : Int) (hok : ok = asked b d x n) (hXT : asked b d x n = true → XT = ints (outS b d x n).trips) (hXV : asked b d x n = true → XV = ints (outS b d x n).vis)
  (hlg : asked b d x n = true → lg = longest b d x n) : laws_FnTripsOfChips.j0 k l b d x n XT ok lg XV false = some true := by
 obtain ⟨k, rfl⟩ : ∃ m, k = m + 1 := ⟨k - 1, by omega⟩
 have hk2 : 3000 ≤ k := by omega
 have hk3 : 201 ≤ k := by omega
 have hk4 : 300 ≤ k := by omega
 have hk5 : 2500 ≤ k := by omega
 clear hk
 simp only [laws_FnTripsOfChips.j0]
 rw [if_neg (by decide)]
 cases hq : asked b d x n with
 | false =>
  rw [hok, hq, if_neg (by decide)]
  exact t_j3 l hb k hk5
 | true =>
  have e1 : impl_EscapesOf.f k b d x n = some (sumE b d x n, true) := by rw [impl_escapes b d x n k hk3, hq, if_pos rfl]
  have e2 : impl_EscapeList.f b d x n = some (ints (outS b d x n).ends, true) := by unfold impl_EscapeList.f; rw [hq, if_pos rfl]
  rw [hok, hq, if_pos rfl, e1, e2, hXT hq, hXV hq, hlg hq, sumE_eq]
  have HL : longest b d x n = mostI 0 (ints (outS b d x n).trips) := rfl
  rw [HL]
  clear hok hXT hXV hlg e1 e2 HL
  obtain ⟨b1, d1, x1, n1, rfl, rfl, rfl, rfl, K⟩ := known_of hq
  have hs := vis_small hq K
  clear hq
  generalize outS (b1 : Int) (d1 : Int) (x1 : Int) (n1 : Int) = S at *
  have hj1 := t_j1 l hb K hs k hk2
  obtain ⟨e3, _, _⟩ := sums_of K hs k hk4
  obtain ⟨E, T, M, so⟩ := K.good.so
  have hd := K.d6
  have hlast := K.good.last
  have l1 : ((ints S.trips).length : Int) = (n1 : Int) := by rw [ints_len, so.lt]
  have l2 : ((ints S.vis).length : Int) = wrap64 ((d1 : Int) + 1) := by rw [ints_len, so.f.lv, up1 d1 (by omega)]
  have l3 : (d1 : Int) < ((ints S.vis).length : Int) := by rw [ints_len, so.f.lv]; omega
  have l4 : rd (ints S.vis) (d1 : Int) = ((S.ends.sum : Nat) : Int) := by rw [rd_ints, hlast]
  simp only [Option.bind_some, if_true]
  rw [if_pos l1, e3]
  simp only [Option.bind_some, if_true]
  rw [if_pos l2, if_pos (Int.natCast_nonneg d1), if_pos l3, l4, bne_self_eq_false]
  exact hj1
theorem FnTripsOfChips : laws_FnTripsOfChips.Pure := by
 intro l0 l1 _ _ h0 _ _ h1
 have B0 := bytes_of h0
 have B1 := bytes_of h1
 refine ⟨5000, ?_⟩
 obtain ⟨g, hg⟩ := big_some l0 l1
 unfold laws_FnTripsOfChips.f
 rw [hg]
 simp only [Option.bind_some]
 cases g with
 | true => rw [if_pos rfl]
 | false =>
 rw [if_neg (by decide)]
 obtain ⟨b, d, x, n, e⟩ := escape_some B0
 have e0 : spec_DrawTripsOf.f 5000 l0 = some (b, d, x, n) := by unfold spec_DrawTripsOf.f; rw [e 5000 (by omega)]; rfl
 rw [e0]
 simp only [Option.bind_some]
 obtain ⟨XT, hXT⟩ : ∃ X, X = (if asked b d x n = true then ints (outS b d x n).trips else []) := ⟨_, rfl⟩
 obtain ⟨XV, hXV⟩ : ∃ X, X = (if asked b d x n = true then ints (outS b d x n).vis else []) := ⟨_, rfl⟩
 obtain ⟨lg, hlg⟩ : ∃ X, X = (if asked b d x n = true then longest b d x n else 0) := ⟨_, rfl⟩
 obtain ⟨ok, hok⟩ : ∃ ok, ok = asked b d x n := ⟨_, rfl⟩
 have e1 : impl_TripsOf.f b d x n = some (XT, ok) := by rw [hXT, hok]; rfl
 have e2 : spec_TripsOf.f b d x n = some (XT, ok) := by rw [hXT, hok]; rfl
 have e3 : impl_LongestTrip.f b d x n = some (lg, ok) := by rw [hlg, hok]; rfl
 have e4 : spec_LongestTrip.f b d x n = some (lg, ok) := by rw [hlg, hok]; rfl
 have e5 : impl_LevelVisits.f b d x n = some (XV, ok) := by rw [hXV, hok]; rfl
 have e6 : spec_LevelVisits.f b d x n = some (XV, ok) := by rw [hXV, hok]; rfl
 have hT : XT.length ≤ 200 := by rw [hXT]; exact list_len b d x n (fun s => s.trips) (fun s => .inr (.inl rfl))
 have hV : XV.length ≤ 200 := by rw [hXV]; exact list_len b d x n (fun s => s.vis) (fun s => .inr (.inr (.inr rfl)))
 rw [e1, e2, e3, e4, e5, e6]
 simp only [Option.bind_some, bne_self_eq_false]
 rw [xSame_refl XT (by omega) 5000 (by omega), xSame_refl XV (by omega) 5000 (by omega)]
 simp only [Option.bind_some, if_true, Bool.false_eq_true, if_false]
 exact t_j0 l1 B1 b d x n 5000 (by omega) XT XV ok lg hok (fun h => by rw [hXT, if_pos h]) (fun h => by rw [hXV, if_pos h]) (fun h => by rw [hlg, if_pos h])
end Go.Proofs.Ytmechelmnpoddaa.Pure
