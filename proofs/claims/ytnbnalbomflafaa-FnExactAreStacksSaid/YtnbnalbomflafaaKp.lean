/-
  What the laws' small functions on lists of lists answer: sizes, copies, equal ones; what a graph is. Plain lists: no memory here.
-/
import Derived.Test.YtnbnalbomflafaaKb
namespace Go.Proofs.Ytnbnalbomflafaa.KA
open Go.RowKit Go.Proofs.YtnbnalbomflafaaW.PrintWords Go.Proofs.YtnbnalbomflafaaW.PrintLast
open Go.Proofs.Ytnbnalbomflafaa.GA
set_option linter.unusedVariables false
set_option linter.unusedSimpArgs false

theorem wrap_id {x : Int} (h0 : -9223372036854775808 ≤ x) (h1 : x ≤ 9223372036854775807) : wrap64 x = x := by unfold wrap64; omega
theorem wrap_up {i n : Nat} (h : i < n) (hn : n ≤ 1000000000000) : wrap64 ((i : Int) + 1) = ((i + 1 : Nat) : Int) := by rw [wrap_id (by omega) (by omega)]; omega
theorem rd_at (l : List Int) (i : Nat) (h : i < l.length) : rd l (i : Int) = l[i] := by
  unfold rd
  rw [Int.toNat_natCast, List.getD_eq_getElem?_getD, List.getElem?_eq_getElem h]
  rfl
theorem rdL_at (l : List (List Int)) (i : Nat) (h : i < l.length) : rd_L1 l (i : Int) = l[i] := by
  unfold rd_L1
  rw [Int.toNat_natCast, List.getD_eq_getElem?_getD, List.getElem?_eq_getElem h]
  rfl
theorem succ_of {d k : Nat} (h : d < k) : ∃ m, k = m + 1 := ⟨k - 1, by omega⟩

/-! ### Sizes -/
theorem szS (r : List Int) (x : Int) (hr : r.length ≤ 9223372036854775807) (h0 : 0 ≤ x) (h1 : x ≤ 1048576) : ∃ y, laws_szIntS.f r x = some y ∧ (y < 0 ∨ (0 ≤ y ∧ y ≤ 1048576 ∧ r.length ≤ 1048576)) := by
  unfold laws_szIntS.f
  rw [wrap_id (by omega) (by omega)]
  split
  · exact ⟨_, rfl, .inl (by decide)⟩
  · exact ⟨_, rfl, .inr ⟨by omega, by omega, by omega⟩⟩
theorem szSS_loop (l : List (List Int)) (hl : l.length ≤ 1048576) (h2 : ∀ r ∈ l, r.length ≤ 9223372036854775807) (d : Nat) : ∀ (k i : Nat) (x : Int), i + d = l.length → d < k → 0 ≤ x → x ≤ 1048576 →
    ∃ y, (∀ j, laws_szIntSS.l0 (k + j) l x (i : Int) = some y) ∧ (y < 0 ∨ ∀ r ∈ l.drop i, r.length ≤ 1048576) := by
  induction d with
  | zero =>
    intro k i x hi hk h0 h1
    refine ⟨x, fun j => ?_, .inr (by rw [List.drop_of_length_le (by omega)]; simp)⟩
    obtain ⟨k, rfl⟩ := succ_of hk
    rw [show k + 1 + j = (k + j) + 1 by omega]
    simp only [laws_szIntSS.l0]
    rw [if_neg (by omega)]
  | succ d ih =>
    intro k i x hi hk h0 h1
    obtain ⟨k, rfl⟩ := succ_of hk
    have hlt : i < l.length := by omega
    obtain ⟨y, hy, hy2⟩ := szS l[i] x (h2 _ (List.getElem_mem hlt)) h0 h1
    rcases (show y < 0 ∨ 0 ≤ y by omega) with hneg | hpos
    · refine ⟨-1, fun j => ?_, .inl (by decide)⟩
      rw [show k + 1 + j = (k + j) + 1 by omega]
      simp only [laws_szIntSS.l0]
      rw [if_pos (by omega), if_pos (by omega), rdL_at l i hlt, hy]
      simp only [Option.bind_some]
      rw [if_pos hneg]
    · have hb : 0 ≤ y ∧ y ≤ 1048576 ∧ l[i].length ≤ 1048576 := by omega
      obtain ⟨z, hz, hz2⟩ := ih k (i + 1) y (by omega) (by omega) hb.1 hb.2.1
      refine ⟨z, fun j => ?_, ?_⟩
      · rw [show k + 1 + j = (k + j) + 1 by omega]
        simp only [laws_szIntSS.l0]
        rw [if_pos (by omega), if_pos (by omega), rdL_at l i hlt, hy]
        simp only [Option.bind_some]
        rw [if_neg (by omega), wrap_up hlt (by omega)]
        exact hz j
      · rcases hz2 with h | h
        · exact .inl h
        · right
          rw [List.drop_eq_getElem_cons hlt]
          intro r hr
          rcases List.mem_cons.1 hr with rfl | hr
          · exact hb.2.2
          · exact h r hr
/-- A list of lists is too great, or it and its lists are no longer than 2^20. -/
theorem szSS (l : List (List Int)) (x : Int) (h0 : l.length ≤ 9223372036854775807) (h2 : ∀ r ∈ l, r.length ≤ 9223372036854775807) (hx : 0 ≤ x) (hx1 : x ≤ 1048576) :
    ∃ y, (∀ j, laws_szIntSS.f (1048600 + j) l x = some y) ∧ (y < 0 ∨ (l.length ≤ 1048576 ∧ ∀ r ∈ l, r.length ≤ 1048576)) := by
  unfold laws_szIntSS.f
  rw [wrap_id (by omega) (by omega)]
  by_cases hs : x - (l.length : Int) < 0
  · exact ⟨-1, fun j => by rw [if_pos hs], .inl (by decide)⟩
  · obtain ⟨y, hy, hy2⟩ := szSS_loop l (by omega) h2 l.length 1048600 0 (x - l.length) (by omega) (by omega) (by omega) (by omega)
    refine ⟨y, fun j => by rw [if_neg hs]; exact hy j, ?_⟩
    rcases hy2 with h | h
    · exact .inl h
    · exact .inr ⟨by omega, by simpa using h⟩
theorem szGraph (l : List (List Int)) (h0 : l.length ≤ 9223372036854775807) (h2 : ∀ r ∈ l, r.length ≤ 9223372036854775807) :
    ∃ y, (∀ j, laws_szGraph.f (1048600 + j) l 1048576 = some y) ∧ (y < 0 ∨ (0 ≤ y ∧ l.length ≤ 1048576 ∧ ∀ r ∈ l, r.length ≤ 1048576)) := by
  obtain ⟨y, hy, hy2⟩ := szSS l 1048576 h0 h2 (by decide) (by decide)
  unfold laws_szGraph.f
  rcases (show y < 0 ∨ 0 ≤ y by omega) with h | h
  · refine ⟨-1, fun j => ?_, .inl (by decide)⟩
    rw [hy]
    simp only [Option.bind_some]
    rw [if_pos h]
  · refine ⟨y, fun j => ?_, .inr ⟨h, ?_⟩⟩
    · rw [hy]
      simp only [Option.bind_some]
      rw [if_neg (by omega)]
    · rcases hy2 with h' | h'
      · omega
      · exact h'

/-! ### Copies -/
theorem toS_loop (l : List Int) (hl : l.length ≤ 1048576) (d : Nat) : ∀ (k i : Nat) (x : List Int), i + d = l.length → d < k → x.length = l.length → x.take i = l.take i → laws_toIntS.l0 k l x (i : Int) = some l := by
  induction d with
  | zero =>
    intro k i x hi hk hx ht
    obtain ⟨k, rfl⟩ := succ_of hk
    simp only [laws_toIntS.l0]
    rw [if_neg (by omega)]
    rw [List.take_of_length_le (by omega), List.take_of_length_le (by omega)] at ht
    rw [ht]
  | succ d ih =>
    intro k i x hi hk hx ht
    obtain ⟨k, rfl⟩ := succ_of hk
    have hlt : i < l.length := by omega
    simp only [laws_toIntS.l0]
    rw [if_pos (by omega), if_pos (by omega), if_pos (by omega), rd_at l i hlt, wrap_up hlt (by omega), Int.toNat_natCast]
    refine ih k (i + 1) _ (by omega) (by omega) (by simpa using hx) ?_
    rw [List.take_succ_eq_append_getElem hlt, List.take_succ_eq_append_getElem (by rw [List.length_set]; omega), List.take_set_of_le (Nat.le_refl _), ht]
    simp
theorem toS (l : List Int) (hl : l.length ≤ 1048576) (k : Nat) (hk : l.length < k) : laws_toIntS.f k l = some l := by
  unfold laws_toIntS.f
  rw [if_pos (by omega), if_pos (by simp; omega)]
  exact toS_loop l hl l.length k 0 _ (by omega) hk (by simp) (by simp)
theorem toSS_loop (l : List (List Int)) (hl : l.length ≤ 1048576) (h2 : ∀ r ∈ l, r.length ≤ 1048576) (d : Nat) : ∀ (k i : Nat) (x : List (List Int)), i + d = l.length → d + 1048577 < k → x.length = l.length → x.take i = l.take i → laws_toIntSS.l0 k l x (i : Int) = some l := by
  induction d with
  | zero =>
    intro k i x hi hk hx ht
    obtain ⟨k, rfl⟩ := succ_of hk
    simp only [laws_toIntSS.l0]
    rw [if_neg (by omega)]
    rw [List.take_of_length_le (by omega), List.take_of_length_le (by omega)] at ht
    rw [ht]
  | succ d ih =>
    intro k i x hi hk hx ht
    obtain ⟨k, rfl⟩ := succ_of hk
    have hlt : i < l.length := by omega
    simp only [laws_toIntSS.l0]
    rw [if_pos (by omega), if_pos (by omega), rdL_at l i hlt, toS l[i] (h2 _ (List.getElem_mem hlt)) k (by have := h2 _ (List.getElem_mem hlt); omega)]
    simp only [Option.bind_some]
    rw [if_pos (by omega), wrap_up hlt (by omega), Int.toNat_natCast]
    refine ih k (i + 1) _ (by omega) (by omega) (by simpa using hx) ?_
    rw [List.take_succ_eq_append_getElem hlt, List.take_succ_eq_append_getElem (by rw [List.length_set]; omega), List.take_set_of_le (Nat.le_refl _), ht]
    simp
theorem toSS (l : List (List Int)) (hl : l.length ≤ 1048576) (h2 : ∀ r ∈ l, r.length ≤ 1048576) (k : Nat) (hk : 2097160 < k) : laws_toIntSS.f k l = some l := by
  unfold laws_toIntSS.f
  rw [if_pos (by omega), if_pos (by simp; omega)]
  exact toSS_loop l hl h2 l.length k 0 _ (by omega) (by omega) (by simp) (by simp)
theorem toGraph (l : List (List Int)) (hl : l.length ≤ 1048576) (h2 : ∀ r ∈ l, r.length ≤ 1048576) (k : Nat) (hk : 2097160 < k) : laws_toGraph.f k l = some l := by
  unfold laws_toGraph.f
  rw [toSS l hl h2 k hk]
  rfl

/-! ### Equal ones -/
theorem eqS_loop (l : List Int) (hl : l.length ≤ 1048576) (d : Nat) : ∀ (k i : Nat), i + d = l.length → d < k → laws_eqIntS.l0 k l l (i : Int) = some true := by
  induction d with
  | zero =>
    intro k i hi hk
    obtain ⟨k, rfl⟩ := succ_of hk
    simp only [laws_eqIntS.l0]
    rw [if_neg (by omega)]
  | succ d ih =>
    intro k i hi hk
    obtain ⟨k, rfl⟩ := succ_of hk
    simp only [laws_eqIntS.l0]
    rw [if_pos (by omega), if_pos (by omega), if_pos (by omega), if_pos trivial, wrap_up (n := l.length) (by omega) (by omega)]
    exact ih k (i + 1) (by omega) (by omega)
theorem eqS (l : List Int) (hl : l.length ≤ 1048576) (k : Nat) (hk : l.length < k) : laws_eqIntS.f k l l = some true := by
  unfold laws_eqIntS.f
  rw [if_pos rfl]
  exact eqS_loop l hl l.length k 0 (by omega) hk
theorem eqSS_loop (l : List (List Int)) (hl : l.length ≤ 1048576) (h2 : ∀ r ∈ l, r.length ≤ 1048576) (d : Nat) : ∀ (k i : Nat), i + d = l.length → d + 1048577 < k → laws_eqIntSS.l0 k l l (i : Int) = some true := by
  induction d with
  | zero =>
    intro k i hi hk
    obtain ⟨k, rfl⟩ := succ_of hk
    simp only [laws_eqIntSS.l0]
    rw [if_neg (by omega)]
  | succ d ih =>
    intro k i hi hk
    obtain ⟨k, rfl⟩ := succ_of hk
    have hlt : i < l.length := by omega
    simp only [laws_eqIntSS.l0]
    rw [if_pos (by omega), if_pos (by omega), if_pos (by omega), rdL_at l i hlt, eqS l[i] (h2 _ (List.getElem_mem hlt)) k (by have := h2 _ (List.getElem_mem hlt); omega)]
    simp only [Option.bind_some, if_true]
    rw [wrap_up hlt (by omega)]
    exact ih k (i + 1) (by omega) (by omega)
theorem eqSS (l : List (List Int)) (hl : l.length ≤ 1048576) (h2 : ∀ r ∈ l, r.length ≤ 1048576) (k : Nat) (hk : 2097160 < k) : laws_eqIntSS.f k l l = some true := by
  unfold laws_eqIntSS.f
  rw [if_pos rfl]
  exact eqSS_loop l hl h2 l.length k 0 (by omega) (by omega)
theorem eqGraph (l : List (List Int)) (hl : l.length ≤ 1048576) (h2 : ∀ r ∈ l, r.length ≤ 1048576) (k : Nat) (hk : 2097160 < k) : laws_eqGraph.f k l l = some true := by
  unfold laws_eqGraph.f
  rw [eqSS l hl h2 k hk]
  rfl

/-! ### What a graph is, by the reference -/
theorem l1In_eq (a lo hi : Int) : spec_l1In.f a lo hi = some (inB a lo hi) := by
  unfold spec_l1In.f inB
  by_cases h1 : lo ≤ a
  · simp [h1]
  · simp [h1]
theorem l1All_loop (lo hi : Int) (l : List Int) (hn : l.length ≤ 1000000000) (d : Nat) : ∀ (k i : Nat), i + d = l.length → d < k → spec_l1All.l0 k lo hi l (l.length : Int) (i : Int) = some ((l.drop i).all fun x => inB x lo hi) := by
  induction d with
  | zero =>
    intro k i hi hk
    obtain ⟨k, rfl⟩ := succ_of hk
    unfold spec_l1All.l0
    rw [if_neg (by omega), List.drop_of_length_le (by omega)]
    rfl
  | succ d ih =>
    intro k i hi' hk
    obtain ⟨k, rfl⟩ := succ_of hk
    have hlt : i < l.length := by omega
    unfold spec_l1All.l0
    rw [if_pos (by omega), if_pos (by omega), if_pos (by omega), rd_at l i hlt, l1In_eq, List.drop_eq_getElem_cons hlt]
    simp only [Option.bind_some, List.all_cons]
    cases hx : inB l[i] lo hi with
    | true =>
      rw [if_pos rfl, wrap_up hlt (by omega), ih k (i + 1) (by omega) (by omega), Bool.true_and]
    | false => rw [if_neg (by decide), Bool.false_and]
theorem l1All_eq (lo hi : Int) (l : List Int) (hn : l.length ≤ 1000000000) (k : Nat) (hk : l.length < k) : spec_l1All.f k l lo hi = some (l.all fun x => inB x lo hi) := by
  have := l1All_loop lo hi l hn l.length k 0 (by omega) hk
  simpa [spec_l1All.f] using this
theorem okRow_eq (n : Int) (row : List Int) : okRow n row = (decide (row.length ≤ 5) && row.all fun x => inB x 0 (n - 1)) := by
  unfold okRow
  congr 1
  rw [List.not_any_eq_all_not]
  simp
theorem grGood_loop (l : List (List Int)) (hn : l.length ≤ 8) (d : Nat) : ∀ (k i : Nat), i + d = l.length → d + 7 < k → spec_grGood.l0 k (l.length : Int) l (l.length : Int) (i : Int) = some ((l.drop i).all (okRow l.length)) := by
  induction d with
  | zero =>
    intro k i hi hk
    obtain ⟨k, rfl⟩ := succ_of hk
    unfold spec_grGood.l0
    rw [if_neg (by omega), List.drop_of_length_le (by omega)]
    rfl
  | succ d ih =>
    intro k i hi hk
    obtain ⟨k, rfl⟩ := succ_of hk
    have hlt : i < l.length := by omega
    unfold spec_grGood.l0
    rw [if_pos (by omega), if_pos (by omega), if_pos (by omega), rdL_at l i hlt, List.drop_eq_getElem_cons hlt, List.all_cons, okRow_eq]
    by_cases h5 : l[i].length ≤ 5
    · rw [if_neg (by omega), wrap_id (by omega) (by omega), l1All_eq _ _ _ (by omega) k (by omega), decide_eq_true h5, Bool.true_and]
      simp only [Option.bind_some]
      cases hx : l[i].all fun x => inB x 0 ((l.length : Int) - 1) with
      | true => rw [if_pos rfl, wrap_up hlt (by omega), ih k (i + 1) (by omega) (by omega), Bool.true_and]
      | false => rw [if_neg (by decide), Bool.false_and]
    · rw [if_pos (by omega), decide_eq_false h5, Bool.false_and, Bool.false_and]
theorem grGood_eq (l : List (List Int)) (k : Nat) (hk : 20 ≤ k) : spec_grGood.f k l = some (isGraphB l) := by
  unfold spec_grGood.f
  rw [l1In_eq]
  simp only [Option.bind_some]
  by_cases hn : 1 ≤ l.length ∧ l.length ≤ 8
  · rw [show inB (l.length : Int) 1 8 = true from by simp [inB]; omega, if_pos rfl]
    have := grGood_loop l hn.2 l.length k 0 (by omega) (by omega)
    rw [List.drop_zero] at this
    rw [show (0 : Int) = ((0 : Nat) : Int) from rfl, this]
    simp [isGraphB, hn.1, hn.2]
  · rw [show inB (l.length : Int) 1 8 = false from by simp [inB]; omega, if_neg (by decide)]
    unfold isGraphB
    rw [decide_eq_false hn, Bool.false_and]
/-- There are a graph and a place of it. -/
def placeB (l : List (List Int)) (p : Int) : Bool := isGraphB l && inB p 0 ((l.length : Int) - 1)
theorem hasB_one (l : List (List Int)) (p : Int) : hasB l [p] = placeB l p := by simp [hasB, placeB]
theorem hasB_two (l : List (List Int)) (p q : Int) : hasB l [p, q] = (placeB l p && placeB l q) := by
  unfold hasB placeB
  cases isGraphB l <;> simp
theorem grPlace_eq (l : List (List Int)) (p : Int) (k : Nat) (hk : 20 ≤ k) : spec_grPlace.f k l p = some (placeB l p) := by
  unfold spec_grPlace.f placeB
  rw [grGood_eq l k hk]
  simp only [Option.bind_some]
  cases hg : isGraphB l with
  | false => rfl
  | true =>
    have := graph_len hg
    rw [if_pos rfl, wrap_id (by omega) (by omega), l1In_eq]
    rfl
theorem place_is {l : List (List Int)} {p : Int} (h : placeB l p = true) : isGraphB l = true ∧ 1 ≤ l.length ∧ l.length ≤ 8 ∧ 0 ≤ p ∧ p < l.length := by
  unfold placeB at h
  simp only [Bool.and_eq_true] at h
  have h1 := graph_len h.1
  have h2 := h.2
  simp only [inB, decide_eq_true_eq] at h2
  exact ⟨h.1, h1.1, h1.2, h2.1, by omega⟩
theorem graph_row {l : List (List Int)} (h : isGraphB l = true) {r : List Int} (hr : r ∈ l) : r.length ≤ 5 ∧ ∀ q ∈ r, 0 ≤ q ∧ q < l.length := by
  unfold isGraphB at h
  simp only [Bool.and_eq_true, List.all_eq_true] at h
  have h2 := h.2 r hr
  rw [okRow_eq] at h2
  simp only [Bool.and_eq_true, decide_eq_true_eq, List.all_eq_true] at h2
  exact ⟨h2.1, fun q hq => by have := h2.2 q hq; simp only [inB, decide_eq_true_eq] at this; omega⟩
end Go.Proofs.Ytnbnalbomflafaa.KA
