/-
  The least lengths of ways: the program's search and the reference's come to the same list. Plain lists: no memory here.
-/
import Derived.Test.YtnbnalbomflafaaHB
import Derived.Test.YtnbnalbomflafaaKp
namespace Go.Proofs.Ytnbnalbomflafaa.KA
open Go.RowKit Go.Proofs.YtnbnalbomflafaaW.PrintWords Go.Proofs.YtnbnalbomflafaaW.PrintLast
open Go.Proofs.Ytnbnalbomflafaa.GA Go.Proofs.Ytnbnalbomflafaa.GB Go.Proofs.Ytnbnalbomflafaa.HB
set_option linter.unusedVariables false
set_option linter.unusedSimpArgs false

theorem rdHB (l : List (List Int)) (i : Int) : HB.rd_L1 l i = GA.rd_L1 l i := rfl
theorem rdGB (l : List (List Int)) (i : Int) : GB.rd_L1 l i = GA.rd_L1 l i := rfl
/-- How many numbers are less than 0. -/
def neg : List Int → Nat
  | [] => 0
  | x :: t => (if x < 0 then 1 else 0) + neg t
theorem neg_le : ∀ l, neg l ≤ l.length
  | [] => Nat.le_refl _
  | x :: t => by have := neg_le t; simp only [neg, List.length_cons]; split <;> omega
theorem neg_set : ∀ (l : List Int) (i : Nat) (v : Int) (h : i < l.length), l[i] < 0 → 0 ≤ v → neg (l.set i v) + 1 = neg l
  | x :: t, 0, v, h, hx, hv => by
    simp only [List.set_cons_zero, neg]
    rw [List.getElem_cons_zero] at hx
    rw [if_neg (by omega), if_pos hx]
    omega
  | x :: t, i + 1, v, h, hx, hv => by
    simp only [List.set_cons_succ, neg]
    rw [List.getElem_cons_succ] at hx
    have := neg_set t i v (by simpa using h) hx hv
    omega
theorem neg_repl (n : Nat) : neg (List.replicate n (-1)) = n := by
  induction n with
  | zero => rfl
  | succ n ih =>
    rw [List.replicate_succ]
    simp only [neg]
    rw [ih, if_pos (by decide)]
    omega

/-- A row's places are met from the place h: the lengths, and the places that are new. -/
def relax (h : Int) : List Int → List Int → List Int × List Int
  | [], far => (far, [])
  | q :: row, far => if rd far q < 0 then ((relax h row (far.set q.toNat (wrap64 (rd far h + 1)))).1, q :: (relax h row (far.set q.toNat (wrap64 (rd far h + 1)))).2) else relax h row far

/-- What holds of lengths: how many places there are, none too great. -/
structure Fine (n : Nat) (far : List Int) : Prop where
  len : far.length = n
  up : ∀ x ∈ far, x + (neg far : Int) ≤ n
theorem rd_mem {far : List Int} {v : Int} (h0 : 0 ≤ v) (h1 : v < far.length) : rd far v ∈ far := by
  obtain ⟨i, rfl⟩ := Int.eq_ofNat_of_zero_le h0
  rw [rd_at far i (by omega)]
  exact List.getElem_mem _
theorem rd_set_other {far : List Int} {q v : Int} (y : Int) (h0 : 0 ≤ q) (h1 : 0 ≤ v) (hne : v ≠ q) : rd (far.set q.toNat y) v = rd far v := by
  unfold rd
  rw [List.getD_eq_getElem?_getD, List.getElem?_set_ne (by omega), ← List.getD_eq_getElem?_getD]
theorem rd_set_same {far : List Int} {q : Int} (y : Int) (h0 : 0 ≤ q) (h1 : q < far.length) : rd (far.set q.toNat y) q = y := by
  unfold rd
  rw [List.getD_eq_getElem?_getD, List.getElem?_set_self (by omega)]
  rfl
theorem fine_set {n : Nat} {far : List Int} {h q : Int} (hn : n ≤ 100) (f : Fine n far) (h0 : 0 ≤ h) (h1 : h < n) (hh : 0 ≤ rd far h) (q0 : 0 ≤ q) (q1 : q < n) (hq : rd far q < 0) :
    Fine n (far.set q.toNat (wrap64 (rd far h + 1))) ∧ neg (far.set q.toNat (wrap64 (rd far h + 1))) + 1 = neg far ∧ wrap64 (rd far h + 1) = rd far h + 1 := by
  have hl := f.len
  have hu := f.up _ (rd_mem h0 (by omega))
  have hw : wrap64 (rd far h + 1) = rd far h + 1 := wrap_id (by omega) (by omega)
  obtain ⟨i, rfl⟩ := Int.eq_ofNat_of_zero_le q0
  rw [Int.toNat_natCast, hw]
  rw [rd_at far i (by omega)] at hq
  have hs := neg_set far i (rd far h + 1) (by omega) hq (by omega)
  refine ⟨⟨by rw [List.length_set]; exact hl, fun x hx => ?_⟩, hs, rfl⟩
  rcases List.mem_or_eq_of_mem_set hx with h' | rfl
  · have := f.up x h'; omega
  · omega
structure Relaxed (n : Nat) (far : List Int) (r : List Int × List Int) : Prop where
  fine : Fine n r.1
  cnt : neg r.1 + r.2.length = neg far
  new : ∀ q ∈ r.2, 0 ≤ q ∧ q < n ∧ 0 ≤ rd r.1 q
  keep : ∀ v : Int, 0 ≤ v → v < n → 0 ≤ rd far v → 0 ≤ rd r.1 v
theorem relaxed {n : Nat} (hn : n ≤ 100) {h : Int} (h0 : 0 ≤ h) (h1 : h < n) : ∀ (row far : List Int), Fine n far → 0 ≤ rd far h → (∀ q ∈ row, 0 ≤ q ∧ q < n) → Relaxed n far (relax h row far)
  | [], far, f, hh, hr => ⟨f, rfl, by simp [relax], fun _ _ _ h => h⟩
  | q :: row, far, f, hh, hr => by
    have hq := hr q List.mem_cons_self
    have hr' : ∀ q ∈ row, 0 ≤ q ∧ q < n := fun x hx => hr x (List.mem_cons_of_mem _ hx)
    unfold relax
    split
    · rename_i hneg
      obtain ⟨f1, c1, w1⟩ := fine_set hn f h0 h1 hh hq.1 hq.2 hneg
      have hl := f.len
      have kq : ∀ v : Int, 0 ≤ v → v < n → 0 ≤ rd far v → 0 ≤ rd (far.set q.toNat (wrap64 (rd far h + 1))) v := fun v v0 v1 hv => by
        have hne : v ≠ q := by rintro rfl; omega
        rw [rd_set_other _ hq.1 v0 hne]; exact hv
      have ih := relaxed hn h0 h1 row _ f1 (kq h h0 h1 hh) hr'
      refine ⟨ih.fine, by have := ih.cnt; simp only [List.length_cons]; omega, fun x hx => ?_, fun v v0 v1 hv => ih.keep v v0 v1 (kq v v0 v1 hv)⟩
      rcases List.mem_cons.1 hx with rfl | hx
      · refine ⟨hq.1, hq.2, ih.keep x hq.1 hq.2 ?_⟩
        rw [rd_set_same _ hq.1 (by omega), w1]
        omega
      · exact ih.new x hx
    · exact relaxed hn h0 h1 row far f hh hr'

section
variable {l : List (List Int)} (hg : isGraphB l = true)
include hg
theorem impl_inner (h : Int) (h0 : 0 ≤ h) (h1 : h < l.length) (row : List Int) (hrow : ∀ q ∈ row, 0 ≤ q ∧ q < l.length) (h5 : row.length ≤ 5) (d : Nat) : ∀ (k i : Nat) (far rest : List Int), i + d = row.length → d < k → Fine l.length far → 0 ≤ rd far h → rest.length + neg far ≤ 100 →
    impl_Graph_lengths.l1 k far (h :: rest) row (row.length : Int) (i : Int) l = impl_Graph_lengths.l0 (k - d - 1) (relax h (row.drop i) far).1 (rest ++ (relax h (row.drop i) far).2) l := by
  have hn := (graph_len hg).2
  induction d with
  | zero =>
    intro k i far rest hi hk f hh hc
    obtain ⟨k, rfl⟩ := succ_of hk
    rw [List.drop_of_length_le (by omega)]
    simp only [impl_Graph_lengths.l1, relax, List.append_nil]
    rw [if_neg (by omega), if_pos (by simp only [List.length_cons]; omega)]
    rfl
  | succ d ih =>
    intro k i far rest hi hk f hh hc
    obtain ⟨k, rfl⟩ := succ_of hk
    have hlt : i < row.length := by omega
    have hq := hrow _ (List.getElem_mem hlt)
    have hl := f.len
    rw [List.drop_eq_getElem_cons hlt]
    simp only [impl_Graph_lengths.l1, relax]
    rw [if_pos (by omega), if_pos (by omega), if_pos (by omega), rd_at row i hlt, if_pos hq.1, if_pos (by omega), wrap_up hlt (by omega)]
    by_cases hneg : rd far row[i] < 0
    · obtain ⟨f1, c1, w1⟩ := fine_set (by omega) f h0 h1 hh hq.1 hq.2 hneg
      have hne : h ≠ row[i] := by intro e; rw [e] at hh; omega
      have e0 : rd (h :: rest) 0 = h := rfl
      have hh1 : 0 ≤ rd (far.set row[i].toNat (wrap64 (rd far h + 1))) h := by rw [rd_set_other _ hq.1 h0 hne]; exact hh
      rw [if_pos hneg, if_pos hneg, e0, if_pos (by simp only [List.length_cons]; omega), if_pos h0, if_pos (by omega), if_pos (by simp only [List.length_cons]; omega), List.cons_append]
      rw [ih k (i + 1) _ (rest ++ [row[i]]) (by omega) (by omega) f1 hh1 (by simp only [List.length_append, List.length_cons, List.length_nil]; omega)]
      rw [show k + 1 - (d + 1) - 1 = k - d - 1 by omega, List.append_assoc]
      rfl
    · rw [if_neg hneg, if_neg hneg, ih k (i + 1) far rest (by omega) (by omega) f hh hc, show k + 1 - (d + 1) - 1 = k - d - 1 by omega]
theorem spec_inner (h : Int) (h0 : 0 ≤ h) (h1 : h < l.length) (row : List Int) (hrow : ∀ q ∈ row, 0 ≤ q ∧ q < l.length) (h5 : row.length ≤ 5) (j : Nat) (d : Nat) : ∀ (k i : Nat) (far queue : List Int), i + d = row.length → d < k → Fine l.length far → 0 ≤ rd far h → queue.length + neg far ≤ 100 → j < queue.length → rd queue (j : Int) = h →
    spec_grFar.l2 k far queue (j : Int) row (row.length : Int) (i : Int) l = spec_grFar.l1 (k - d - 1) (relax h (row.drop i) far).1 (queue ++ (relax h (row.drop i) far).2) ((j + 1 : Nat) : Int) l := by
  have hn := (graph_len hg).2
  induction d with
  | zero =>
    intro k i far queue hi hk f hh hc hj hjh
    obtain ⟨k, rfl⟩ := succ_of hk
    rw [List.drop_of_length_le (by omega)]
    simp only [spec_grFar.l2, relax, List.append_nil]
    rw [if_neg (by omega), wrap_up hj (by omega)]
    rfl
  | succ d ih =>
    intro k i far queue hi hk f hh hc hj hjh
    obtain ⟨k, rfl⟩ := succ_of hk
    have hlt : i < row.length := by omega
    have hq := hrow _ (List.getElem_mem hlt)
    have hl := f.len
    rw [List.drop_eq_getElem_cons hlt]
    simp only [spec_grFar.l2, relax]
    rw [if_pos (by omega), if_pos (by omega), if_pos (by omega), rd_at row i hlt, if_pos hq.1, if_pos (by omega), wrap_up hlt (by omega), hjh]
    by_cases hneg : rd far row[i] < 0
    · obtain ⟨f1, c1, w1⟩ := fine_set (by omega) f h0 h1 hh hq.1 hq.2 hneg
      have hne : h ≠ row[i] := by intro e; rw [e] at hh; omega
      have hh1 : 0 ≤ rd (far.set row[i].toNat (wrap64 (rd far h + 1))) h := by rw [rd_set_other _ hq.1 h0 hne]; exact hh
      have hjh1 : rd (queue ++ [row[i]]) (j : Int) = h := by
        rw [← hjh, rd_at _ j hj, rd_at _ j (by simp; omega)]
        exact List.getElem_append_left hj
      rw [if_pos hneg, if_pos hneg, if_pos (by omega), if_pos (by omega), if_pos h0, if_pos (by omega), if_pos (by omega)]
      rw [ih k (i + 1) _ (queue ++ [row[i]]) (by omega) (by omega) f1 hh1 (by simp only [List.length_append, List.length_cons, List.length_nil]; omega) (by simp; omega) hjh1]
      rw [show k + 1 - (d + 1) - 1 = k - d - 1 by omega, List.append_assoc]
      rfl
    · rw [if_neg hneg, if_neg hneg, ih k (i + 1) far queue (by omega) (by omega) f hh hc hj hjh, show k + 1 - (d + 1) - 1 = k - d - 1 by omega]
/-- Both searches, from the same lengths and the same places that wait. -/
theorem both_outer (M : Nat) : ∀ (far queue : List Int) (j : Nat), Fine l.length far → j ≤ queue.length → neg far + (queue.drop j).length ≤ M → queue.length + neg far ≤ 50 → (∀ q ∈ queue.drop j, 0 ≤ q ∧ q < l.length ∧ 0 ≤ rd far q) →
    ∃ X, X.length = l.length ∧ ∀ k, 8 * M + 1 ≤ k → impl_Graph_lengths.l0 k far (queue.drop j) l = some X ∧ spec_grFar.l1 k far queue (j : Int) l = some X := by
  have hn := (graph_len hg).2
  induction M with
  | zero =>
    intro far queue j f hj hM hc hq
    refine ⟨far, f.len, fun k hk => ?_⟩
    obtain ⟨k, rfl⟩ := succ_of (show 0 < k by omega)
    have h0 : (queue.drop j).length = 0 := by omega
    have h1 : queue.drop j = [] := List.eq_nil_of_length_eq_zero h0
    rw [List.length_drop] at h0
    simp only [impl_Graph_lengths.l0, spec_grFar.l1]
    rw [h1, if_neg (by simp), if_neg (by omega)]
    exact ⟨rfl, rfl⟩
  | succ M ih =>
    intro far queue j f hj hM hc hq
    by_cases hlt : j < queue.length
    · have hd : queue.drop j = queue[j] :: queue.drop (j + 1) := List.drop_eq_getElem_cons hlt
      have hh := hq queue[j] (by rw [hd]; exact List.mem_cons_self)
      obtain ⟨a, ha⟩ : ∃ a : Nat, queue[j] = (a : Int) := ⟨queue[j].toNat, by omega⟩
      have hal : a < l.length := by omega
      obtain ⟨h5, hrow⟩ := graph_row hg (List.getElem_mem hal)
      have R := relaxed (by omega) hh.1 hh.2.1 l[a] far f hh.2.2 hrow
      have hlen : (queue.drop j).length = (queue.drop (j + 1)).length + 1 := by rw [hd]; rfl
      have hcnt := R.cnt
      have hq1 : ∀ q ∈ (queue ++ (relax queue[j] l[a] far).2).drop (j + 1), 0 ≤ q ∧ q < l.length ∧ 0 ≤ rd (relax queue[j] l[a] far).1 q := by
        intro q hq'
        rw [List.drop_append_of_le_length (by omega)] at hq'
        rcases List.mem_append.1 hq' with h' | h'
        · have := hq q (by rw [hd]; exact List.mem_cons_of_mem _ h')
          exact ⟨this.1, this.2.1, R.keep q this.1 this.2.1 this.2.2⟩
        · exact R.new q h'
      obtain ⟨X, hX, hk⟩ := ih (relax queue[j] l[a] far).1 (queue ++ (relax queue[j] l[a] far).2) (j + 1) R.fine (by rw [List.length_append]; omega) (by rw [List.drop_append_of_le_length (by omega), List.length_append]; omega) (by rw [List.length_append]; omega) hq1
      refine ⟨X, hX, fun k hk' => ?_⟩
      obtain ⟨k, rfl⟩ := succ_of (show 0 < k by omega)
      have e0 : rd (queue[j] :: queue.drop (j + 1)) 0 = queue[j] := rfl
      have e1 : GA.rd_L1 l queue[j] = l[a] := by rw [ha]; exact rdL_at l a hal
      have hk2 := hk (k - l[a].length - 1) (by omega)
      rw [List.drop_append_of_le_length (by omega)] at hk2
      simp only [impl_Graph_lengths.l0, spec_grFar.l1]
      constructor
      · rw [hd, if_pos (by simp only [List.length_cons]; omega), if_pos (by simp only [List.length_cons]; omega), e0, if_pos hh.1, if_pos hh.2.1, rdHB, e1]
        have := impl_inner hg queue[j] hh.1 hh.2.1 l[a] hrow h5 l[a].length k 0 far (queue.drop (j + 1)) (by omega) (by omega) f hh.2.2 (by rw [List.length_drop]; omega)
        rw [List.drop_zero] at this
        rw [show (0 : Int) = ((0 : Nat) : Int) from rfl, this]
        exact hk2.1
      · rw [if_pos (by omega), if_pos (by omega), rd_at queue j hlt, if_pos hh.1, if_pos hh.2.1, rdGB, e1]
        have := spec_inner hg queue[j] hh.1 hh.2.1 l[a] hrow h5 j l[a].length k 0 far queue (by omega) (by omega) f hh.2.2 (by omega) hlt (rd_at queue j hlt)
        rw [List.drop_zero] at this
        rw [show (0 : Int) = ((0 : Nat) : Int) from rfl, this]
        exact hk2.2
    · refine ⟨far, f.len, fun k hk => ?_⟩
      obtain ⟨k, rfl⟩ := succ_of (show 0 < k by omega)
      have h1 : queue.drop j = [] := List.drop_of_length_le (by omega)
      simp only [impl_Graph_lengths.l0, spec_grFar.l1]
      rw [h1, if_neg (by simp), if_neg (by omega)]
      exact ⟨rfl, rfl⟩
omit hg in
theorem far_fill (p : Nat) (n : Nat) (hn : n ≤ 100) (d : Nat) : ∀ (k i : Nat) (x : List Int), i + d = n → x.length = n → x.take i = List.replicate i (-1) → d < k →
    spec_grFar.l0 k (p : Int) x (n : Int) (i : Int) l = spec_grFar.l0 (k - d) (p : Int) (List.replicate n (-1)) (n : Int) (n : Int) l := by
  induction d with
  | zero =>
    intro k i x hi hx ht hk
    obtain rfl : i = n := by omega
    rw [List.take_of_length_le (by omega)] at ht
    rw [ht]
    rfl
  | succ d ih =>
    intro k i x hi hx ht hk
    obtain ⟨k, rfl⟩ := succ_of hk
    conv => lhs; unfold spec_grFar.l0
    rw [if_pos (by omega), if_pos (by omega), if_pos (by omega), wrap_up (n := n) (by omega) (by omega), Int.toNat_natCast]
    rw [ih k (i + 1) _ (by omega) (by rw [List.length_set]; exact hx) ?_ (by omega), show k + 1 - (d + 1) = k - d by omega]
    rw [List.take_succ_eq_append_getElem (by rw [List.length_set]; omega), List.take_set_of_le (Nat.le_refl _), ht, List.replicate_succ']
    simp
theorem both_far (p : Nat) (hp : p < l.length) : ∃ X, X.length = l.length ∧ ∀ k, 200 ≤ k → impl_Graph_lengths.f k l (p : Int) = some X ∧ spec_grFar.f k l (p : Int) = some X := by
  have hn := graph_len hg
  have hr : ((List.replicate l.length (-1 : Int)).set p 0).length = l.length := by simp
  have hs := neg_set (List.replicate l.length (-1)) p 0 (by simpa using hp) (by simp) (by decide)
  rw [neg_repl] at hs
  have f0 : Fine l.length ((List.replicate l.length (-1 : Int)).set p 0) := ⟨hr, fun x hx => by
    rcases List.mem_or_eq_of_mem_set hx with h' | rfl
    · have := List.eq_of_mem_replicate h'; omega
    · omega⟩
  obtain ⟨X, hX, hk⟩ := both_outer hg 10 ((List.replicate l.length (-1 : Int)).set p 0) [(p : Int)] 0 f0 (by simp) (by simp; omega) (by simp; omega) (by
    intro q hq
    simp at hq
    subst hq
    refine ⟨by omega, by omega, ?_⟩
    rw [rd_at _ p (by rw [hr]; exact hp)]
    simp)
  refine ⟨X, hX, fun k hk' => ⟨?_, ?_⟩⟩
  · unfold impl_Graph_lengths.f slices_Repeat_int_int.f
    simp only
    rw [if_pos (by omega)]
    simp only [Option.bind_some]
    rw [if_pos (by omega), if_pos (by simp; omega), Int.toNat_natCast, Int.toNat_natCast]
    have := (hk k (by omega)).1
    rw [List.drop_zero] at this
    exact this
  · unfold spec_grFar.f
    rw [if_pos (by omega), if_pos (by omega)]
    simp only [Option.bind_some]
    have hl0 : (List.replicate ((l.length : Int)).toNat (0 : Int)).length = l.length := by simp
    rw [hl0, Int.toNat_natCast]
    have := far_fill (l := l) p l.length (by omega) l.length k 0 (List.replicate l.length 0) (by omega) (by simp) (by simp) (by omega)
    rw [show (0 : Int) = ((0 : Nat) : Int) from rfl] at this ⊢
    rw [this]
    obtain ⟨m, hm⟩ := succ_of (show 0 < k - l.length by omega)
    rw [hm]
    unfold spec_grFar.l0
    rw [if_neg (by omega), if_pos (by omega), if_pos (by simp; omega), Int.toNat_natCast]
    exact (hk m (by omega)).2
end
end Go.Proofs.Ytnbnalbomflafaa.KA
