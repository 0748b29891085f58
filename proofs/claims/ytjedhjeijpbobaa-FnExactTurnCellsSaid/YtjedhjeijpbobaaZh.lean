/-
  What the laws' small functions on lists answer: equal lists, marked and held lists. No memory here. Lists of lists of numbers, in memory, no two in one block: read, marked, held. Rows of numbers, marked and held: markIntSS walked; what is marked is held.
-/
import Derived.Test.YtjedhjeijpbobaaZa
import Derived.Test.YtjedhjeijpbobaaGA
import Derived.Test.YtjedhjeijpbobaaZf
import Derived.Test.YtjedhjeijpbobaaGJ1
/-! ## Pe -/
namespace Go.Proofs.Ytjedhjeijpbobaa.G8
open Go.RowKit Go.Proofs.YtjedhjeijpbobaaW.PrintWords Go.Proofs.YtjedhjeijpbobaaW.PrintLast
open Go.Proofs.Ytjedhjeijpbobaa.GA
set_option linter.unusedVariables false
theorem rd_at (l : List Int) (i : Nat) (h : i < l.length) : rd l (i : Int) = l[i] := by
  unfold rd
  rw [Int.toNat_natCast, List.getD_eq_getElem?_getD, List.getElem?_eq_getElem h]
  rfl

/-! ### Equal lists -/
theorem eqIntS_loop (l : List Int) (hn : l.length ≤ 1000000000000) (d : Nat) : ∀ (k i : Nat), i + d = l.length → d < k → laws_eqIntS.l0 k l l (i : Int) = some true := by
  induction d with
  | zero =>
    intro k i hi hk
    obtain ⟨k, rfl⟩ : ∃ m, k = m + 1 := ⟨k - 1, by omega⟩
    simp only [laws_eqIntS.l0]
    rw [if_neg (by omega)]
  | succ d ih =>
    intro k i hi hk
    obtain ⟨k, rfl⟩ : ∃ m, k = m + 1 := ⟨k - 1, by omega⟩
    simp only [laws_eqIntS.l0]
    have e2 : wrap64 ((i : Int) + 1) = ((i + 1 : Nat) : Int) := by rw [wrap_id (by omega) (by omega)]; omega
    rw [if_pos (by omega), if_pos (by omega), if_pos (by omega), if_pos trivial, e2]
    exact ih k (i + 1) (by omega) (by omega)
theorem eqIntS_refl (l : List Int) (hn : l.length ≤ 1000000000000) (k : Nat) (hk : l.length < k) : laws_eqIntS.f k l l = some true := by
  unfold laws_eqIntS.f
  rw [if_pos rfl]
  exact eqIntS_loop l hn l.length k 0 (by omega) hk

/-! ### Marked and held lists -/
def marks (n : Nat) (m : Int) : List Int := (List.range n).map fun (i : Nat) => m + (i : Int)
theorem markIntS_loop (n : Nat) (hn : n ≤ 1000000000000) (d : Nat) : ∀ (k i : Nat) (l : List Int), l.length = n → i + d = n → d < k → l.take i = marks i 1 →
    laws_markIntS.l0 k l (1 + (i : Int)) (i : Int) = some (1 + (n : Int), marks n 1) := by
  induction d with
  | zero =>
    intro k i l hl hi hk ht
    obtain ⟨k, rfl⟩ : ∃ m, k = m + 1 := ⟨k - 1, by omega⟩
    simp only [laws_markIntS.l0]
    obtain rfl : i = n := by omega
    rw [if_neg (by omega), ← ht, List.take_of_length_le (by omega)]
  | succ d ih =>
    intro k i l hl hi hk ht
    obtain ⟨k, rfl⟩ : ∃ m, k = m + 1 := ⟨k - 1, by omega⟩
    simp only [laws_markIntS.l0]
    have e1 : wrap64 (1 + (i : Int) + 1) = 1 + ((i + 1 : Nat) : Int) := by rw [wrap_id (by omega) (by omega)]; omega
    have e2 : wrap64 ((i : Int) + 1) = ((i + 1 : Nat) : Int) := by rw [wrap_id (by omega) (by omega)]; omega
    rw [if_pos (by omega), if_pos (by omega), e1, e2, Int.toNat_natCast]
    refine ih k (i + 1) _ (by simpa using hl) (by omega) (by omega) ?_
    have hlt : i < l.length := by omega
    rw [List.take_add_one, List.take_set_of_le (by omega), ht]
    simp [marks, List.range_succ, hlt]
theorem markIntS_eq (l : List Int) (hn : l.length ≤ 1000000000000) (k : Nat) (hk : l.length < k) : laws_markIntS.f k l 1 = some (1 + (l.length : Int), marks l.length 1) := by
  unfold laws_markIntS.f
  exact markIntS_loop l.length hn l.length k 0 l rfl (by omega) hk (by simp [marks])
theorem heldIntS_loop (n : Nat) (hn : n ≤ 1000000000000) (d : Nat) : ∀ (k i : Nat), i + d = n → d < k → laws_heldIntS.l0 k (marks n 1) (1 + (i : Int)) (i : Int) = some (1 + (n : Int)) := by
  have hl : (marks n 1).length = n := by simp [marks]
  induction d with
  | zero =>
    intro k i hi hk
    obtain ⟨k, rfl⟩ : ∃ m, k = m + 1 := ⟨k - 1, by omega⟩
    simp only [laws_heldIntS.l0]
    obtain rfl : i = n := by omega
    rw [if_neg (by omega)]
  | succ d ih =>
    intro k i hi hk
    obtain ⟨k, rfl⟩ : ∃ m, k = m + 1 := ⟨k - 1, by omega⟩
    simp only [laws_heldIntS.l0]
    have e1 : wrap64 (1 + (i : Int) + 1) = 1 + ((i + 1 : Nat) : Int) := by rw [wrap_id (by omega) (by omega)]; omega
    have e2 : wrap64 ((i : Int) + 1) = ((i + 1 : Nat) : Int) := by rw [wrap_id (by omega) (by omega)]; omega
    have e3 : rd (marks n 1) (i : Int) = 1 + (i : Int) := by rw [rd_at _ _ (by omega)]; simp [marks]
    rw [if_pos (by omega), if_pos (by omega), if_pos e3, e1, e2]
    exact ih k (i + 1) (by omega) (by omega)
theorem heldIntS_eq (n : Nat) (hn : n ≤ 1000000000000) (k : Nat) (hk : n < k) : laws_heldIntS.f k (marks n 1) 1 = some (1 + (n : Int)) := by
  unfold laws_heldIntS.f
  exact heldIntS_loop n hn n k 0 (by omega) hk
end Go.Proofs.Ytjedhjeijpbobaa.G8

/-! ## Se -/
namespace Go.Proofs.Ytjedhjeijpbobaa.G8
open Go.RowKit Go.Maps Go.Proofs.YtjedhjeijpbobaaW.PrintWords Go.Proofs.YtjedhjeijpbobaaW.PrintLast Go.Proofs.YtjedhjeijpbobaaW.PrintMore
open Go.Proofs.Ytjedhjeijpbobaa.GA
set_option linter.unusedVariables false
set_option linter.unusedSimpArgs false
abbrev encI (r : List Int) : List Value := r.map (Value.int .i64)
def RowsL (w : World) (base : Nat) (rows : List (List Int)) (L : List Value) : Prop :=
  (∀ (i : Nat) (r : List Int), rows[i]? = some r → ∃ v, L[i]? = some v ∧ w.ownsRow base 3 1 v r.length (encI r)) ∧ ∀ (i j : Nat) (v u : Value) (k : Nat), L[i]? = some v → L[j]? = some u → i ≠ j → v.ownBlock = some k → u.ownBlock ≠ some k
def RowsD (w : World) (base : Nat) (vc : Value) (rows : List (List Int)) : Prop := ∃ L, w.ownsRow base 29 1 vc rows.length L ∧ RowsL w base rows L
section
variable {w w1 : World} {base : Nat} {vc : Value} {rows : List (List Int)} {L : List Value}
theorem RowsL.move (h : RowsL w base rows L) (hn : L.length = rows.length) (e : ∀ (i : Nat) (v : Value) (k : Nat), L[i]? = some v → v.ownBlock = some k → w1.heap[k]? = w.heap[k]?) : RowsL w1 base rows L := by
  refine ⟨fun i r hr => ?_, h.2⟩
  obtain ⟨v, h1, h2⟩ := h.1 i r hr
  exact ⟨v, h1, own_move h2 fun k hk => e i v k h1 hk⟩
theorem own_len {e : TypeId} {size n : Nat} (h : w.ownsRow base e size vc n L) : L.length = n * size := h.1
theorem RowsL.row (h : RowsL w base rows L) (hn : L.length = rows.length) {i : Nat} {v : Value} (hv : L[i]? = some v) : ∃ r, rows[i]? = some r ∧ w.ownsRow base 3 1 v r.length (encI r) := by
  have hi : i < rows.length := by rw [← hn]; exact (List.getElem?_eq_some_iff.1 hv).1
  obtain ⟨u, h1, h2⟩ := h.1 i rows[i] (List.getElem?_eq_getElem hi)
  rw [hv] at h1
  cases h1
  exact ⟨_, List.getElem?_eq_getElem hi, h2⟩
theorem RowsL.blk (h : RowsL w base rows L) (hn : L.length = rows.length) {i k : Nat} {v : Value} (hv : L[i]? = some v) (hk : v.ownBlock = some k) : base ≤ k ∧ k < w.heap.size ∧ ∃ cells, w.heap[k]? = some (.cells cells 3 (0, 0)) := by
  obtain ⟨r, _, ho⟩ := h.row hn hv
  exact ⟨own_base ho k hk, own_lt ho k hk, own_typed ho k hk⟩
theorem RowsD.nil (w : World) (base : Nat) : RowsD w base (.slice none 0 0) [] := ⟨[], own_nil _ _ _ _, fun i r h => by simp at h, fun i j v u k h => by simp at h⟩
theorem RowsD.keep (h : RowsD w base vc rows) (e : ∀ b, b < w.heap.size → w1.heap[b]? = w.heap[b]?) : RowsD w1 base vc rows := by
  obtain ⟨L, h1, h2⟩ := h
  have hn : L.length = rows.length := by have := own_len h1; omega
  exact ⟨L, own_move h1 (fun k hk => e k (own_lt h1 k hk)), h2.move hn fun i v k hv hk => e k (h2.blk hn hv hk).2.1⟩
theorem RowsD.drewN (h : RowsD w base vc rows) (n : Nat) : RowsD (w.drewN n) base vc rows := h.keep fun _ _ => by simp
theorem RowsD.alloc (h : RowsD w base vc rows) (o : Obj) : RowsD (w.alloc o) base vc rows := h.keep fun b hb => (MapKept.heap_alloc w o).2 b hb
theorem RowsD.below (h : RowsD w base vc rows) (hB : Below w.heap.size w w1) : RowsD w1 base vc rows := h.keep fun b hb => hB.block b hb
theorem RowsD.lower {base' : Nat} (h : RowsD w base vc rows) (hb : base' ≤ base) : RowsD w base' vc rows := by
  obtain ⟨L, h1, h2⟩ := h
  refine ⟨L, own_weaken h1 hb, fun i r hr => ?_, h2.2⟩
  obtain ⟨v, q1, q2⟩ := h2.1 i r hr
  exact ⟨v, q1, own_weaken q2 hb⟩
theorem rowI_reads {v : Value} {r : List Int} (h : w.ownsRow base 3 1 v r.length (encI r)) : ∃ A c, v = .slice A r.length c ∧ r.length ≤ c ∧ Kd.C (Kd.int .i64) w A r.length r :=
  Kd.R_reads (Kd.R_of_own (ok := fun _ => True) h (fun _ _ => trivial))
/-- Rows, as the printed contracts read them. -/
theorem rows_reads (ho : w.ownsRow base 29 1 vc rows.length L) (h : ∀ (i : Nat) (r : List Int), rows[i]? = some r → ∃ v, L[i]? = some v ∧ ∃ A c, v = .slice A r.length c ∧ r.length ≤ c ∧ Kd.C (Kd.int .i64) w A r.length r) :
    ∃ A c, vc = .slice A rows.length c ∧ rows.length ≤ c ∧ Kd.C (Kd.slice 3 (Kd.int .i64)) w A rows.length rows := by
  have hn : L.length = rows.length := by have := own_len ho; omega
  have hR : Reps (fun p c => (Kd.slice 3 (Kd.int .i64)).K w p c) 1 rows L := ⟨by omega, fun j p hp => by
    obtain ⟨v, h1, A, c, h2, h3, h4⟩ := h j p hp
    refine ⟨A, c, ?_, h3, h4⟩
    have hj := (List.getElem?_eq_some_iff.1 h1).1
    have e : L[j] = v := by rw [List.getElem?_eq_getElem hj] at h1; exact Option.some.inj h1
    rw [Nat.mul_one, List.drop_eq_getElem_cons hj, e, h2]
    rfl⟩
  obtain ⟨A, c, he, hr⟩ := own_reads_row ho hR rfl
  refine ⟨A, c, he, ?_, hr⟩
  rcases ho.2 with ⟨h1, h2⟩ | ⟨g, cap, cur, h1, _, _, h3, _⟩
  · rw [h1] at he
    injection he with _ e2 e3
    omega
  · rw [h1] at he
    injection he with _ e2 e3
    omega
theorem RowsD.reads (h : RowsD w base vc rows) : ∃ A c, vc = .slice A rows.length c ∧ rows.length ≤ c ∧ Kd.C (Kd.slice 3 (Kd.int .i64)) w A rows.length rows := by
  obtain ⟨L, h1, h2⟩ := h
  refine rows_reads h1 fun i r hr => ?_
  obtain ⟨v, q1, q2⟩ := h2.1 i r hr
  exact ⟨v, q1, rowI_reads q2⟩
theorem RowsAt.readsC (h : RowsAt w base vc rows) (hs : ∀ r ∈ rows, r.length ≤ 1000) : ∃ A c, vc = .slice A rows.length c ∧ rows.length ≤ c ∧ Kd.C (Kd.slice 3 (Kd.int .i64)) w A rows.length rows := by
  obtain ⟨L, h1, h2⟩ := h
  refine rows_reads h1 fun i r hr => ?_
  obtain ⟨b, q1, q2, q3⟩ := h2 i r hr
  refine ⟨_, q1, ?_⟩
  have hml := hs r (List.mem_of_getElem? hr)
  refine rowI_reads (base := base) ⟨by simp, .inr ⟨b, r.length, rowV r, rfl, q2, q3, Nat.le_refl _, by unfold maxLen; omega, by simp [rowV], ?_⟩⟩
  have e : (r.map (Value.int .i64)).length = r.length * 1 := by simp
  show List.take (r.length * 1) (r.map (Value.int .i64)) = _
  rw [← e, List.take_length]
/-- One more row, in a block of its own. -/
theorem RowsD.app {vc' v : Value} {r : List Int} (h1 : w.ownsRow base 29 1 vc rows.length L) (h2 : RowsL w base rows L) (hv : w1.ownsRow base 3 1 v r.length (encI r)) (hf : ∀ k, v.ownBlock = some k → w.heap.size ≤ k) (ho : w1.ownsRow base 29 1 vc' (rows.length + 1) (L ++ [v])) (e : ∀ b, b < w.heap.size → some b ≠ vc.ownBlock → w1.heap[b]? = w.heap[b]?) : RowsD w1 base vc' (rows ++ [r]) := by
  have hn : L.length = rows.length := by have := own_len h1; omega
  refine ⟨L ++ [v], by rw [List.length_append, List.length_singleton]; exact ho, fun i s hs => ?_, fun i j x y k hx hy hij hk => ?_⟩
  · rcases Nat.lt_trichotomy i rows.length with hi | hi | hi
    · rw [List.getElem?_append_left hi] at hs
      obtain ⟨u, q1, q2⟩ := h2.1 i s hs
      refine ⟨u, by rw [List.getElem?_append_left (by omega)]; exact q1, own_move q2 fun k hk => e k (own_lt q2 k hk) (fun c => ?_)⟩
      obtain ⟨cells, hc⟩ := own_typed q2 k hk
      obtain ⟨cells2, hc2⟩ := own_typed h1 k c.symm
      rw [hc] at hc2
      simp at hc2
    · subst hi
      rw [List.getElem?_append_right (Nat.le_refl _)] at hs
      simp at hs
      subst hs
      exact ⟨v, by rw [List.getElem?_append_right (by omega), hn]; simp, hv⟩
    · rw [List.getElem?_append_right (by omega)] at hs
      rw [List.getElem?_eq_none (by simp; omega)] at hs
      cases hs
  · have aux : ∀ (a : Nat) (x : Value), (L ++ [v])[a]? = some x → (a < rows.length ∧ L[a]? = some x) ∨ (a = rows.length ∧ x = v) := fun a x hx => by
      rcases Nat.lt_trichotomy a rows.length with ha | ha | ha
      · rw [List.getElem?_append_left (by omega)] at hx
        exact .inl ⟨ha, hx⟩
      · rw [List.getElem?_append_right (by omega), ha, hn] at hx
        simp at hx
        exact .inr ⟨ha, hx.symm⟩
      · rw [List.getElem?_append_right (by omega), List.getElem?_eq_none (by simp; omega)] at hx
        cases hx
    rcases aux i x hx with ⟨hi, hx2⟩ | ⟨hi, rfl⟩ <;> rcases aux j y hy with ⟨hj, hy2⟩ | ⟨hj, rfl⟩
    · exact h2.2 i j x y k hx2 hy2 hij hk
    · intro c
      have := (h2.blk hn hx2 hk).2.1
      have := hf k c
      omega
    · intro c
      have := (h2.blk hn hy2 c).2.1
      have := hf k hk
      omega
    · omega
/-- A row's place in the list. -/
theorem RowsD.at (h : w.ownsRow base 29 1 vc rows.length L) {i : Nat} {v : Value} (hv : L[i]? = some v) : ∃ g cap, vc = .slice (some ⟨g, 0, none⟩) rows.length cap ∧ base ≤ g ∧ w.cell? ⟨g, i, none⟩ = some v ∧ w.frozen? ⟨g, i, none⟩ = false := by
  have hi := (List.getElem?_eq_some_iff.1 hv).1
  have hn := own_len h
  rcases h.2 with ⟨h1, h2⟩ | ⟨g, cap, cur, h1, hb, hh, h3, h4, h5, h6⟩
  · omega
  · refine ⟨g, cap, h1, hb, (blk_cell hh i).trans ?_, blk_frozen hh i⟩
    rw [← h6, List.getElem?_take] at hv
    split at hv
    · simpa using hv
    · cases hv
/-- A row is written, in its own block. -/
theorem RowsD.put (h1 : w.ownsRow base 29 1 vc rows.length L) (h2 : RowsL w base rows L) {i : Nat} {v : Value} {r : List Int} (hi : L[i]? = some v) (hv : w1.ownsRow base 3 1 v r.length (encI r)) (e : ∀ b, b < w.heap.size → v.ownBlock ≠ some b → w1.heap[b]? = w.heap[b]?) :
    w1.ownsRow base 29 1 vc (rows.set i r).length L ∧ RowsL w1 base (rows.set i r) L := by
  have hn : L.length = rows.length := by have := own_len h1; omega
  have hil : i < rows.length := by rw [← hn]; exact (List.getElem?_eq_some_iff.1 hi).1
  rw [List.length_set]
  refine ⟨own_move h1 (fun k hk => e k (own_lt h1 k hk) (fun c => ?_)), fun j s hs => ?_, h2.2⟩
  · obtain ⟨_, _, cells, hc⟩ := h2.blk hn hi c
    obtain ⟨cells2, hc2⟩ := own_typed h1 k hk
    rw [hc] at hc2
    simp at hc2
  · by_cases q : i = j
    · subst q
      rw [List.getElem?_set_self hil] at hs
      cases hs
      exact ⟨v, hi, hv⟩
    · rw [List.getElem?_set_ne q] at hs
      obtain ⟨u, q1, q2⟩ := h2.1 j s hs
      exact ⟨u, q1, own_move q2 fun k hk => e k (own_lt q2 k hk) (fun c => h2.2 i j v u k hi q1 q c hk)⟩
/-- A row is replaced by a new one. -/
theorem RowsD.change {v : Value} {r : List Int} {g cap i : Nat} (h1 : w.ownsRow base 29 1 (.slice (some ⟨g, 0, none⟩) rows.length cap) rows.length L) (h2 : RowsL w base rows L) (hi : i < rows.length) (hv : w1.ownsRow base 3 1 v r.length (encI r)) (hf : ∀ k, v.ownBlock = some k → w.heap.size ≤ k) (e : ∀ b, b < w.heap.size → w1.heap[b]? = w.heap[b]?) (h1c : v.oneCell' = true) :
    RowsD (w1.setCell ⟨g, i, none⟩ v) base (.slice (some ⟨g, 0, none⟩) rows.length cap) (rows.set i r) := by
  have hn : L.length = rows.length := by have := own_len h1; omega
  rcases h1.2 with ⟨h3, _⟩ | ⟨g1, cap1, cur, h3, hb, hh, h4, h5, h6, h7⟩
  · cases h3
  injection h3 with e1 _ e3
  injection e1 with e1
  injection e1 with e1
  subst e1
  subst e3
  have hh1 : w1.heap[g]? = some (.cells cur 29 (0, 0)) := (e g (blk_lt hh)).trans hh
  have far : ∀ k cells, w1.heap[k]? = some (.cells cells 3 (0, 0)) → k ≠ g := fun k cells hk c => by subst c; rw [hh1] at hk; simp at hk
  refine ⟨L.set i v, ?_, fun j s hs => ?_, fun a b x y k hx hy hab hk => ?_⟩
  · refine ⟨by simp [hn], .inr ⟨g, cap, _, by rw [List.length_set], hb, blk_set hh1 _ _, by rw [List.length_set]; exact h4, h5, by simpa using h6, ?_⟩⟩
    rw [List.length_set, Nat.mul_one] at *
    apply List.ext_getElem?
    intro j
    by_cases hj : j < rows.length
    · rw [List.getElem?_take_of_lt hj, Array.getElem?_toList]
      by_cases q : i = j
      · subst q
        rw [Array.getElem?_setIfInBounds_self_of_lt (by omega), List.getElem?_set_self (by omega)]
      · rw [Array.getElem?_setIfInBounds_ne q, List.getElem?_set_ne q, ← h7, List.getElem?_take_of_lt hj, Array.getElem?_toList]
    · rw [List.getElem?_take_eq_none (by omega), List.getElem?_eq_none (by simp; omega)]
  · by_cases q : i = j
    · subst q
      rw [List.getElem?_set_self hi] at hs
      cases hs
      refine ⟨v, List.getElem?_set_self (by omega), own_setCell hv (fun c => ?_) _⟩
      have := hf g c.symm
      have := blk_lt hh
      omega
    · rw [List.getElem?_set_ne q] at hs
      obtain ⟨u, q1, q2⟩ := h2.1 j s hs
      have q3 : w1.ownsRow base 3 1 u s.length (encI s) := own_move q2 fun k hk => e k (own_lt q2 k hk)
      refine ⟨u, by rw [List.getElem?_set_ne q]; exact q1, own_setCell q3 (fun c => ?_) _⟩
      obtain ⟨cells, hc⟩ := own_typed q3 g c.symm
      exact far g cells hc rfl
  · have aux : ∀ (a : Nat) (x : Value), (L.set i v)[a]? = some x → (a ≠ i ∧ L[a]? = some x) ∨ (a = i ∧ x = v) := fun a x hx => by
      by_cases q : i = a
      · subst q
        rw [List.getElem?_set_self (by omega)] at hx
        exact .inr ⟨rfl, (Option.some.inj hx).symm⟩
      · rw [List.getElem?_set_ne q] at hx
        exact .inl ⟨fun c => q c.symm, hx⟩
    rcases aux a x hx with ⟨ha, hx2⟩ | ⟨ha, rfl⟩ <;> rcases aux b y hy with ⟨hb2, hy2⟩ | ⟨hb2, rfl⟩
    · exact h2.2 a b x y k hx2 hy2 hab hk
    · intro c
      have := (h2.blk hn hx2 hk).2.1
      have := hf k c
      omega
    · intro c
      have := (h2.blk hn hy2 c).2.1
      have := hf k hk
      omega
    · omega
end
end Go.Proofs.Ytjedhjeijpbobaa.G8

/-! ## Sj -/
namespace Go.Proofs.Ytjedhjeijpbobaa.G8
open Go.RowKit Go.Maps Go.Proofs.YtjedhjeijpbobaaW.PrintWords Go.Proofs.YtjedhjeijpbobaaW.PrintLast Go.Proofs.YtjedhjeijpbobaaW.PrintMore
open Go.Proofs.Ytjedhjeijpbobaa.GA
open Go.Proofs.Ytjedhjeijpbobaa.GJ (laws_heldIntSS.f laws_heldIntSS.l0 laws_heldIntSS.calls laws_eqIntSS.f laws_eqIntSS.l0 laws_eqIntSS.calls rd_L1)
set_option linter.unusedVariables false
set_option linter.unusedSimpArgs false
/-! ### marks from any number on -/
theorem markIntS_from (n : Nat) (m : Int) (hm : 0 ≤ m ∧ m + (n : Int) ≤ 1000000000000) (d : Nat) : ∀ (k i : Nat) (l : List Int), l.length = n → i + d = n → d < k → l.take i = marks i m →
    laws_markIntS.l0 k l (m + (i : Int)) (i : Int) = some (m + (n : Int), marks n m) := by
  induction d with
  | zero =>
    intro k i l hl hi hk ht
    obtain ⟨k, rfl⟩ : ∃ m, k = m + 1 := ⟨k - 1, by omega⟩
    simp only [laws_markIntS.l0]
    obtain rfl : i = n := by omega
    rw [if_neg (by omega), ← ht, List.take_of_length_le (by omega)]
  | succ d ih =>
    intro k i l hl hi hk ht
    obtain ⟨k, rfl⟩ : ∃ m, k = m + 1 := ⟨k - 1, by omega⟩
    simp only [laws_markIntS.l0]
    have e1 : wrap64 (m + (i : Int) + 1) = m + ((i + 1 : Nat) : Int) := by rw [wrap_id (by omega) (by omega)]; omega
    have e2 : wrap64 ((i : Int) + 1) = ((i + 1 : Nat) : Int) := by rw [wrap_id (by omega) (by omega)]; omega
    rw [if_pos (by omega), if_pos (by omega), e1, e2, Int.toNat_natCast]
    refine ih k (i + 1) _ (by simpa using hl) (by omega) (by omega) ?_
    have hlt : i < l.length := by omega
    rw [List.take_add_one, List.take_set_of_le (by omega), ht]
    simp [marks, List.range_succ, hlt]
theorem markIntS_m (l : List Int) (m : Int) (hm : 0 ≤ m ∧ m + (l.length : Int) ≤ 1000000000000) (k : Nat) (hk : l.length < k) : laws_markIntS.f k l m = some (m + (l.length : Int), marks l.length m) := by
  unfold laws_markIntS.f
  have := markIntS_from l.length m hm l.length k 0 l rfl (by omega) hk (by simp [marks])
  simpa using this
theorem marks_len (n : Nat) (m : Int) : (marks n m).length = n := by simp [marks]
theorem heldIntS_from (n : Nat) (m : Int) (hm : 0 ≤ m ∧ m + (n : Int) ≤ 1000000000000) (d : Nat) : ∀ (k i : Nat), i + d = n → d < k → laws_heldIntS.l0 k (marks n m) (m + (i : Int)) (i : Int) = some (m + (n : Int)) := by
  have hl : (marks n m).length = n := by simp [marks]
  induction d with
  | zero =>
    intro k i hi hk
    obtain ⟨k, rfl⟩ : ∃ m, k = m + 1 := ⟨k - 1, by omega⟩
    simp only [laws_heldIntS.l0]
    obtain rfl : i = n := by omega
    rw [if_neg (by omega)]
  | succ d ih =>
    intro k i hi hk
    obtain ⟨k, rfl⟩ : ∃ m, k = m + 1 := ⟨k - 1, by omega⟩
    simp only [laws_heldIntS.l0]
    have e1 : wrap64 (m + (i : Int) + 1) = m + ((i + 1 : Nat) : Int) := by rw [wrap_id (by omega) (by omega)]; omega
    have e2 : wrap64 ((i : Int) + 1) = ((i + 1 : Nat) : Int) := by rw [wrap_id (by omega) (by omega)]; omega
    have e3 : rd (marks n m) (i : Int) = m + (i : Int) := by rw [rd_at _ _ (by omega)]; simp [marks]
    rw [if_pos (by omega), if_pos (by omega), if_pos e3, e1, e2]
    exact ih k (i + 1) (by omega) (by omega)
theorem heldIntS_m (n : Nat) (m : Int) (hm : 0 ≤ m ∧ m + (n : Int) ≤ 1000000000000) (k : Nat) (hk : n < k) : laws_heldIntS.f k (marks n m) m = some (m + (n : Int)) := by
  unfold laws_heldIntS.f
  have := heldIntS_from n m hm n k 0 (by omega) hk
  simpa using this
/-! ### rows -/
def tot : List (List Int) → Int
  | [] => 0
  | r :: rs => (r.length : Int) + tot rs
def markRows : List (List Int) → Int → List (List Int)
  | [], _ => []
  | r :: rs, m => marks r.length m :: markRows rs (m + (r.length : Int))
theorem tot_pos : ∀ rs, 0 ≤ tot rs
  | [] => Int.le_refl _
  | r :: rs => by have := tot_pos rs; unfold tot; omega
theorem tot_app : ∀ a b, tot (a ++ b) = tot a + tot b
  | [], b => by simp [tot]
  | r :: a, b => by
    have := tot_app a b
    simp only [List.cons_append, tot, this]
    omega
theorem markRows_len : ∀ rs m, (markRows rs m).length = rs.length
  | [], _ => rfl
  | r :: rs, m => by simp [markRows, markRows_len rs]
theorem markRows_app : ∀ a b m, markRows (a ++ b) m = markRows a m ++ markRows b (m + tot a)
  | [], b, m => by simp [markRows, tot]
  | r :: a, b, m => by
    simp only [List.cons_append, markRows, tot]
    rw [markRows_app a b, Int.add_assoc]
/-- The rows in the middle of the loop. -/
def midRows (rows : List (List Int)) (m : Int) (i : Nat) : List (List Int) := markRows (rows.take i) m ++ rows.drop i
theorem mid_len (rows : List (List Int)) (m : Int) (i : Nat) : (midRows rows m i).length = rows.length := by
  unfold midRows
  rw [List.length_append, markRows_len, List.length_take, List.length_drop]
  omega
theorem mid_get {rows : List (List Int)} {m : Int} {i : Nat} (hi : i < rows.length) : (midRows rows m i)[i]? = some rows[i] := by
  unfold midRows
  rw [List.getElem?_append_right (by rw [markRows_len, List.length_take]; omega), markRows_len, List.length_take, List.getElem?_drop]
  rw [show i + (i - min i rows.length) = i by omega]
  exact List.getElem?_eq_getElem hi
theorem mid_set {rows : List (List Int)} {m : Int} {i : Nat} (hi : i < rows.length) : (midRows rows m i).set i (marks rows[i].length (m + tot (rows.take i))) = midRows rows m (i + 1) := by
  unfold midRows
  have hl : (markRows (rows.take i) m).length = i := by rw [markRows_len, List.length_take]; omega
  rw [List.take_succ_eq_append_getElem hi, markRows_app, List.drop_eq_getElem_cons hi]
  rw [List.set_append, if_neg (by omega), hl, Nat.sub_self, List.set_cons_zero, List.append_assoc]
  rfl
theorem tot_take {rows : List (List Int)} {i : Nat} (hi : i < rows.length) : tot (rows.take (i + 1)) = tot (rows.take i) + (rows[i].length : Int) := by
  rw [List.take_succ_eq_append_getElem hi, tot_app]
  simp [tot]
theorem tot_le (rows : List (List Int)) (i : Nat) : tot (rows.take i) ≤ tot rows := by
  have h := tot_app (rows.take i) (rows.drop i)
  rw [List.take_append_drop] at h
  have := tot_pos (rows.drop i)
  omega
theorem RowsD.slice {w : World} {base : Nat} {vc : Value} {rows : List (List Int)} (h : RowsD w base vc rows) : ∃ A c, vc = .slice A rows.length c ∧ rows.length ≤ c := by
  obtain ⟨A, c, h1, h2, _⟩ := h.reads
  exact ⟨A, c, h1, h2⟩
def MarkOut (w0 : World) (vc : Value) (rows : List (List Int)) (m : Int) (e : Ending) (w' : World) : Prop := e = .returned (.int .i64 (m + tot rows)) ∧ Below w0.heap.size w0 w' ∧ Aside0 (RowsD w' w0.heap.size vc (markRows rows m))
set_option maxHeartbeats 4000000 in
set_option maxRecDepth 100000 in
theorem markIntSS_calls (w0 w : World) (hB : Below w0.heap.size w0 w) (vc : Value) (rows : List (List Int)) (m : Int) (h : RowsD w w0.heap.size vc rows) (hm : 0 ≤ m ∧ m + tot rows ≤ 1000000000) (hl : rows.length ≤ 10000000) : Calls Try.prog 59 #[vc, .int .i64 m] w (MarkOut w0 vc rows m) := by
  obtain ⟨A, cap, hvc, hcap⟩ := h.slice
  subst hvc
  obtain ⟨L, hL, hE⟩ := h
  have HL := Aside0.mk (And.intro hL hE)
  have HB := Aside0.mk hB
  clear hL hE hB
  go_enter Try.func59, Try.ntmps59
  go_wp2_with (fail)
  go_loopg [1, 5] rows.length (fun q v1 v5 wr => ∃ (i : Nat), v1 = .int .i64 (m + tot (rows.take i)) ∧ v5 = .int .i64 (i : Int) ∧ Aside0 (i + q = rows.length) ∧ Aside0 (wr.ownsRow w0.heap.size 29 1 (.slice A rows.length cap) rows.length L ∧ RowsL wr w0.heap.size (midRows rows m i) L) ∧ Aside0 (Below w0.heap.size w0 wr))
  case atStart => exact ⟨0, by simp [tot], rfl, ⟨by omega⟩, ⟨by simpa [midRows, markRows] using HL.out⟩, HB⟩
  case round =>
    clear HL HB
    obtain ⟨i, rfl, rfl, HI, HL, HB⟩ := hrel
    cases gk with
    | zero =>
      have hi : ¬ ((i : Int) < (rows.length : Int)) := by have := HI.out; omega
      have hir : i = rows.length := by have := HI.out; omega
      subst hir
      have e1 : Aside0 (rows.take rows.length = rows ∧ midRows rows m rows.length = markRows rows m) := ⟨by rw [List.take_of_length_le (Nat.le_refl _)]; simp [midRows]⟩
      go_wp2_with (fail)
      go_ret
      refine ⟨by first | rfl | (rw [e1.out.1]; rfl), HB.out, ⟨L, ?_, ?_⟩⟩
      · rw [markRows_len]; exact HL.out.1
      · rw [← e1.out.2]; exact HL.out.2
    | succ q =>
      have hin : i < rows.length := by have := HI.out; omega
      have hi : (i : Int) < (rows.length : Int) := by omega
      have hw := wrap_id (x := (i : Int) + 1) (by omega) (by omega)
      obtain ⟨v, hv, hown⟩ := HL.out.2.1 i rows[i] (mid_get hin)
      have ho1 := HL.out.1
      have ho2 : wr.ownsRow w0.heap.size 29 1 (.slice A rows.length cap) (midRows rows m i).length L := by rw [mid_len]; exact ho1
      obtain ⟨g, cap', hA, _, hcell, _⟩ := RowsD.at ho2 hv
      injection hA with hA hA2 hA3
      clear hA2
      subst hA hA3
      have hmm : 0 ≤ m + tot (rows.take i) ∧ m + tot (rows.take i) + (rows[i].length : Int) ≤ 1000000000000 := by
        have h1 := tot_pos (rows.take i)
        have h2 := tot_le rows (i + 1)
        rw [tot_take hin] at h2
        omega
      have HM := Aside0.mk (markIntS_m rows[i] _ hmm (rows[i].length + 1) (by omega))
      have HT := Aside0.mk (tot_take hin)
      have HS := Aside0.mk (mid_set (m := m) hin)
      have HV := Aside0.mk (And.intro hv hown)
      have hR : Aside0 (Kd.R (Kd.int .i64) 3 wr w0.heap.size (fun k => v.ownBlock = some k) v rows[i]) := ⟨Kd.R_of_own hown (fun _ hk => hk)⟩
      clear hv hown ho1 ho2 hmm
      generalize rows[i] = r at *
      generalize hmi : m + tot (rows.take i) = mi at *
      replace hmi := Aside0.mk hmi
      go_wp2_with (first | (go_at_call 31; refine (laws_markIntS.calls (r.length + 1) (fun k => v.ownBlock = some k) v r mi _ _ w0 _ HB.out hR.out HM.out).mono ?_; rintro e w1 ⟨rfl, ho, hb, hk⟩; have HK := Aside0.mk hk; have HO := Aside0.mk (Kd.own_of_R ho); have HB1 := Aside0.mk hb; clear ho hb hk))
      go_roundg q
      case measure => omega
      case rel =>
        have hput := RowsD.put (w1 := w1) (r := marks r.length mi) (by rw [mid_len]; exact HL.out.1) HL.out.2 HV.out.1 HO.out (fun b hb hne => HK.out.2 b hb (fun c => hne c))
        rw [HS.out] at hput
        rw [mid_len] at hput
        exact ⟨i + 1, by rw [HT.out, ← Int.add_assoc, hmi.out], by first | rfl | go_num, ⟨by have := HI.out; omega⟩, ⟨hput⟩, HB1⟩
/-! ### the tests, at rows -/
theorem rdL_at (l : List (List Int)) (i : Nat) (h : i < l.length) : rd_L1 l (i : Int) = l[i] := by
  unfold rd_L1
  rw [Int.toNat_natCast, List.getD_eq_getElem?_getD, List.getElem?_eq_getElem h]
  rfl
theorem eqIntSS_loop (l : List (List Int)) (hn : l.length ≤ 10000000) (N : Nat) (hN : ∀ r ∈ l, r.length ≤ N) (hN2 : N ≤ 10000000) (d : Nat) : ∀ (k i : Nat), i + d = l.length → N + d + 1 < k → laws_eqIntSS.l0 k l l (i : Int) = some true := by
  induction d with
  | zero =>
    intro k i hi hk
    obtain ⟨k, rfl⟩ : ∃ m, k = m + 1 := ⟨k - 1, by omega⟩
    simp only [laws_eqIntSS.l0]
    rw [if_neg (by omega)]
  | succ d ih =>
    intro k i hi hk
    obtain ⟨k, rfl⟩ : ∃ m, k = m + 1 := ⟨k - 1, by omega⟩
    have hin : i < l.length := by omega
    simp only [laws_eqIntSS.l0]
    have e2 : wrap64 ((i : Int) + 1) = ((i + 1 : Nat) : Int) := by rw [wrap_id (by omega) (by omega)]; omega
    have h3 := hN _ (List.getElem_mem hin)
    rw [if_pos (by omega), if_pos (by omega), if_pos (by omega), rdL_at l i hin, eqIntS_refl l[i] (by omega) k (by omega)]
    simp only [Option.bind_some, if_true]
    rw [e2]
    exact ih k (i + 1) (by omega) (by omega)
theorem eqIntSS_refl (l : List (List Int)) (hn : l.length ≤ 10000000) (N : Nat) (hN : ∀ r ∈ l, r.length ≤ N) (hN2 : N ≤ 10000000) : laws_eqIntSS.f (N + l.length + 2) l l = some true := by
  unfold laws_eqIntSS.f
  rw [if_pos rfl]
  exact eqIntSS_loop l hn N hN hN2 l.length _ 0 (by omega) (by omega)
theorem markRows_mem : ∀ (rs : List (List Int)) (m : Int) (N : Nat), (∀ r ∈ rs, r.length ≤ N) → ∀ r ∈ markRows rs m, r.length ≤ N
  | [], _, _, _, r, h => by simp [markRows] at h
  | s :: rs, m, N, hN, r, h => by
    simp only [markRows, List.mem_cons] at h
    rcases h with rfl | h
    · rw [marks_len]; exact hN s (by simp)
    · exact markRows_mem rs _ N (fun r hr => hN r (by simp [hr])) r h
theorem markRows_get : ∀ (rs : List (List Int)) (m : Int) (i : Nat) (h : i < rs.length), (markRows rs m)[i]? = some (marks rs[i].length (m + tot (rs.take i)))
  | r :: rs, m, 0, _ => by simp [markRows, tot]
  | r :: rs, m, i + 1, h => by
    have := markRows_get rs (m + (r.length : Int)) i (by simpa using h)
    simp only [markRows, List.getElem?_cons_succ, List.take_succ_cons, tot, List.getElem_cons_succ]
    rw [this, Int.add_assoc]
theorem heldIntSS_loop (rs : List (List Int)) (m : Int) (hn : rs.length ≤ 10000000) (hm : 0 ≤ m ∧ m + tot rs ≤ 1000000000) (N : Nat) (hN : ∀ r ∈ rs, r.length ≤ N) (d : Nat) : ∀ (k i : Nat), i + d = rs.length → N + d + 1 < k → laws_heldIntSS.l0 k (markRows rs m) (m + tot (rs.take i)) (i : Int) = some (m + tot rs) := by
  have hl := markRows_len rs m
  induction d with
  | zero =>
    intro k i hi hk
    obtain ⟨k, rfl⟩ : ∃ m, k = m + 1 := ⟨k - 1, by omega⟩
    simp only [laws_heldIntSS.l0]
    rw [if_neg (by omega), List.take_of_length_le (by omega)]
  | succ d ih =>
    intro k i hi hk
    obtain ⟨k, rfl⟩ : ∃ m, k = m + 1 := ⟨k - 1, by omega⟩
    have hin : i < rs.length := by omega
    simp only [laws_heldIntSS.l0]
    have e2 : wrap64 ((i : Int) + 1) = ((i + 1 : Nat) : Int) := by rw [wrap_id (by omega) (by omega)]; omega
    have h1 := tot_pos (rs.take i)
    have h2 := tot_le rs (i + 1)
    have h3 := tot_take hin
    have h4 := hN _ (List.getElem_mem hin)
    have e3 : rd_L1 (markRows rs m) (i : Int) = marks rs[i].length (m + tot (rs.take i)) := by
      rw [rdL_at _ i (by omega)]
      have := markRows_get rs m i hin
      rw [List.getElem?_eq_getElem (by omega)] at this
      exact Option.some.inj this
    rw [if_pos (by omega), if_pos (by omega), e3, heldIntS_m _ _ (by omega) k (by omega)]
    simp only [Option.bind_some]
    rw [if_neg (by omega), e2, Int.add_assoc, ← h3]
    exact ih k (i + 1) (by omega) (by omega)
theorem heldIntSS_m (rs : List (List Int)) (m : Int) (hn : rs.length ≤ 10000000) (hm : 0 ≤ m ∧ m + tot rs ≤ 1000000000) (N : Nat) (hN : ∀ r ∈ rs, r.length ≤ N) : laws_heldIntSS.f (N + rs.length + 2) (markRows rs m) m = some (m + tot rs) := by
  unfold laws_heldIntSS.f
  have := heldIntSS_loop rs m hn hm N hN rs.length (N + rs.length + 2) 0 (by omega) (by omega)
  simpa [tot] using this
theorem tot_bound : ∀ (rs : List (List Int)) (N : Nat), (∀ r ∈ rs, r.length ≤ N) → tot rs ≤ (rs.length : Int) * (N : Int)
  | [], _, _ => by simp [tot]
  | r :: rs, N, h => by
    have h1 := tot_bound rs N (fun s hs => h s (by simp [hs]))
    have h2 := h r (by simp)
    have e : (((r :: rs).length : Nat) : Int) * (N : Int) = (rs.length : Int) * (N : Int) + (N : Int) := by
      rw [List.length_cons, Int.natCast_add, Int.add_mul]
      simp
    rw [e]
    unfold tot
    omega
/-- Rows, read: what the tests ask. -/
def RowsC (w : World) (vc : Value) (rows : List (List Int)) : Prop := ∃ A c, vc = .slice A rows.length c ∧ rows.length ≤ c ∧ Kd.C (Kd.slice 3 (Kd.int .i64)) w A rows.length rows
theorem RowsC.below {w w1 : World} {vc : Value} {rows : List (List Int)} (h : RowsC w vc rows) (hB : Below w.heap.size w w1) : RowsC w1 vc rows := by
  obtain ⟨A, c, h1, h2, h3⟩ := h
  exact ⟨A, c, h1, h2, Kd.C_below h3 hB⟩
theorem eqIntSS_calls (w : World) (v u : Value) (rows : List (List Int)) (hv : RowsC w v rows) (hu : RowsC w u rows) (hn : rows.length ≤ 10000000) (N : Nat) (hN : ∀ r ∈ rows, r.length ≤ N) (hN2 : N ≤ 10000000) : Calls Try.prog 58 #[v, u] w fun e w' => e = .returned (.bool true) ∧ Drawn0 w w' := by
  obtain ⟨A, c, rfl, hc, hC⟩ := hv
  obtain ⟨A2, c2, rfl, hc2, hC2⟩ := hu
  exact laws_eqIntSS.calls (N + rows.length + 2) A c rows A2 c2 rows true w hC hc hC2 hc2 (eqIntSS_refl rows hn N hN hN2)
theorem heldIntSS_calls (w : World) (v : Value) (rows : List (List Int)) (m : Int) (hv : RowsC w v (markRows rows m)) (hn : rows.length ≤ 10000000) (hm : 0 ≤ m ∧ m + tot rows ≤ 1000000000) (N : Nat) (hN : ∀ r ∈ rows, r.length ≤ N) : Calls Try.prog 60 #[v, .int .i64 m] w fun e w' => e = .returned (.int .i64 (m + tot rows)) ∧ Drawn0 w w' := by
  obtain ⟨A, c, rfl, hc, hC⟩ := hv
  exact laws_heldIntSS.calls (N + rows.length + 2) A c (markRows rows m) m (m + tot rows) w hC hc (heldIntSS_m rows m hn hm N hN)
end Go.Proofs.Ytjedhjeijpbobaa.G8
