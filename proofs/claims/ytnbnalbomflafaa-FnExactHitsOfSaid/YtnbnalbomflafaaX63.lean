/-
  Texts of the seat, merged (part 3).
-/
import Derived.Test.YtnbnalbomflafaaWMore
import Derived.Test.YtnbnalbomflafaaProg
import Derived.Below
import Derived.Deep.Draws
import Derived.Deep.AppendLies
import Derived.Maps.AppendAt
import Derived.OwnWalk
import Derived.Laws.BytesArg
import Derived.Laws.MakeOwn
import Derived.Laws.OwnMore
import Derived.Deep.OwnRows
import Derived.Tactics
import Derived.Lib.ConvBytes
import Derived.Laws.Slices
import Derived.WalkKit
import Derived.KernelRfl
import Derived.RowKit3
import Derived.Deep.LoopGhost
import Derived.Deep.QuietTactic
import Derived.BigQuiet
import Derived.WideLaws
import Derived.Deep.DeepCutAuto
import Derived.Deep.CutBlock
import Derived.Deep.RegionHeld3
import Derived.Laws.Rows
import Derived.Lib.AppendStr
import Derived.ArgAppend
import Derived.Laws.IdiomCopy
import Derived.OrdersHeld
import Derived.Laws.BitsLemmas
import Derived.RowKit
import Derived.Test.YtnbnalbomflafaaWWords
import Derived.Test.YtnbnalbomflafaaWLast
import Derived.Test.YtnbnalbomflafaaWTab
import Derived.Test.YtnbnalbomflafaaWFour
import Derived.Test.YtnbnalbomflafaaWQPut
import Derived.Test.YtnbnalbomflafaaWApart
import Derived.Test.YtnbnalbomflafaaWArr
import Derived.Test.YtnbnalbomflafaaWZeros
import Derived.Test.YtnbnalbomflafaaWFoot
import Derived.Test.YtnbnalbomflafaaWKept
import Derived.Test.YtnbnalbomflafaaWShare
import Derived.Test.YtnbnalbomflafaaWN
import Derived.Test.YtnbnalbomflafaaWFootNe
import Derived.Test.YtnbnalbomflafaaWAt
import Derived.Test.YtnbnalbomflafaaWEqStruct
import Derived.Test.YtnbnalbomflafaaWRepsOne
import Derived.Test.YtnbnalbomflafaaWInv
import Derived.Test.YtnbnalbomflafaaWInvWords
import Derived.Test.YtnbnalbomflafaaWGuard
import Derived.Test.YtnbnalbomflafaaWNEv
import Derived.Test.YtnbnalbomflafaaX62
/-! ## Ra -/
namespace Go.Proofs.Ytnbnalbomflafaa.RA
open Go.RowKit Go.Proofs.YtnbnalbomflafaaW.PrintWords Go.Proofs.YtnbnalbomflafaaW.PrintLast Go.Proofs.YtnbnalbomflafaaW.PrintMore
open Go.Proofs.Ytnbnalbomflafaa.GA
open Go.Proofs.Ytnbnalbomflafaa.GD hiding rd_L1 at_L1
set_option linter.unusedVariables false
set_option linter.unusedSimpArgs false
theorem wrap_id {x : Int} (h0 : -9223372036854775808 ≤ x) (h1 : x ≤ 9223372036854775807) : wrap64 x = x := by unfold wrap64; omega
theorem rd_at (l : List Int) (i : Nat) (h : i < l.length) : rd l (i : Int) = l[i] := by
  unfold rd
  rw [Int.toNat_natCast, List.getD_eq_getElem?_getD, List.getElem?_eq_getElem h]
  rfl
theorem eqIntS_loop (l : List Int) (hn : l.length ≤ 1000000000000) (d : Nat) : ∀ (k i : Nat), i + d = l.length → d < k → laws_eqIntS.l0 k l l (i : Int) = some true := by
  induction d with
  | zero =>
    intro k i hi hk
    obtain ⟨k, rfl⟩ : ∃ m, k = m + 1 := ⟨k - 1, by omega⟩
    simp only [laws_eqIntS.l0]
    rw [if_neg (by omega)]
  | succ d ih =>
    intro k i hi hk
    obtain ⟨k, rfl⟩ : ∃ m, k = m + 1 := ⟨k - 1, by omega⟩
    simp only [laws_eqIntS.l0]
    have e2 : wrap64 ((i : Int) + 1) = ((i + 1 : Nat) : Int) := by rw [wrap_id (by omega) (by omega)]; omega
    rw [if_pos (by omega), if_pos (by omega), if_pos (by omega), if_pos trivial, e2]
    exact ih k (i + 1) (by omega) (by omega)
theorem eqIntS_refl (l : List Int) (hn : l.length ≤ 1000000000000) (k : Nat) (hk : l.length < k) : laws_eqIntS.f k l l = some true := by
  unfold laws_eqIntS.f
  rw [if_pos rfl]
  exact eqIntS_loop l hn l.length k 0 (by omega) hk
abbrev encI (r : List Int) : List Value := r.map (Value.int .i64)
def RowsL (w : World) (base : Nat) (rows : List (List Int)) (L : List Value) : Prop :=
  (∀ (i : Nat) (r : List Int), rows[i]? = some r → ∃ v, L[i]? = some v ∧ w.ownsRow base 3 1 v r.length (encI r)) ∧ ∀ (i j : Nat) (v u : Value) (k : Nat), L[i]? = some v → L[j]? = some u → i ≠ j → v.ownBlock = some k → u.ownBlock ≠ some k
def RowsD (w : World) (base : Nat) (vc : Value) (rows : List (List Int)) : Prop := ∃ L, w.ownsRow base 37 1 vc rows.length L ∧ RowsL w base rows L
section
variable {w w1 : World} {base : Nat} {vc : Value} {rows : List (List Int)} {L : List Value}
theorem RowsL.move (h : RowsL w base rows L) (hn : L.length = rows.length) (e : ∀ (i : Nat) (v : Value) (k : Nat), L[i]? = some v → v.ownBlock = some k → w1.heap[k]? = w.heap[k]?) : RowsL w1 base rows L := by
  refine ⟨fun i r hr => ?_, h.2⟩
  obtain ⟨v, h1, h2⟩ := h.1 i r hr
  exact ⟨v, h1, own_move h2 fun k hk => e i v k h1 hk⟩
theorem own_len {e : TypeId} {size n : Nat} (h : w.ownsRow base e size vc n L) : L.length = n * size := h.1
theorem RowsL.row (h : RowsL w base rows L) (hn : L.length = rows.length) {i : Nat} {v : Value} (hv : L[i]? = some v) : ∃ r, rows[i]? = some r ∧ w.ownsRow base 3 1 v r.length (encI r) := by
  have hi : i < rows.length := by rw [← hn]; exact (List.getElem?_eq_some_iff.1 hv).1
  obtain ⟨u, h1, h2⟩ := h.1 i rows[i] (List.getElem?_eq_getElem hi)
  rw [hv] at h1
  cases h1
  exact ⟨_, List.getElem?_eq_getElem hi, h2⟩
theorem RowsL.blk (h : RowsL w base rows L) (hn : L.length = rows.length) {i k : Nat} {v : Value} (hv : L[i]? = some v) (hk : v.ownBlock = some k) : base ≤ k ∧ k < w.heap.size ∧ ∃ cells, w.heap[k]? = some (.cells cells 3 (0, 0)) := by
  obtain ⟨r, _, ho⟩ := h.row hn hv
  exact ⟨own_base ho k hk, own_lt ho k hk, own_typed ho k hk⟩
theorem RowsD.nil (w : World) (base : Nat) : RowsD w base (.slice none 0 0) [] := ⟨[], own_nil _ _ _ _, fun i r h => by simp at h, fun i j v u k h => by simp at h⟩
theorem RowsD.keep (h : RowsD w base vc rows) (e : ∀ b, b < w.heap.size → w1.heap[b]? = w.heap[b]?) : RowsD w1 base vc rows := by
  obtain ⟨L, h1, h2⟩ := h
  have hn : L.length = rows.length := by have := own_len h1; omega
  exact ⟨L, own_move h1 (fun k hk => e k (own_lt h1 k hk)), h2.move hn fun i v k hv hk => e k (h2.blk hn hv hk).2.1⟩
theorem RowsD.drewN (h : RowsD w base vc rows) (n : Nat) : RowsD (w.drewN n) base vc rows := h.keep fun _ _ => by simp
theorem RowsD.alloc (h : RowsD w base vc rows) (o : Obj) : RowsD (w.alloc o) base vc rows := h.keep fun b hb => Below.heap_alloc w o b hb
theorem RowsD.below (h : RowsD w base vc rows) (hB : Below w.heap.size w w1) : RowsD w1 base vc rows := h.keep fun b hb => hB.block b hb
theorem rowI_reads {v : Value} {r : List Int} (h : w.ownsRow base 3 1 v r.length (encI r)) : ∃ A c, v = .slice A r.length c ∧ r.length ≤ c ∧ Kd.C (Kd.int .i64) w A r.length r :=
  Kd.R_reads (Kd.R_of_own (ok := fun _ => True) h (fun _ _ => trivial))
/-- Rows, as the printed contracts read them. -/
theorem rows_reads (ho : w.ownsRow base 37 1 vc rows.length L) (h : ∀ (i : Nat) (r : List Int), rows[i]? = some r → ∃ v, L[i]? = some v ∧ ∃ A c, v = .slice A r.length c ∧ r.length ≤ c ∧ Kd.C (Kd.int .i64) w A r.length r) :
    ∃ A c, vc = .slice A rows.length c ∧ rows.length ≤ c ∧ Kd.C (Kd.slice 3 (Kd.int .i64)) w A rows.length rows := by
  have hn : L.length = rows.length := by have := own_len ho; omega
  have hR : Reps (fun p c => (Kd.slice 3 (Kd.int .i64)).K w p c) 1 rows L := ⟨by omega, fun j p hp => by
    obtain ⟨v, h1, A, c, h2, h3, h4⟩ := h j p hp
    refine ⟨A, c, ?_, h3, h4⟩
    have hj := (List.getElem?_eq_some_iff.1 h1).1
    have e : L[j] = v := by rw [List.getElem?_eq_getElem hj] at h1; exact Option.some.inj h1
    rw [Nat.mul_one, List.drop_eq_getElem_cons hj, e, h2]
    rfl⟩
  obtain ⟨A, c, he, hr⟩ := own_reads_row ho hR rfl
  refine ⟨A, c, he, ?_, hr⟩
  rcases ho.2 with ⟨h1, h2⟩ | ⟨g, cap, cur, h1, _, _, h3, _⟩
  · rw [h1] at he
    injection he with _ e2 e3
    omega
  · rw [h1] at he
    injection he with _ e2 e3
    omega
theorem RowsD.reads (h : RowsD w base vc rows) : ∃ A c, vc = .slice A rows.length c ∧ rows.length ≤ c ∧ Kd.C (Kd.slice 3 (Kd.int .i64)) w A rows.length rows := by
  obtain ⟨L, h1, h2⟩ := h
  refine rows_reads h1 fun i r hr => ?_
  obtain ⟨v, q1, q2⟩ := h2.1 i r hr
  exact ⟨v, q1, rowI_reads q2⟩
/-- One more row, in a block of its own. -/
theorem RowsD.app {vc' v : Value} {r : List Int} (h1 : w.ownsRow base 37 1 vc rows.length L) (h2 : RowsL w base rows L) (hv : w1.ownsRow base 3 1 v r.length (encI r)) (hf : ∀ k, v.ownBlock = some k → w.heap.size ≤ k) (ho : w1.ownsRow base 37 1 vc' (rows.length + 1) (L ++ [v])) (e : ∀ b, b < w.heap.size → some b ≠ vc.ownBlock → w1.heap[b]? = w.heap[b]?) : RowsD w1 base vc' (rows ++ [r]) := by
  have hn : L.length = rows.length := by have := own_len h1; omega
  refine ⟨L ++ [v], by rw [List.length_append, List.length_singleton]; exact ho, fun i s hs => ?_, fun i j x y k hx hy hij hk => ?_⟩
  · rcases Nat.lt_trichotomy i rows.length with hi | hi | hi
    · rw [List.getElem?_append_left hi] at hs
      obtain ⟨u, q1, q2⟩ := h2.1 i s hs
      refine ⟨u, by rw [List.getElem?_append_left (by omega)]; exact q1, own_move q2 fun k hk => e k (own_lt q2 k hk) (fun c => ?_)⟩
      obtain ⟨cells, hc⟩ := own_typed q2 k hk
      obtain ⟨cells2, hc2⟩ := own_typed h1 k c.symm
      rw [hc] at hc2
      simp at hc2
    · subst hi
      rw [List.getElem?_append_right (Nat.le_refl _)] at hs
      simp at hs
      subst hs
      exact ⟨v, by rw [List.getElem?_append_right (by omega), hn]; simp, hv⟩
    · rw [List.getElem?_append_right (by omega)] at hs
      rw [List.getElem?_eq_none (by simp; omega)] at hs
      cases hs
  · have aux : ∀ (a : Nat) (x : Value), (L ++ [v])[a]? = some x → (a < rows.length ∧ L[a]? = some x) ∨ (a = rows.length ∧ x = v) := fun a x hx => by
      rcases Nat.lt_trichotomy a rows.length with ha | ha | ha
      · rw [List.getElem?_append_left (by omega)] at hx
        exact .inl ⟨ha, hx⟩
      · rw [List.getElem?_append_right (by omega), ha, hn] at hx
        simp at hx
        exact .inr ⟨ha, hx.symm⟩
      · rw [List.getElem?_append_right (by omega), List.getElem?_eq_none (by simp; omega)] at hx
        cases hx
    rcases aux i x hx with ⟨hi, hx2⟩ | ⟨hi, rfl⟩ <;> rcases aux j y hy with ⟨hj, hy2⟩ | ⟨hj, rfl⟩
    · exact h2.2 i j x y k hx2 hy2 hij hk
    · intro c
      have := (h2.blk hn hx2 hk).2.1
      have := hf k c
      omega
    · intro c
      have := (h2.blk hn hy2 c).2.1
      have := hf k hk
      omega
    · omega
/-- A row's place in the list. -/
theorem RowsD.at (h : w.ownsRow base 37 1 vc rows.length L) {i : Nat} {v : Value} (hv : L[i]? = some v) : ∃ g cap, vc = .slice (some ⟨g, 0, none⟩) rows.length cap ∧ base ≤ g ∧ w.cell? ⟨g, i, none⟩ = some v ∧ w.frozen? ⟨g, i, none⟩ = false := by
  have hi := (List.getElem?_eq_some_iff.1 hv).1
  have hn := own_len h
  rcases h.2 with ⟨h1, h2⟩ | ⟨g, cap, cur, h1, hb, hh, h3, h4, h5, h6⟩
  · omega
  · refine ⟨g, cap, h1, hb, (blk_cell hh i).trans ?_, blk_frozen hh i⟩
    rw [← h6, List.getElem?_take] at hv
    split at hv
    · simpa using hv
    · cases hv
/-- A row is written, in its own block. -/
theorem RowsD.put (h1 : w.ownsRow base 37 1 vc rows.length L) (h2 : RowsL w base rows L) {i : Nat} {v : Value} {r : List Int} (hi : L[i]? = some v) (hv : w1.ownsRow base 3 1 v r.length (encI r)) (e : ∀ b, b < w.heap.size → v.ownBlock ≠ some b → w1.heap[b]? = w.heap[b]?) :
    w1.ownsRow base 37 1 vc (rows.set i r).length L ∧ RowsL w1 base (rows.set i r) L := by
  have hn : L.length = rows.length := by have := own_len h1; omega
  have hil : i < rows.length := by rw [← hn]; exact (List.getElem?_eq_some_iff.1 hi).1
  rw [List.length_set]
  refine ⟨own_move h1 (fun k hk => e k (own_lt h1 k hk) (fun c => ?_)), fun j s hs => ?_, h2.2⟩
  · obtain ⟨_, _, cells, hc⟩ := h2.blk hn hi c
    obtain ⟨cells2, hc2⟩ := own_typed h1 k hk
    rw [hc] at hc2
    simp at hc2
  · by_cases q : i = j
    · subst q
      rw [List.getElem?_set_self hil] at hs
      cases hs
      exact ⟨v, hi, hv⟩
    · rw [List.getElem?_set_ne q] at hs
      obtain ⟨u, q1, q2⟩ := h2.1 j s hs
      exact ⟨u, q1, own_move q2 fun k hk => e k (own_lt q2 k hk) (fun c => h2.2 i j v u k hi q1 q c hk)⟩
end
def tot : List (List Int) → Int
  | [] => 0
  | r :: rs => (r.length : Int) + tot rs
theorem tot_pos : ∀ rs, 0 ≤ tot rs
  | [] => Int.le_refl _
  | r :: rs => by have := tot_pos rs; unfold tot; omega
theorem tot_app : ∀ a b, tot (a ++ b) = tot a + tot b
  | [], b => by simp [tot]
  | r :: a, b => by
    have := tot_app a b
    simp only [List.cons_append, tot, this]
    omega
theorem tot_take {rows : List (List Int)} {i : Nat} (hi : i < rows.length) : tot (rows.take (i + 1)) = tot (rows.take i) + (rows[i].length : Int) := by
  rw [List.take_succ_eq_append_getElem hi, tot_app]
  simp [tot]
theorem tot_le (rows : List (List Int)) (i : Nat) : tot (rows.take i) ≤ tot rows := by
  have h := tot_app (rows.take i) (rows.drop i)
  rw [List.take_append_drop] at h
  have := tot_pos (rows.drop i)
  omega
theorem RowsD.slice {w : World} {base : Nat} {vc : Value} {rows : List (List Int)} (h : RowsD w base vc rows) : ∃ A c, vc = .slice A rows.length c ∧ rows.length ≤ c := by
  obtain ⟨A, c, h1, h2, _⟩ := h.reads
  exact ⟨A, c, h1, h2⟩
theorem rdL_at (l : List (List Int)) (i : Nat) (h : i < l.length) : rd_L1 l (i : Int) = l[i] := by
  unfold rd_L1
  rw [Int.toNat_natCast, List.getD_eq_getElem?_getD, List.getElem?_eq_getElem h]
  rfl
theorem eqIntSS_loop (l : List (List Int)) (hn : l.length ≤ 10000000) (N : Nat) (hN : ∀ r ∈ l, r.length ≤ N) (hN2 : N ≤ 10000000) (d : Nat) : ∀ (k i : Nat), i + d = l.length → N + d + 1 < k → laws_eqIntSS.l0 k l l (i : Int) = some true := by
  induction d with
  | zero =>
    intro k i hi hk
    obtain ⟨k, rfl⟩ : ∃ m, k = m + 1 := ⟨k - 1, by omega⟩
    simp only [laws_eqIntSS.l0]
    rw [if_neg (by omega)]
  | succ d ih =>
    intro k i hi hk
    obtain ⟨k, rfl⟩ : ∃ m, k = m + 1 := ⟨k - 1, by omega⟩
    have hin : i < l.length := by omega
    simp only [laws_eqIntSS.l0]
    have e2 : wrap64 ((i : Int) + 1) = ((i + 1 : Nat) : Int) := by rw [wrap_id (by omega) (by omega)]; omega
    have h3 := hN _ (List.getElem_mem hin)
    rw [if_pos (by omega), if_pos (by omega), if_pos (by omega), rdL_at l i hin, eqIntS_refl l[i] (by omega) k (by omega)]
    simp only [Option.bind_some, if_true]
    rw [e2]
    exact ih k (i + 1) (by omega) (by omega)
theorem eqIntSS_refl (l : List (List Int)) (hn : l.length ≤ 10000000) (N : Nat) (hN : ∀ r ∈ l, r.length ≤ N) (hN2 : N ≤ 10000000) : laws_eqIntSS.f (N + l.length + 2) l l = some true := by
  unfold laws_eqIntSS.f
  rw [if_pos rfl]
  exact eqIntSS_loop l hn N hN hN2 l.length _ 0 (by omega) (by omega)
/-- Rows, read: what the tests ask. -/
def RowsC (w : World) (vc : Value) (rows : List (List Int)) : Prop := ∃ A c, vc = .slice A rows.length c ∧ rows.length ≤ c ∧ Kd.C (Kd.slice 3 (Kd.int .i64)) w A rows.length rows
theorem RowsC.below {w w1 : World} {vc : Value} {rows : List (List Int)} (h : RowsC w vc rows) (hB : Below w.heap.size w w1) : RowsC w1 vc rows := by
  obtain ⟨A, c, h1, h2, h3⟩ := h
  exact ⟨A, c, h1, h2, Kd.C_below h3 hB⟩
theorem RowsD.moveIn {w w1 : World} {base : Nat} {vc : Value} {rows : List (List Int)} (h : RowsD w base vc rows) (e : ∀ b, base ≤ b → b < w.heap.size → w1.heap[b]? = w.heap[b]?) : RowsD w1 base vc rows := by
  obtain ⟨L, h1, h2⟩ := h
  have hn : L.length = rows.length := by have := own_len h1; omega
  exact ⟨L, own_move h1 (fun k hk => e k (own_base h1 k hk) (own_lt h1 k hk)), h2.move hn fun i v k hv hk => e k (h2.blk hn hv hk).1 (h2.blk hn hv hk).2.1⟩
theorem RowsD.upto {w w1 : World} {base n : Nat} {vc : Value} {rows : List (List Int)} (h : RowsD w base vc rows) (hB : Below w.heap.size w w1) : ∀ (L : List Value) (i : Nat) (v : Value) (k : Nat), w1.ownsRow n 37 1 vc rows.length L → L[i]? = some v → v.ownBlock = some k → k < w.heap.size := by
  intro L i v k hL hv hk
  obtain ⟨L2, h1, h2⟩ := h
  have e : L = L2 := by
    have h3 : w1.ownsRow base 37 1 vc rows.length L2 := own_move h1 fun b hb => hB.block b (own_lt h1 b hb)
    rcases hL.2 with ⟨q1, q2⟩ | ⟨g, cap, cur, q1, _, q3, _, _, _, q7⟩
    · have l1 := hL.1
      have l2 := h3.1
      rw [q2] at l1 l2
      simp at l1 l2
      rw [l1, l2]
    · rcases h3.2 with ⟨p1, _⟩ | ⟨g2, cap2, cur2, p1, _, p3, _, _, _, p7⟩
      · rw [q1] at p1; cases p1
      · rw [q1] at p1
        injection p1 with p1 _ _
        injection p1 with p1
        injection p1 with p1
        subst p1
        rw [q3] at p3
        simp at p3
        subst p3
        rw [← q7, ← p7]
  subst e
  have hn : L.length = rows.length := by have := own_len h1; omega
  exact (h2.blk hn hv hk).2.1
/-- Rows that a copy has made. -/
theorem rowsD_of_S {w : World} {base : Nat} {ok : Nat → Prop} {v : Value} {rows : List (List Int)} (h : Kd.S (Kd.slice 3 (Kd.int .i64)) 37 w base ok v rows) : RowsD w base v rows := by
  obtain ⟨f, h0, inner, ho, hr⟩ := h
  rw [List.length_zipIdx] at ho
  have hl : inner.length = rows.length := by have h1 : inner.length = rows.length * 1 := ho.1; omega
  have hat : ∀ (i : Nat) (r : List Int), rows[i]? = some r → ∃ u, inner[i]? = some u ∧ w.ownsRow base 3 1 u r.length (encI r) ∧ ∀ k, u.ownBlock = some k → f k = i := fun i r hi => by
    obtain ⟨u, h1, h2⟩ := hr.2 i (r, i) (Kd.zip_at hi)
    have hin : i < inner.length := by rw [hl]; exact (List.getElem?_eq_some_iff.1 hi).1
    have e : inner[i] = u := by
      have h1' : (inner.drop (i * 1)).take 1 = [u] := h1
      rw [Nat.mul_one, List.drop_eq_getElem_cons hin, List.take_succ_cons, List.take_zero] at h1'
      exact (List.cons.inj h1').1
    refine ⟨u, by rw [List.getElem?_eq_getElem hin, e], Kd.own_of_R h2, fun k hk => (h2.1 k hk).2⟩
  refine ⟨inner, ho, fun i r hi => ?_, fun i j x y k hx hy hij hk hk2 => ?_⟩
  · obtain ⟨u, h1, h2, _⟩ := hat i r hi
    exact ⟨u, h1, h2⟩
  · have hi : i < rows.length := by rw [← hl]; exact (List.getElem?_eq_some_iff.1 hx).1
    have hj : j < rows.length := by rw [← hl]; exact (List.getElem?_eq_some_iff.1 hy).1
    obtain ⟨u, h1, _, h3⟩ := hat i _ (List.getElem?_eq_getElem hi)
    obtain ⟨u2, h4, _, h5⟩ := hat j _ (List.getElem?_eq_getElem hj)
    rw [hx] at h1
    rw [hy] at h4
    cases h1
    cases h4
    exact hij ((h3 k hk).symm.trans (h5 k hk2))
def szR : List (List Int) → Int → Int
  | [], a => a
  | r :: rs, a => if a - (r.length : Int) < 0 then -1 else szR rs (a - (r.length : Int))
theorem szR_is : ∀ (rs : List (List Int)) (a : Int), 0 ≤ a → szR rs a = -1 ∨ (szR rs a = a - tot rs ∧ tot rs ≤ a)
  | [], a, h => .inr ⟨by simp [szR, tot], by simpa [tot] using h⟩
  | r :: rs, a, h => by
    unfold szR
    split
    · exact .inl rfl
    · rcases szR_is rs (a - (r.length : Int)) (by omega) with h1 | ⟨h1, h2⟩
      · exact .inl h1
      · exact .inr ⟨by rw [h1]; simp only [tot]; omega, by simp only [tot]; omega⟩
theorem szI_is (r : List Int) (a : Int) (h : 0 ≤ a ∧ a ≤ 1048576) (hl : (r.length : Int) ≤ 9223372036854775807) : laws_szIntS.f r a = some (if a - (r.length : Int) < 0 then -1 else a - (r.length : Int)) := by
  unfold laws_szIntS.f
  rw [wrap_id (x := a - (r.length : Int)) (by omega) (by omega)]
  split <;> rfl
theorem szSS_loop (rows : List (List Int)) (hl : (rows.length : Int) ≤ 1048576) (hr : ∀ r ∈ rows, (r.length : Int) ≤ 9223372036854775807) (d : Nat) : ∀ (k i : Nat) (a : Int), i + d = rows.length → d < k → 0 ≤ a → a ≤ 1048576 → laws_szIntSS.l0 k rows a (i : Int) = some (szR (rows.drop i) a) := by
  induction d with
  | zero =>
    intro k i a hi hk h0 h1
    obtain ⟨k, rfl⟩ : ∃ m, k = m + 1 := ⟨k - 1, by omega⟩
    simp only [laws_szIntSS.l0]
    rw [if_neg (by omega), List.drop_eq_nil_of_le (by omega)]
    rfl
  | succ d ih =>
    intro k i a hi hk h0 h1
    obtain ⟨k, rfl⟩ : ∃ m, k = m + 1 := ⟨k - 1, by omega⟩
    have hin : i < rows.length := by omega
    simp only [laws_szIntSS.l0]
    have e2 : wrap64 ((i : Int) + 1) = ((i + 1 : Nat) : Int) := by rw [wrap_id (by omega) (by omega)]; omega
    have e3 : rd_L1 rows (i : Int) = rows[i] := rdL_at rows i hin
    rw [if_pos (by omega), if_pos (by omega), e3, szI_is _ _ ⟨h0, h1⟩ (hr _ (List.getElem_mem hin)), List.drop_eq_getElem_cons hin]
    simp only [Option.bind_some]
    by_cases q : a - (rows[i].length : Int) < 0
    · rw [if_pos q, if_pos (by decide)]
      unfold szR
      rw [if_pos q]
    · rw [if_neg q, if_neg q, e2, ih k (i + 1) _ (by omega) (by omega) (by omega) (by omega)]
      conv => rhs; unfold szR
      rw [if_neg q]
theorem toS_loop (l : List Int) (hn : l.length ≤ 1048576) (d : Nat) : ∀ (k i : Nat) (x : List Int), x.length = l.length → i + d = l.length → d < k → x.take i = l.take i → laws_toIntS.l0 k l x (i : Int) = some l := by
  induction d with
  | zero =>
    intro k i x hx hi hk ht
    obtain ⟨k, rfl⟩ : ∃ m, k = m + 1 := ⟨k - 1, by omega⟩
    simp only [laws_toIntS.l0]
    rw [if_neg (by omega)]
    rw [List.take_of_length_le (by omega), List.take_of_length_le (by omega)] at ht
    rw [ht]
  | succ d ih =>
    intro k i x hx hi hk ht
    obtain ⟨k, rfl⟩ : ∃ m, k = m + 1 := ⟨k - 1, by omega⟩
    have hin : i < l.length := by omega
    simp only [laws_toIntS.l0]
    have e2 : wrap64 ((i : Int) + 1) = ((i + 1 : Nat) : Int) := by rw [wrap_id (by omega) (by omega)]; omega
    rw [if_pos (by omega), if_pos (by omega), if_pos (by omega), e2, rd_at l i hin, Int.toNat_natCast]
    refine ih k (i + 1) _ (by simpa using hx) (by omega) (by omega) ?_
    rw [List.take_succ_eq_append_getElem (by rw [List.length_set]; omega), List.take_set_of_le (by omega), ht, List.take_succ_eq_append_getElem hin]
    simp
theorem toS_is (l : List Int) (hn : l.length ≤ 1048576) (k : Nat) (hk : l.length < k) : laws_toIntS.f k l = some l := by
  unfold laws_toIntS.f
  rw [if_pos (by omega), if_pos (by omega), Int.toNat_natCast]
  exact toS_loop l hn l.length k 0 _ (by simp) (by omega) hk (by simp)
theorem toSS_loop (l : List (List Int)) (hn : l.length ≤ 1048576) (hr : ∀ r ∈ l, r.length ≤ 1048576) (d : Nat) : ∀ (k i : Nat) (x : List (List Int)), x.length = l.length → i + d = l.length → 1048576 + d + 1 < k → x.take i = l.take i → laws_toIntSS.l0 k l x (i : Int) = some l := by
  induction d with
  | zero =>
    intro k i x hx hi hk ht
    obtain ⟨k, rfl⟩ : ∃ m, k = m + 1 := ⟨k - 1, by omega⟩
    simp only [laws_toIntSS.l0]
    rw [if_neg (by omega)]
    rw [List.take_of_length_le (by omega), List.take_of_length_le (by omega)] at ht
    rw [ht]
  | succ d ih =>
    intro k i x hx hi hk ht
    obtain ⟨k, rfl⟩ : ∃ m, k = m + 1 := ⟨k - 1, by omega⟩
    have hin : i < l.length := by omega
    simp only [laws_toIntSS.l0]
    have e2 : wrap64 ((i : Int) + 1) = ((i + 1 : Nat) : Int) := by rw [wrap_id (by omega) (by omega)]; omega
    have e3 : rd_L1 l (i : Int) = l[i] := rdL_at l i hin
    have h1 := hr _ (List.getElem_mem hin)
    rw [if_pos (by omega), if_pos (by omega), e3, toS_is l[i] h1 k (by omega)]
    simp only [Option.bind_some]
    rw [if_pos (by omega), e2, Int.toNat_natCast]
    refine ih k (i + 1) _ (by simpa using hx) (by omega) (by omega) ?_
    rw [List.take_succ_eq_append_getElem (by rw [List.length_set]; omega), List.take_set_of_le (by omega), ht, List.take_succ_eq_append_getElem hin]
    simp
theorem toSS_is (l : List (List Int)) (hn : l.length ≤ 1048576) (hr : ∀ r ∈ l, r.length ≤ 1048576) : laws_toIntSS.f (1048576 + l.length + 2) l = some l := by
  unfold laws_toIntSS.f
  rw [if_pos (by omega), if_pos (by omega), Int.toNat_natCast]
  exact toSS_loop l hn hr l.length _ 0 _ (by simp) (by omega) (by omega) (by simp)
theorem tot_mem {rows : List (List Int)} : ∀ r ∈ rows, (r.length : Int) ≤ tot rows := fun r hr => by
  obtain ⟨i, hi, rfl⟩ := List.mem_iff_getElem.1 hr
  have h1 := tot_take hi
  have h2 := tot_le rows (i + 1)
  have h3 := tot_pos (rows.take i)
  omega
def RowsU (w : World) (base u : Nat) (vc : Value) (rows : List (List Int)) : Prop := RowsD w base vc rows ∧ (∀ k, vc.ownBlock = some k → k < u) ∧ ∀ (L : List Value) (i : Nat) (v : Value) (k : Nat), w.ownsRow base 37 1 vc rows.length L → L[i]? = some v → v.ownBlock = some k → k < u
theorem RowsD.toU {w : World} {base : Nat} {vc : Value} {rows : List (List Int)} (h : RowsD w base vc rows) : RowsU w base w.heap.size vc rows :=
  ⟨h, fun k hk => by obtain ⟨L, h1, _⟩ := h; exact own_lt h1 k hk, h.upto (Below.refl _ _)⟩
theorem RowsU.reads {w : World} {base u : Nat} {vc : Value} {rows : List (List Int)} (h : RowsU w base u vc rows) : RowsC w vc rows := h.1.reads
theorem RowsU.moveIn {w w1 : World} {base u : Nat} {vc : Value} {rows : List (List Int)} (h : RowsU w base u vc rows) (e : ∀ b, base ≤ b → b < u → w1.heap[b]? = w.heap[b]?) : RowsU w1 base u vc rows := by
  obtain ⟨⟨L, h1, h2⟩, h3, h4⟩ := h
  have hn : L.length = rows.length := by have := own_len h1; omega
  refine ⟨⟨L, own_move h1 (fun k hk => e k (own_base h1 k hk) (h3 k hk)), h2.move hn fun i v k hv hk => e k (h2.blk hn hv hk).1 (h4 L i v k h1 hv hk)⟩, h3, fun L2 i v k hL hv hk => ?_⟩
  exact h4 L2 i v k (own_move hL fun k hk => (e k (own_base hL k hk) (h3 k hk)).symm) hv hk
theorem RowsU.below {w w1 : World} {base u : Nat} {vc : Value} {rows : List (List Int)} (h : RowsU w base u vc rows) (hu : u ≤ w.heap.size) (hB : Below w.heap.size w w1) : RowsU w1 base u vc rows := h.moveIn fun b _ hb => hB.block b (by omega)
theorem RowsU.drewN {w : World} {base u : Nat} {vc : Value} {rows : List (List Int)} (h : RowsU w base u vc rows) (n : Nat) : RowsU (w.drewN n) base u vc rows := h.moveIn fun _ _ _ => by simp
def ListD (w : World) (base : Nat) (v : Value) (l : List Int) : Prop := w.ownsRow base 3 1 v l.length (encI l)
def ListC (w : World) (v : Value) (l : List Int) : Prop := ∃ A c, v = .slice A l.length c ∧ l.length ≤ c ∧ Kd.C (Kd.int .i64) w A l.length l
def ListU (w : World) (base u : Nat) (v : Value) (l : List Int) : Prop := ListD w base v l ∧ ∀ k, v.ownBlock = some k → k < u
theorem ListC.below {w w1 : World} {v : Value} {l : List Int} (h : ListC w v l) (hB : Below w.heap.size w w1) : ListC w1 v l := by
  obtain ⟨A, c, h1, h2, h3⟩ := h
  exact ⟨A, c, h1, h2, Kd.C_below h3 hB⟩
theorem ListD.reads {w : World} {base : Nat} {v : Value} {l : List Int} (h : ListD w base v l) : ListC w v l := rowI_reads h
theorem ListD.toU {w : World} {base : Nat} {v : Value} {l : List Int} (h : ListD w base v l) : ListU w base w.heap.size v l := ⟨h, fun k hk => own_lt h k hk⟩
theorem ListU.reads {w : World} {base u : Nat} {v : Value} {l : List Int} (h : ListU w base u v l) : ListC w v l := h.1.reads
theorem ListU.moveIn {w w1 : World} {base u : Nat} {v : Value} {l : List Int} (h : ListU w base u v l) (e : ∀ b, base ≤ b → b < u → w1.heap[b]? = w.heap[b]?) : ListU w1 base u v l :=
  ⟨own_move h.1 fun k hk => e k (own_base h.1 k hk) (h.2 k hk), h.2⟩
theorem ListU.below {w w1 : World} {base u : Nat} {v : Value} {l : List Int} (h : ListU w base u v l) (hu : u ≤ w.heap.size) (hB : Below w.heap.size w w1) : ListU w1 base u v l := h.moveIn fun b _ hb => hB.block b (by omega)
theorem ListU.drewN {w : World} {base u : Nat} {v : Value} {l : List Int} (h : ListU w base u v l) (n : Nat) : ListU (w.drewN n) base u v l := h.moveIn fun _ _ _ => by simp
theorem ListC.max {w : World} {v : Value} {l : List Int} (h : ListC w v l) : (l.length : Int) ≤ 9223372036854775807 := by
  obtain ⟨A, c, _, _, h3⟩ := h
  have := h3.2.1
  omega
theorem eqIntS_calls (w : World) (v u : Value) (l : List Int) (hv : ListC w v l) (hu : ListC w u l) (hn : l.length ≤ 10000000) : Calls Try.prog 30 #[v, u] w fun e w' => e = .returned (.bool true) ∧ Drawn0 w w' := by
  obtain ⟨A, c, rfl, hc, hC⟩ := hv
  obtain ⟨A2, c2, rfl, hc2, hC2⟩ := hu
  exact laws_eqIntS.calls (l.length + 2) A c l A2 c2 l true w hC hc hC2 hc2 (eqIntS_refl l (by omega) _ (by omega))
def SmallL (l : List Int) : Prop := (l.length : Int) ≤ 1048576
theorem toIntS_calls (w : World) (v : Value) (l : List Int) (h : ListC w v l) (hn : l.length ≤ 1048576) : Calls Try.prog 28 #[v] w fun e w' => ∃ u, e = .returned u ∧ Below w.heap.size w w' ∧ Aside0 (ListD w' w.heap.size u l) := by
  obtain ⟨A, c, rfl, hc, hC⟩ := h
  refine (laws_toIntS.calls (l.length + 1) A c l l w hC hc (toS_is l hn _ (by omega))).mono ?_
  rintro e w' ⟨u, rfl, hR, hB⟩
  exact ⟨u, rfl, hB, ⟨Kd.own_of_R hR⟩⟩
/-- The size test, with what it tells. -/
def Small (l : List (List Int)) : Prop := l.length ≤ 1048576 ∧ tot l ≤ 1048576 ∧ ∀ r ∈ l, r.length ≤ 1048576
theorem RowsC.maxs {w : World} {vc : Value} {rows : List (List Int)} (h : RowsC w vc rows) : (rows.length : Int) ≤ 9223372036854775807 ∧ ∀ r ∈ rows, (r.length : Int) ≤ 9223372036854775807 := by
  obtain ⟨A, c, rfl, hc, hC⟩ := h
  refine ⟨by have := hC.2.1; omega, fun r hr => ?_⟩
  obtain ⟨i, hi, rfl⟩ := List.mem_iff_getElem.1 hr
  obtain ⟨ad, A0, c0, _, _, _, h4⟩ := at_L1 hC (i : Int) (by omega) (by omega)
  rw [rdL_at rows i hi] at h4
  have := h4.2.1
  omega
def szZ (l : List (List Int)) (x : Int) : Int := if x - (l.length : Int) < 0 then -1 else szR l (x - (l.length : Int))
theorem szZ_is (rows : List (List Int)) (x : Int) (hx : 0 ≤ x ∧ x ≤ 1048576) : szZ rows x = -1 ∨ (0 ≤ szZ rows x ∧ szZ rows x ≤ 1048576 ∧ Small rows) := by
  unfold szZ
  split
  · exact .inl rfl
  · rcases szR_is rows (x - (rows.length : Int)) (by omega) with h1 | ⟨h1, h2⟩
    · exact .inl h1
    · have h3 := tot_pos rows
      refine .inr ⟨by omega, by omega, by omega, by omega, fun r hr => ?_⟩
      have := tot_mem r hr
      omega
theorem szSS_f (rows : List (List Int)) (x : Int) (hx : 0 ≤ x ∧ x ≤ 1048576) (hl : (rows.length : Int) ≤ 9223372036854775807) (hr : ∀ r ∈ rows, (r.length : Int) ≤ 9223372036854775807) : laws_szIntSS.f (rows.length + 1) rows x = some (szZ rows x) := by
  unfold laws_szIntSS.f szZ
  rw [wrap_id (x := x - (rows.length : Int)) (by omega) (by omega)]
  by_cases q : x - (rows.length : Int) < 0
  · rw [if_pos q, if_pos q]
  · rw [if_neg q, if_neg q]
    have := szSS_loop rows (by omega) hr rows.length (rows.length + 1) 0 (x - (rows.length : Int)) (by omega) (by omega) (by omega) (by omega)
    rw [show ((0 : Nat) : Int) = 0 from rfl, List.drop_zero] at this
    exact this
def FitsL (R : List Int) : Prop := R.length ≤ 1000000
theorem eqL_c (w : World) (v u : Value) (l : List Int) (hv : ListC w v l) (hu : ListC w u l) (hs : SmallL l) : Calls Try.prog 30 #[v, u] w fun e w' => e = .returned (.bool true) ∧ Drawn0 w w' :=
  eqIntS_calls w v u l hv hu (by unfold SmallL at hs; omega)
end Go.Proofs.Ytnbnalbomflafaa.RA
/-! ## Rb -/
namespace Go.Proofs.Ytnbnalbomflafaa.RA
open Go.RowKit Go.Proofs.YtnbnalbomflafaaW.PrintWords Go.Proofs.YtnbnalbomflafaaW.PrintLast Go.Proofs.YtnbnalbomflafaaW.PrintMore
open Go.Proofs.Ytnbnalbomflafaa.GA
open Go.Proofs.Ytnbnalbomflafaa.GD hiding rd_L1 at_L1
set_option linter.unusedVariables false
set_option linter.unusedSimpArgs false
theorem box_10 (w : World) (v : Value) (t : TypeId) : (w.alloc (.cells #[v] t)).cell? ⟨w.heap.size, 0, none⟩ = some v := (blk_cell (blk_new w _) 0).trans rfl
theorem toL_c (w : World) (v : Value) (l : List Int) (h : ListC w v l) (hs : SmallL l) : Calls Try.prog 28 #[v] w fun e w' => ∃ u, e = .returned u ∧ Below w.heap.size w w' ∧ Aside0 (ListD w' w.heap.size u l) := toIntS_calls w v l h (by unfold SmallL at hs; omega)
theorem szG_c (w : World) (v : Value) (l : List (List Int)) (h : RowsC w v l) (x : Int) (hx : 0 ≤ x ∧ x ≤ 1048576) : Calls Try.prog 19 #[.agg #[v], .int .i64 x] w fun e w' => e = .returned (.int .i64 (szZ l x)) ∧ Below w.heap.size w w' := by
  have h2 := szSS_f l x hx h.maxs.1 h.maxs.2
  have h3 := szZ_is l x hx
  obtain ⟨A, c, rfl, hc, hC⟩ := h
  refine laws_szGraph.calls (l.length + 1) A c l x _ w hC hc ?_
  unfold laws_szGraph.f
  rw [h2, Option.bind_some]
  rcases h3 with h3 | ⟨h3, _⟩
  · rw [h3]; rfl
  · rw [if_neg (by omega)]
theorem toG_c (w : World) (v : Value) (l : List (List Int)) (h : RowsC w v l) (hs : Small l) : Calls Try.prog 21 #[.agg #[v]] w fun e w' => ∃ u, e = .returned (.agg #[u]) ∧ Below w.heap.size w w' ∧ Aside0 (RowsD w' w.heap.size u l) := by
  obtain ⟨A, c, rfl, hc, hC⟩ := h
  refine (laws_toGraph.calls (1048576 + l.length + 2) A c l l w hC hc ?_).mono ?_
  · unfold laws_toGraph.f
    rw [toSS_is l hs.1 hs.2.2]
    rfl
  · rintro e w' ⟨u, rfl, hS, hB⟩
    exact ⟨u, rfl, hB, ⟨rowsD_of_S hS⟩⟩
theorem eqG_c (w : World) (v u : Value) (l : List (List Int)) (hv : RowsC w v l) (hu : RowsC w u l) (hs : Small l) : Calls Try.prog 24 #[.agg #[v], .agg #[u]] w fun e w' => e = .returned (.bool true) ∧ Below w.heap.size w w' := by
  obtain ⟨A, c, rfl, hc, hC⟩ := hv
  obtain ⟨A2, c2, rfl, hc2, hC2⟩ := hu
  refine laws_eqGraph.calls (1048576 + l.length + 2) A c l A2 c2 l true w hC hc hC2 hc2 ?_
  unfold laws_eqGraph.f
  rw [eqIntSS_refl l (by have := hs.1; omega) 1048576 hs.2.2 (by decide)]
  rfl
end Go.Proofs.Ytnbnalbomflafaa.RA
/-! ## Kt -/
namespace Go.Proofs.Ytnbnalbomflafaa.KA
open Go.RowKit Go.Proofs.YtnbnalbomflafaaW.PrintWords Go.Proofs.YtnbnalbomflafaaW.PrintLast Go.Proofs.YtnbnalbomflafaaW.PrintMore
open Go.Proofs.Ytnbnalbomflafaa.GA
open Go.Shelf Go.Lib
set_option linter.unusedVariables false
set_option linter.unusedSimpArgs false
theorem pred122 (ad : Addr) (n c : Nat) (B B2 i m : Nat) (A1 : Option Addr) (c1 : Nat) (w : World) (hB : B < w.heap.size) (hB2 : B2 < w.heap.size) (hcell : w.cell? ⟨B, 0, none⟩ = some (.slice (some ad) n c)) (hp : w.cell? ⟨B2, 0, none⟩ = some (.int .i64 (i : Int)))
    (hrow : w.cell? (ad.add i) = some (.slice A1 m c1)) (hi : i < n) (h1 : m ≤ 100) :
    PredAt Try.prog 122 #[.pointer (some ⟨B, 0, none⟩), .pointer (some ⟨B2, 0, none⟩)] (Value.int .i64) (fun q => !inB q 0 ((m : Int) - 1)) w := fun W x hb => by
  have hc : W.cell? ⟨B, 0, none⟩ = some (.slice (some ad) n c) := (hb.cell (p := ⟨B, 0, none⟩) hB).trans hcell
  have hc2 : W.cell? ⟨B2, 0, none⟩ = some (.int .i64 (i : Int)) := (hb.cell (p := ⟨B2, 0, none⟩) hB2).trans hp
  have hc3 : W.cell? (ad.add i) = some (.slice A1 m c1) := (hb.cell (World.block_lt_of_cell? w _ hrow)).trans hrow
  have HI := in_eq x 0 ((m : Int) - 1)
  have hi1 : (0 : Int) ≤ (i : Int) := by omega
  have hi2 : (i : Int) < (n : Int) := by omega
  show Calls Try.prog 122 #[.int .i64 x, .pointer (some ⟨B, 0, none⟩), .pointer (some ⟨B2, 0, none⟩)] W _
  obtain ⟨b, hbb⟩ : ∃ b, b = inB x 0 ((m : Int) - 1) := ⟨_, rfl⟩
  rw [← hbb] at HI
  replace HI := Aside0.mk HI
  replace hbb := Aside0.mk hbb
  clear hcell hp hrow
  cases b
  all_goals go_enter Try.func122, Try.ntmps122
  all_goals go_wp2_with (go_at_call 77; (with_reducible refine (impl_in.calls x 0 ((m : Int) - 1) _ _ HI.out).mono ?_); rintro e w' ⟨rfl, ⟨nd, rfl⟩⟩)
  all_goals (go_ret; exact ⟨by rw [← hbb.out]; rfl, nd, rfl⟩)
theorem enters122 : ∀ args w, (callFunc 122 args).run Try.prog w = .ok (.enter 122 args) w := enters_of Try.func122 (by kernel_rfl) rfl
def okStack (n : Nat) (row : List Int) : Bool := decide (row.length ≤ 12) && !(row.any fun q => !inB q 0 ((n : Int) - 1))
/-- Each list is fine for the exits of its place. -/
def okStacks : List (List Int) → List (List Int) → Bool
  | e :: l, r :: s => okStack e.length r && okStacks l s
  | _, _ => true
def stacksB (l : List (List Int)) (a : Int) (s : List (List Int)) : Bool := placeB l a && decide (s.length = l.length) && decide ((s.getD a.toNat []).length = 0) && okStacks l s
def impl_areStacks.f (l0_0 : List (List Int)) (a1 : Int) (l2_0 : List (List Int)) : Option Bool := some (stacksB l0_0 a1 l2_0)
theorem at_row' {w : World} {ad : Addr} {l : List (List Int)} (h : Kd.C (Kd.slice 3 (Kd.int .i64)) w (some ad) l.length l) (i : Nat) (hi : i < l.length) :
    ∃ A1 c1, w.cell? (ad.add i) = some (.slice A1 l[i].length c1) ∧ l[i].length ≤ c1 ∧ Kd.C (Kd.int .i64) w A1 l[i].length l[i] := by
  obtain ⟨ad', A1, c1, e, hx, hl, hc⟩ := at_row h i hi
  injection e with e
  subst e
  exact ⟨A1, c1, hx, hl, hc⟩
theorem box3 (W : World) (v : Value) : (W.alloc (.cells #[v] 3)).cell? ⟨W.heap.size, 0, none⟩ = some v := (blk_cell (blk_new W (.cells #[v] 3)) 0).trans rfl
theorem okStacks_drop (l s : List (List Int)) (i : Nat) (h1 : i < l.length) (h2 : i < s.length) : okStacks (l.drop i) (s.drop i) = (okStack l[i].length s[i] && okStacks (l.drop (i + 1)) (s.drop (i + 1))) := by
  rw [List.drop_eq_getElem_cons h1, List.drop_eq_getElem_cons h2]
  rfl
set_option maxHeartbeats 4000000 in
set_option maxRecDepth 100000 in
theorem impl_areStacks.walk (A0 : Option Addr) (c0 : Nat) (l : List (List Int)) (a1 : Int) (A2 : Option Addr) (c2 : Nat) (s : List (List Int)) (w : World) (hr0 : Kd.C (Kd.slice 3 (Kd.int .i64)) w A0 l.length l) (hc0 : l.length ≤ c0) (hr2 : Kd.C (Kd.slice 3 (Kd.int .i64)) w A2 s.length s) :
    Calls Try.prog 98 #[.agg #[.slice A0 l.length c0], .int .i64 a1, .agg #[.slice A2 s.length c2]] w fun e w' => e = .returned (.bool (stacksB l a1 s)) ∧ Below w.heap.size w w' := by
  have hu30 := Try.underlying30
  have hu59 := Try.underlying59
  have W0 := below_alloc (below_alloc (Below.refl w.heap.size w) (.cells #[.slice A0 l.length c0] 30)) (.cells #[.slice A2 s.length c2] 59)
  have W1 := below_alloc W0 (.cells #[.int .i64 a1] 3)
  have HR0 := Aside0.mk (Kd.C_below hr0 W1)
  have HR1 := Kd.C_of_reads (enc := Value.int .i64) (h1 := fun _ => rfl) (d := (0 : Int)) (w := ((w.alloc (.cells #[.slice A0 l.length c0] 30)).alloc (.cells #[.slice A2 s.length c2] 59)).alloc (.cells #[.int .i64 a1] 3)) (A := some ⟨w.heap.size + 2, 0, none⟩) (n := 1) (xs := [a1]) ⟨rfl, by decide, fun _ => ⟨_, rfl, fun j hj => by
    obtain rfl : j = 0 := by omega
    have h := (blk_cell (blk_new ((w.alloc (.cells #[.slice A0 l.length c0] 30)).alloc (.cells #[.slice A2 s.length c2] 59)) (.cells #[.int .i64 a1] 3)) 0)
    simpa [Addr.add] using h⟩⟩
  replace HR1 := Aside0.mk HR1
  replace W0 := Aside0.mk W0
  replace W1 := Aside0.mk W1
  cases hp : placeB l a1 with
  | false =>
    have h0 : stacksB l a1 s = false := by unfold stacksB; rw [hp]; rfl
    rw [h0]
    have hp2 := hasB_one l a1
    rw [hp] at hp2
    replace hp2 := Aside0.mk hp2
    clear hr0 hr2 h0 hp
    go_enter Try.func98, Try.ntmps98
    go_wp2_with (go_at_call 76; refine (impl_has.walk A0 c0 l _ 1 [a1] _ HR0.out HR1.out).mono ?_; rw [hp2.out]; rintro e w1 ⟨rfl, hB⟩; have HB := Aside0.mk hB; clear hB)
    go_ret
    exact ⟨rfl, below_then W1.out (by simp; omega) HB.out⟩
  | true =>
    obtain ⟨hg, hl1, hl8, ha0, hal⟩ := place_is hp
    obtain ⟨a, rfl⟩ := Int.eq_ofNat_of_zero_le ha0
    obtain ⟨ad0, _, _, rfl, _, _, _⟩ := at_row hr0 a (by omega)
    have hp2 := hasB_one l (a : Int)
    rw [hp] at hp2
    replace hp2 := Aside0.mk hp2
    have b0 : (((w.alloc (.cells #[.slice (some ad0) l.length c0] 30)).alloc (.cells #[.slice A2 s.length c2] 59)).alloc (.cells #[.int .i64 (a : Int)] 3)).cell? ⟨w.heap.size, 0, none⟩ = some (.slice (some ad0) l.length c0) := by
      rw [World.cell?_alloc_lt _ _ _ (by simp; omega), World.cell?_alloc_lt _ _ _ (by simp)]
      exact (blk_cell (blk_new w (.cells #[.slice (some ad0) l.length c0] 30)) 0).trans rfl
    have b1 : (((w.alloc (.cells #[.slice (some ad0) l.length c0] 30)).alloc (.cells #[.slice A2 s.length c2] 59)).alloc (.cells #[.int .i64 (a : Int)] 3)).cell? ⟨w.heap.size + 1, 0, none⟩ = some (.slice A2 s.length c2) := by
      rw [World.cell?_alloc_lt _ _ _ (by simp)]
      have h := (blk_cell (blk_new (w.alloc (.cells #[.slice (some ad0) l.length c0] 30)) (.cells #[.slice A2 s.length c2] 59)) 0)
      rw [show (w.alloc (.cells #[.slice (some ad0) l.length c0] 30)).heap.size = w.heap.size + 1 by simp] at h
      exact h.trans rfl
    replace b0 := Aside0.mk b0
    replace b1 := Aside0.mk b1
    by_cases hsl : s.length = l.length
    · obtain ⟨ad2, A3, c3, rfl, hx3, hl3, hC3⟩ := at_row hr2 a (by omega)
      have hx3 := W1.out.cell (World.block_lt_of_cell? w _ hx3) |>.trans hx3
      have hgd : s.getD ((a : Int)).toNat [] = s[a] := by rw [Int.toNat_natCast, List.getD_eq_getElem?_getD, List.getElem?_eq_getElem (by omega)]; rfl
      have e1 : ((s.length : Int) != (l.length : Int)) = false := by simp; omega
      have e2 : (s.length != l.length) = false := by simpa using hsl
      have i1 : (0 : Int) ≤ (a : Int) := by omega
      have i2 : (a : Int) < (s.length : Int) := by omega
      by_cases hz : s[a].length = 0
      · have hr : stacksB l (a : Int) s = okStacks l s := by unfold stacksB; rw [hp, decide_eq_true hsl, hgd, decide_eq_true hz]; rfl
        rw [hr]
        obtain ⟨r, hr⟩ : ∃ r, r = okStacks l s := ⟨_, rfl⟩
        rw [← hr]
        replace hr := Aside0.mk hr
        have e3 : ((s[a].length : Int) != 0) = false := by rw [bne_eq_false_iff_eq]; omega
        have e4 : (s[a].length != 0) = false := by simpa using hz
        generalize s[a] = row0 at *
        replace hz := Aside0.mk hz
        replace hsl := Aside0.mk hsl
        replace hgd := Aside0.mk hgd
        have HS := Aside0.mk hr2
        have HL := Aside0.mk hr0
        clear hp hr2 hr0
        go_enter Try.func98, Try.ntmps98
        go_wp2_with (go_at_call 76; refine (impl_has.walk (some ad0) c0 l _ 1 [(a : Int)] _ HR0.out HR1.out).mono ?_; rw [hp2.out]; rintro e w1 ⟨rfl, hB⟩; have HB := Aside0.mk hB; have k0 := (hB.cell (p := ⟨w.heap.size, 0, none⟩) (by simp; omega)).trans b0.out; have k1 := (hB.cell (p := ⟨w.heap.size + 1, 0, none⟩) (by simp)).trans b1.out; have k2 := (hB.cell (World.block_lt_of_cell? _ _ hx3)).trans hx3; have KB := Aside0.mk (below_then W1.out (by simp; omega) hB); have kz := hB.size; simp at kz; clear hB)
        clear k2
        go_loopg [35] s.length (fun kq v35 wr => ∃ i : Nat, v35 = .int .i64 (i : Int) ∧ Aside0 (i + kq = s.length ∧ okStacks (l.drop i) (s.drop i) = r) ∧ Aside0 (wr.cell? ⟨w.heap.size, 0, none⟩ = some (.slice (some ad0) l.length c0) ∧ w.heap.size < wr.heap.size) ∧ Aside0 (Below w.heap.size w wr))
        case atStart => exact ⟨0, rfl, ⟨by omega, by rw [List.drop_zero, List.drop_zero]; exact hr.out.symm⟩, ⟨k0, by omega⟩, KB⟩
        case round =>
          clear k0 k1 KB hr
          obtain ⟨i, rfl, HA, HC, HB⟩ := hrel
          by_cases hlt : i < s.length
          · obtain ⟨q1, rfl⟩ : ∃ m, gk = m + 1 := ⟨gk - 1, by have := HA.out.1; omega⟩
            have hil : i < l.length := by have := hsl.out; omega
            have h2 := HA.out.2
            rw [okStacks_drop l s i hil hlt] at h2
            replace h2 := Aside0.mk h2
            obtain ⟨A5, c5, hx5, hl5, hC5⟩ := at_row' HL.out i (by have := hsl.out; omega)
            obtain ⟨A6, c6, hx6, hl6, hC6⟩ := at_row' HS.out i hlt
            replace hx6 := (HB.out.cell (World.block_lt_of_cell? w _ hx6)).trans hx6
            replace hx5 := (HB.out.cell (World.block_lt_of_cell? w _ hx5)).trans hx5
            have hC6r := Kd.C_alloc (Kd.C_below hC6 HB.out) (.cells #[.int .i64 (i : Int)] 3)
            have h100 : l[i].length ≤ 100 := by have := (graph_row hg (List.getElem_mem hil)).1; omega
            generalize l[i] = lrow at *
            generalize s[i] = srow at *
            have hi1 : (0 : Int) ≤ (i : Int) := by omega
            have hi2 : (i : Int) < (s.length : Int) := by omega
            have HP := pred122 ad0 l.length c0 w.heap.size wr.heap.size i lrow.length A5 c5 (wr.alloc (.cells #[.int .i64 (i : Int)] 3)) (by simp; have := HC.out.2; omega) (by simp) ((World.cell?_alloc_lt _ _ _ (by have := HC.out.2; omega)).trans HC.out.1) (box3 _ _)
              ((World.cell?_alloc_lt _ _ _ (World.block_lt_of_cell? wr _ hx5)).trans hx5) (by have := hsl.out; omega) h100
            replace HP := Aside0.mk HP
            replace hx5 := Aside0.mk hx5
            replace hC5 := Aside0.mk hC5
            replace hC6 := Aside0.mk hC6
            replace hC6r := Aside0.mk hC6r
            obtain ⟨b, hb⟩ : ∃ b, b = srow.any (fun q => !inB q 0 ((lrow.length : Int) - 1)) := ⟨_, rfl⟩
            replace hb := Aside0.mk hb
            have HB2 := Aside0.mk (below_alloc HB.out (.cells #[.int .i64 (i : Int)] 3))
            have HC2 := Aside0.mk ((World.cell?_alloc_lt wr (.cells #[.int .i64 (i : Int)] 3) ⟨w.heap.size, 0, none⟩ (by have := HC.out.2; omega)).trans HC.out.1)
            by_cases h12 : srow.length ≤ 12
            · have h5' : decide (12 < (srow.length : Int)) = false := decide_eq_false (by omega)
              have h5'' : decide (12 < srow.length) = false := decide_eq_false (by omega)
              have h6 : okStack lrow.length srow = !b := by unfold okStack; rw [hb.out, decide_eq_true h12, Bool.true_and]
              replace h6 := Aside0.mk h6
              cases b with
              | true =>
                go_wp2_with (go_at_call 108; refine (contains_calls _ 122 _ enters122 A6 c6 srow _ HP.out hC6r.out).mono ?_; rw [← hb.out]; rintro e w' ⟨rfl, ⟨nd2, rfl⟩⟩)
                go_ret
                exact ⟨by have := h2.out; rw [h6.out] at this; simp at this; rw [← this]; rfl, pw_below_drewN HB2.out _⟩
              | false =>
                go_wp2_with (go_at_call 108; refine (contains_calls _ 122 _ enters122 A6 c6 srow _ HP.out hC6r.out).mono ?_; rw [← hb.out]; rintro e w' ⟨rfl, ⟨nd2, rfl⟩⟩)
                go_roundg q1
                case measure => omega
                case rel => exact ⟨i + 1, by go_num, ⟨by have := HA.out.1; omega, by have := h2.out; rw [h6.out] at this; simpa using this⟩, ⟨HC2.out, Nat.lt_of_lt_of_le HC.out.2 (by simp)⟩, ⟨pw_below_drewN HB2.out _⟩⟩
            · have h5' : decide (12 < (srow.length : Int)) = true := decide_eq_true (by omega)
              have h5'' : decide (12 < srow.length) = true := decide_eq_true (by omega)
              have h6 : okStack lrow.length srow = false := by unfold okStack; rw [decide_eq_false h12, Bool.false_and]
              replace h6 := Aside0.mk h6
              go_wp2_with (fail)
              go_ret
              exact ⟨by have := h2.out; rw [h6.out] at this; simp at this; rw [← this]; rfl, HB2.out⟩
          · have h2 := HA.out.2
            rw [List.drop_of_length_le (by have := hsl.out; omega), List.drop_of_length_le (by omega)] at h2
            replace h2 := Aside0.mk h2
            go_wp2_with (fail)
            go_ret
            exact ⟨by rw [← h2.out]; rfl, HB.out⟩
      · have h0 : stacksB l (a : Int) s = false := by unfold stacksB; rw [hgd, decide_eq_false hz]; simp
        rw [h0]
        have e3 : ((s[a].length : Int) != 0) = true := by rw [bne_iff_ne]; omega
        have e4 : (s[a].length != 0) = true := by simpa using hz
        generalize s[a] = row0 at *
        clear hr0 hr2 h0 hp hsl hz hgd
        go_enter Try.func98, Try.ntmps98
        go_wp2_with (go_at_call 76; refine (impl_has.walk (some ad0) c0 l _ 1 [(a : Int)] _ HR0.out HR1.out).mono ?_; rw [hp2.out]; rintro e w1 ⟨rfl, hB⟩; have HB := Aside0.mk hB; have k0 := (hB.cell (p := ⟨w.heap.size, 0, none⟩) (by simp; omega)).trans b0.out; have k1 := (hB.cell (p := ⟨w.heap.size + 1, 0, none⟩) (by simp)).trans b1.out; have k2 := (hB.cell (World.block_lt_of_cell? _ _ hx3)).trans hx3; clear hB)
        go_ret
        exact ⟨rfl, below_then W1.out (by simp; omega) HB.out⟩
    · have h0 : stacksB l (a : Int) s = false := by unfold stacksB; rw [decide_eq_false hsl]; simp
      rw [h0]
      have e1 : ((s.length : Int) != (l.length : Int)) = true := by simp; omega
      have e2 : (s.length != l.length) = true := by simpa using hsl
      clear hr0 hr2 h0 hp hsl
      go_enter Try.func98, Try.ntmps98
      go_wp2_with (go_at_call 76; refine (impl_has.walk (some ad0) c0 l _ 1 [(a : Int)] _ HR0.out HR1.out).mono ?_; rw [hp2.out]; rintro e w1 ⟨rfl, hB⟩; have HB := Aside0.mk hB; have k0 := (hB.cell (p := ⟨w.heap.size, 0, none⟩) (by simp; omega)).trans b0.out; have k1 := (hB.cell (p := ⟨w.heap.size + 1, 0, none⟩) (by simp)).trans b1.out; clear hB)
      go_ret
      exact ⟨rfl, below_then W1.out (by simp; omega) HB.out⟩
end Go.Proofs.Ytnbnalbomflafaa.KA
/-! ## GR0 -/
namespace Go.Proofs.Ytnbnalbomflafaa.GR
open Go.RowKit Go.Proofs.YtnbnalbomflafaaW.PrintWords Go.Proofs.YtnbnalbomflafaaW.PrintLast Go.Proofs.YtnbnalbomflafaaW.PrintMore
open Go.Proofs.Ytnbnalbomflafaa.GA Go.Proofs.Ytnbnalbomflafaa.GB Go.Proofs.Ytnbnalbomflafaa.GD Go.Proofs.Ytnbnalbomflafaa.KA
attribute [local go_sem] max2_int min2_int max_two min_two max_three min_three max_four min_four   -- for this text's walks alone
set_option linter.unusedVariables false
set_option linter.unusedSimpArgs false
def errW : Option Int → Value
  | none => .nilIface
  | some c => .iface 0 (.int .i64 c)
theorem errW_none : errW none = .nilIface := rfl
theorem errW_some (c : Int) : errW (some c) = .iface 0 (.int .i64 c) := rfl
theorem info3 : (Try.prog.info? 3).map (fun i => (i.zero, i.size, i.bytes)) = some (some (.int .i64 0), 1, 8) := by kernel_rfl
theorem info37 : (Try.prog.info? 37).map (fun i => (i.zero, i.size, i.bytes)) = some (some (.slice none 0 0), 1, 24) := by kernel_rfl
def rd_L1 (xs : List (List Int)) (i : Int) : (List Int) := xs.getD i.toNat ([] : List Int)
theorem at_L1 {w : World} {A : Option Addr} {n : Nat} {xs : List (List Int)} (h : Kd.C (Kd.slice 3 (Kd.int .i64)) w A n xs) (i : Int) (h0 : 0 ≤ i) (h1 : i < n) : ∃ ad A0 c0, A = some ad ∧ w.cell? (ad.add i.toNat) = some (.slice A0 (rd_L1 xs i).length c0) ∧ (rd_L1 xs i).length ≤ c0 ∧ (Kd.int .i64).C w A0 (rd_L1 xs i).length (rd_L1 xs i) := by
  obtain ⟨ad, c, e, _, hK, hc0⟩ := Kd.C_get h ([] : List Int) i h0 h1
  have hc : ∀ j u, c[j]? = some u → w.cell? (ad.add (i.toNat * 1 + j)) = some u := hc0
  obtain ⟨A0, c0, rfl, l0, g0⟩ := hK
  exact ⟨ad, A0, c0, e, by have hq := hc 0 _ rfl; rwa [Nat.mul_one, Nat.add_zero] at hq, l0, g0⟩
end Go.Proofs.Ytnbnalbomflafaa.GR
/-! ## GR1 -/
namespace Go.Proofs.Ytnbnalbomflafaa.GR
open Go.RowKit Go.Proofs.YtnbnalbomflafaaW.PrintWords Go.Proofs.YtnbnalbomflafaaW.PrintLast Go.Proofs.YtnbnalbomflafaaW.PrintMore
open Go.Proofs.Ytnbnalbomflafaa.GA Go.Proofs.Ytnbnalbomflafaa.GB Go.Proofs.Ytnbnalbomflafaa.GD Go.Proofs.Ytnbnalbomflafaa.KA
attribute [local go_sem] max2_int min2_int max_two min_two max_three min_three max_four min_four   -- for this text's walks alone
set_option linter.unusedVariables false
set_option linter.unusedSimpArgs false
def impl_TopsOf.f (k : Nat) (l0_0 : List (List Int)) (a1 : Int) (l2_0 : List (List Int)) : Option (List Int × Bool) := (impl_areStacks.f l0_0 a1 l2_0).bind fun t192 => (if t192 = true then ((impl_Stacks_tops.f k l2_0 a1).bind fun bt193 => (some (bt193.1, bt193.2))) else (some (([] : List Int), false)))
mutual
def impl_isWalk.j0 : Nat → Bool → List (List Int) → List Int → Int → Option (Bool)
  | 0, _, _, _, _ => none
  | k + 1, x21, x261000, x262000, x262001 => if x21 = true then (some false) else (impl_isWalk.l0 k x262000 (x262000.length : Int) 0 x261000)
def impl_isWalk.l0 : Nat → List Int → Int → Int → List (List Int) → Option (Bool)
  | 0, _, _, _, _ => none
  | k + 1, x23, x24, x25, x261000 => if x25 < x24 then (if 0 ≤ x25 then (if x25 < (x23.length : Int) then (if x25 < (x261000.length : Int) then ((impl_in.f (rd x23 x25) 0 (mx (wrap64 (((rd_L1 x261000 x25).length : Int) - 1)) 0)).bind fun t268 => (if t268 = true then (impl_isWalk.l0 k x23 x24 (wrap64 (x25 + 1)) x261000) else (some false))) else (none)) else (none)) else (none)) else (some true)
end
def impl_isWalk.f (k : Nat) (l0_0 : List (List Int)) (l1_0 : List Int) (a1_1 : Int) : Option (Bool) := (impl_has.f l0_0 (([a1_1] : List Int))).bind fun t265 => (if t265 = true then (impl_isWalk.j0 k ((l1_0.length : Int) != (l0_0.length : Int)) l0_0 l1_0 a1_1) else (impl_isWalk.j0 k true l0_0 l1_0 a1_1))
set_option maxHeartbeats 8000000 in
set_option maxRecDepth 100000 in
theorem impl_isWalk.calls (k : Nat) (A0_0 : Option Addr) (c0_0 : Nat) (l0_0 : List (List Int)) (A1_0 : Option Addr) (c1_0 : Nat) (l1_0 : List Int) (a1_1 : Int) (r : Bool) (w : World) (hr0_0 : Kd.C (Kd.slice 3 (Kd.int .i64)) w A0_0 l0_0.length l0_0) (hc0_0 : l0_0.length ≤ c0_0) (hr1_0 : Kd.C (Kd.int .i64) w A1_0 l1_0.length l1_0) (hc1_0 : l1_0.length ≤ c1_0) (h : impl_isWalk.f k l0_0 l1_0 a1_1 = some r) :
    Calls Try.prog 123 #[.agg #[.slice A0_0 l0_0.length c0_0], .agg #[.slice A1_0 l1_0.length c1_0, .int .i64 a1_1]] w fun e w' => e = .returned (.bool r) ∧ Below w.heap.size w w' := by
  have hu30 := Try.underlying30
  have hu98 := Try.underlying98
  have HR0_0 := Aside0.mk hr0_0
  have HC0_0 := Aside0.mk hc0_0
  clear hr0_0 hc0_0
  have HR1_0 := Aside0.mk hr1_0
  have HC1_0 := Aside0.mk hc1_0
  clear hr1_0 hc1_0
  have HB := Aside0.mk (Below.refl w.heap.size w)
  have H : ((impl_has.f l0_0 (([a1_1] : List Int))).bind fun t265 => (if t265 = true then (impl_isWalk.j0 k ((l1_0.length : Int) != (l0_0.length : Int)) l0_0 l1_0 a1_1) else (impl_isWalk.j0 k true l0_0 l1_0 a1_1))) = some r := h
  clear h
  have HC3 := Aside0.mk H
  clear H
  go_enter Try.func123, Try.ntmps123
  go_upto_region 1 with (first | ((with_reducible refine gate_dst (N := 2) rfl ?_); (try (refine gate_guard (by rfl) ?_; dsimp only)); refine box_event ?hg (N := 2) ?hd (cs := #[.slice A0_0 l0_0.length c0_0]) (t := 30) ?hr ?_; (case hd => rfl); (case hg => rfl); (case hr => first | (go_simp; done) | (go_simp; rfl)); intro gb260 hg w4 hbox hb; have n0_ := Aside0.mk (below_step (by repeat (first | (with_reducible first | exact HB.out | apply below_alloc | apply pw_below_drewN | apply below_drew1) | exact HB.out)) hb); have n1_ := Aside0.mk (hbox); have n2_ := Aside0.mk ((by rw [hg]; exact (below_size (by repeat (first | (with_reducible first | exact HB.out | apply below_alloc | apply pw_below_drewN | apply below_drew1) | exact HB.out))) : w.heap.size ≤ gb260)); have n3_ := Aside0.mk ((by rw [hg]; exact (below_size (by repeat (first | (with_reducible first | exact HB.out | apply below_alloc | apply pw_below_drewN | apply below_drew1) | exact HB.out))) : w.heap.size ≤ gb260)); clear HB; have HB := n0_; have BK260 := n1_; have GW260 := n2_; have GE260 := n3_; clear n0_ n1_ n2_ n3_; clear hb hbox hg) | ((with_reducible refine gate_dst (N := 3) rfl ?_); (try (refine gate_guard (by rfl) ?_; dsimp only)); refine box_event ?hg (N := 3) ?hd (cs := #[.slice A1_0 l1_0.length c1_0, .int .i64 a1_1]) (t := 98) ?hr ?_; (case hd => rfl); (case hg => rfl); (case hr => first | (go_simp; done) | (go_simp; rfl)); intro gb261 hg w5 hbox hb; have n0_ := Aside0.mk (blk_below (g := gb260) (o := .cells #[.slice A0_0 l0_0.length c0_0] 30 (0, 0)) (by (with_reducible repeat (first | refine blk_drewN ?_ _ | refine blk_drew ?_ | refine blk_alloc ?_ _)); exact BK260.out) hb); have n1_ := Aside0.mk (below_step (by repeat (first | (with_reducible first | exact HB.out | apply below_alloc | apply pw_below_drewN | apply below_drew1 | refine below_set ?_ GE260.out) | exact HB.out)) hb); have n2_ := Aside0.mk (hbox); have n3_ := Aside0.mk ((by rw [hg]; exact (below_size (by repeat (first | (with_reducible first | exact HB.out | apply below_alloc | apply pw_below_drewN | apply below_drew1 | refine below_set ?_ GE260.out) | exact HB.out))) : w.heap.size ≤ gb261)); have n4_ := Aside0.mk ((by rw [hg]; exact (below_size (by repeat (first | (with_reducible first | exact HB.out | apply below_alloc | apply pw_below_drewN | apply below_drew1 | refine below_set ?_ GE260.out) | exact HB.out))) : w.heap.size ≤ gb261)); have n5_ := Aside0.mk ((by rw [hg]; exact Nat.ne_of_lt (blk_lt (g := gb260) (o := .cells #[.slice A0_0 l0_0.length c0_0] 30 (0, 0)) (by (with_reducible repeat (first | refine blk_drewN ?_ _ | refine blk_drew ?_ | refine blk_alloc ?_ _)); exact BK260.out)) : gb260 ≠ gb261)); have n6_ := Aside0.mk ((by rw [hg]; exact Nat.ne_of_gt (blk_lt (g := gb260) (o := .cells #[.slice A0_0 l0_0.length c0_0] 30 (0, 0)) (by (with_reducible repeat (first | refine blk_drewN ?_ _ | refine blk_drew ?_ | refine blk_alloc ?_ _)); exact BK260.out)) : gb261 ≠ gb260)); clear BK260; clear HB; have BK260 := n0_; have HB := n1_; have BK261 := n2_; have GW261 := n3_; have GE261 := n4_; have NB260_261 := n5_; have NB261_260 := n6_; clear n0_ n1_ n2_ n3_ n4_ n5_ n6_; clear hb hbox hg))
  (try simp only [Act.put, List.setIfInBounds_toArray, List.set_cons_zero, List.set_cons_succ])
  go_cut [21] (fun v21 wc => ∃ (kq : Nat) (x21_2 : Bool), v21 = .bool x21_2 ∧ Aside0 (impl_isWalk.j0 kq x21_2 l0_0 l1_0 a1_1 = some r) ∧ Aside0 (kq ≤ k) ∧ Aside0 (wc.heap[gb260]? = some (.cells #[(.slice A0_0 l0_0.length c0_0)] 30 (0, 0))) ∧ Aside0 (wc.heap[gb261]? = some (.cells #[(.slice A1_0 l1_0.length c1_0), .int .i64 a1_1] 98 (0, 0))) ∧ Aside0 (Below w.heap.size w wc))
  case first =>
    have H := HC3.out
    clear HC3
    obtain ⟨y262, hy262⟩ : ∃ y_ : List Int, y_ = (([a1_1] : List Int)) := ⟨_, rfl⟩
    replace H : ((impl_has.f l0_0 y262).bind fun t265 => (if t265 = true then (impl_isWalk.j0 k ((l1_0.length : Int) != (l0_0.length : Int)) l0_0 l1_0 a1_1) else (impl_isWalk.j0 k true l0_0 l1_0 a1_1))) = some r := by first | (rw [hy262]; with_reducible exact H) | (have H2_ := (Option.bind_some _ _).symm.trans H; rw [hy262]; with_reducible exact H2_) | (have H2_ := (Option.bind_some _ _).symm.trans H; with_reducible exact H2_) | with_reducible exact H | (rw [hy262]; exact H) | exact H
    have Ny262 := Aside0.mk hy262
    clear hy262
    replace H := Option.bind_eq_some_iff.mp H
    obtain ⟨t265, A60, H⟩ := H
    replace H : (if t265 = true then (impl_isWalk.j0 k ((l1_0.length : Int) != (l0_0.length : Int)) l0_0 l1_0 a1_1) else (impl_isWalk.j0 k true l0_0 l1_0 a1_1)) = some r := H
    have A6 := Aside0.mk A60
    clear A60
    by_cases c7 : t265 = true
    · subst c7
      have H1 : (impl_isWalk.j0 k ((l1_0.length : Int) != (l0_0.length : Int)) l0_0 l1_0 a1_1) = some r := by rw [if_pos rfl] at H; exact H
      clear H
      have H := H1
      clear H1
      have H' := Aside0.mk H
      clear H
      have hnb8 := NB260_261.out
      have hnc8 := NB261_260.out
      have hcz9_0 : w5.cell? ⟨gb260, 0, none⟩ = some (.slice A0_0 l0_0.length c0_0) := (blk_cell BK260.out 0).trans rfl
      have hfz9_0 := blk_frozen BK260.out 0
      have hcz10_0 : w5.cell? ⟨gb261, 0, none⟩ = some (.slice A1_0 l1_0.length c1_0) := (blk_cell BK261.out 0).trans rfl
      have hcz10_1 : w5.cell? ⟨gb261, 1, none⟩ = some (.int .i64 a1_1) := (blk_cell BK261.out 1).trans rfl
      have hfz10_0 := blk_frozen BK261.out 0
      have hfz10_1 := blk_frozen BK261.out 1
      go_wp2_with (first | ((with_reducible refine gate_dst (N := 10) rfl ?_); (try (refine gate_guard (by rfl) ?_; dsimp only)); refine Kd.R_lit (Kd.int .i64) _ 3 ?hg (N := 10) ?hd (xs := ([a1_1] : List Int)) (inner := [.int .i64 a1_1]) (ok := fun _ => True) (okp := fun _ => True) ?hr ?hp (fun _ hk => hk) trivial (Below.refl _ _) (Nat.le_refl _) (by simp) ?_; (case hd => rfl); (case hg => rfl); (case hr => first | (go_simp; done) | (go_simp; rfl)); (case hp => exact (Reps.one (show Kd.M (Kd.int .i64) _ _ _ a1_1 [.int .i64 a1_1] from rfl) (Reps.none _ _))); intro v263 w11 ho12 hb hg_ hnew_; clear hg_ hnew_; (first | rw [← Ny262.out] at ho12 | (simp only [Int.reduceToNat] at ho12; rw [← Ny262.out] at ho12)); have n0_ := Aside0.mk (Kd.R_lower ho12 (below_size (by repeat (first | (with_reducible first | exact HB.out | apply below_alloc | apply pw_below_drewN | apply below_drew1 | refine below_set ?_ GE260.out | refine below_set ?_ GE261.out) | exact HB.out)))); have n1_ := Aside0.mk (blk_below (g := gb260) (o := .cells #[.slice A0_0 l0_0.length c0_0] 30 (0, 0)) (by (with_reducible repeat (first | refine blk_drewN ?_ _ | refine blk_drew ?_ | refine blk_alloc ?_ _)); exact BK260.out) hb); have n2_ := Aside0.mk (blk_below (g := gb261) (o := .cells #[.slice A1_0 l1_0.length c1_0, .int .i64 a1_1] 98 (0, 0)) (by (with_reducible repeat (first | refine blk_drewN ?_ _ | refine blk_drew ?_ | refine blk_alloc ?_ _)); exact BK261.out) hb); have n3_ := Aside0.mk (below_step (by repeat (first | (with_reducible first | exact HB.out | apply below_alloc | apply pw_below_drewN | apply below_drew1 | refine below_set ?_ GE260.out | refine below_set ?_ GE261.out) | exact HB.out)) hb); clear BK260; clear BK261; clear HB; have HO264 := n0_; have BK260 := n1_; have BK261 := n2_; have HB := n3_; clear n0_ n1_ n2_ n3_; clear hb ho12; obtain ⟨Ao13, co13, eo13⟩ := Kd.R_slice HO264.out; subst eo13) | ((with_reducible refine gate_callee (f := 76) rfl ?_); refine goesL_ (some 11) rfl rfl Try.func76 (by kernel_rfl) rfl #[.agg #[.slice A0_0 l0_0.length c0_0], .slice Ao13 y262.length co13] rfl (by (try simp only [List.map_toArray, List.map_cons, List.map_nil]); first | done | rfl | (simp only [List.length_drop, List.length_take]; rfl)) ?_; (with_reducible refine (impl_has.calls _ _ l0_0 _ _ y262 true _ ?side1 ?side2 ?side3 ?side4 A6.out).mono ?_); (case side1 => repeat (first | exact (Kd.C_below HR0_0.out HB.out) | (with_reducible refine Kd.C_alloc ?_ _) | (with_reducible refine Kd.C_drewN ?_ _) | (with_reducible refine Kd.C_drew ?_))); (case side2 => exact HC0_0.out); (case side3 => repeat (first | exact (Kd.R_reads' HO264.out).2.2 | (with_reducible refine Kd.C_alloc ?_ _) | (with_reducible refine Kd.C_drewN ?_ _) | (with_reducible refine Kd.C_drew ?_))); (case side4 => exact (Kd.R_reads' HO264.out).2.1); rintro e w14 ⟨rfl, hb⟩; refine ⟨_, rfl, ?_⟩; have n0_ := Aside0.mk (Kd.R_below (by (with_reducible repeat (first | apply Kd.R_alloc | apply Kd.R_drewN | apply Kd.R_drew)); exact HO264.out) hb); have n1_ := Aside0.mk (blk_below (g := gb260) (o := .cells #[.slice A0_0 l0_0.length c0_0] 30 (0, 0)) (by (with_reducible repeat (first | refine blk_drewN ?_ _ | refine blk_drew ?_ | refine blk_alloc ?_ _)); exact BK260.out) hb); have n2_ := Aside0.mk (blk_below (g := gb261) (o := .cells #[.slice A1_0 l1_0.length c1_0, .int .i64 a1_1] 98 (0, 0)) (by (with_reducible repeat (first | refine blk_drewN ?_ _ | refine blk_drew ?_ | refine blk_alloc ?_ _)); exact BK261.out) hb); have n3_ := Aside0.mk (below_step (by repeat (first | (with_reducible first | exact HB.out | apply below_alloc | apply pw_below_drewN | apply below_drew1 | refine below_set ?_ GE260.out | refine below_set ?_ GE261.out) | exact HB.out)) hb); clear HO264; clear BK260; clear BK261; clear HB; have HO264 := n0_; have BK260 := n1_; have BK261 := n2_; have HB := n3_; clear n0_ n1_ n2_ n3_; (try clear hb); (try clear hb2); (try clear hk); (try clear hi); have hcz15_0 : w14.cell? ⟨gb261, 0, none⟩ = some (.slice A1_0 l1_0.length c1_0) := (blk_cell BK261.out 0).trans rfl; have hcz15_1 : w14.cell? ⟨gb261, 1, none⟩ = some (.int .i64 a1_1) := (blk_cell BK261.out 1).trans rfl; have hfz15_0 := blk_frozen BK261.out 0; have hfz15_1 := blk_frozen BK261.out 1; have hcz16_0 : w14.cell? ⟨gb260, 0, none⟩ = some (.slice A0_0 l0_0.length c0_0) := (blk_cell BK260.out 0).trans rfl; have hfz16_0 := blk_frozen BK260.out 0))
      go_meet
      case rel => exact ⟨_, (((l1_0.length : Int) != (l0_0.length : Int))), (by first | rfl | (simp; done) | (simp [*]; done)), H', ⟨by first | omega | exact Nat.le_refl _⟩, ⟨by (with_reducible repeat (first | refine blk_drewN ?_ _ | refine blk_drew ?_ | refine blk_alloc ?_ _)); exact BK260.out⟩, ⟨by (with_reducible repeat (first | refine blk_drewN ?_ _ | refine blk_drew ?_ | refine blk_alloc ?_ _)); exact BK261.out⟩, ⟨by repeat (first | (with_reducible first | exact HB.out | apply below_alloc | apply pw_below_drewN | apply below_drew1 | refine below_set ?_ GE260.out | refine below_set ?_ GE261.out) | exact HB.out)⟩⟩
    · replace c7 := Bool.eq_false_iff.mpr c7
      subst c7
      have H1 : (impl_isWalk.j0 k true l0_0 l1_0 a1_1) = some r := by rw [if_neg (show ¬ (false = true) by decide)] at H; exact H
      clear H
      have H := H1
      clear H1
      have H' := Aside0.mk H
      clear H
      have hnb17 := NB260_261.out
      have hnc17 := NB261_260.out
      have hcz18_0 : w5.cell? ⟨gb260, 0, none⟩ = some (.slice A0_0 l0_0.length c0_0) := (blk_cell BK260.out 0).trans rfl
      have hfz18_0 := blk_frozen BK260.out 0
      have hcz19_0 : w5.cell? ⟨gb261, 0, none⟩ = some (.slice A1_0 l1_0.length c1_0) := (blk_cell BK261.out 0).trans rfl
      have hcz19_1 : w5.cell? ⟨gb261, 1, none⟩ = some (.int .i64 a1_1) := (blk_cell BK261.out 1).trans rfl
      have hfz19_0 := blk_frozen BK261.out 0
      have hfz19_1 := blk_frozen BK261.out 1
      go_wp2_with (first | ((with_reducible refine gate_dst (N := 10) rfl ?_); (try (refine gate_guard (by rfl) ?_; dsimp only)); refine Kd.R_lit (Kd.int .i64) _ 3 ?hg (N := 10) ?hd (xs := ([a1_1] : List Int)) (inner := [.int .i64 a1_1]) (ok := fun _ => True) (okp := fun _ => True) ?hr ?hp (fun _ hk => hk) trivial (Below.refl _ _) (Nat.le_refl _) (by simp) ?_; (case hd => rfl); (case hg => rfl); (case hr => first | (go_simp; done) | (go_simp; rfl)); (case hp => exact (Reps.one (show Kd.M (Kd.int .i64) _ _ _ a1_1 [.int .i64 a1_1] from rfl) (Reps.none _ _))); intro v263 w20 ho21 hb hg_ hnew_; clear hg_ hnew_; (first | rw [← Ny262.out] at ho21 | (simp only [Int.reduceToNat] at ho21; rw [← Ny262.out] at ho21)); have n0_ := Aside0.mk (Kd.R_lower ho21 (below_size (by repeat (first | (with_reducible first | exact HB.out | apply below_alloc | apply pw_below_drewN | apply below_drew1 | refine below_set ?_ GE260.out | refine below_set ?_ GE261.out) | exact HB.out)))); have n1_ := Aside0.mk (blk_below (g := gb260) (o := .cells #[.slice A0_0 l0_0.length c0_0] 30 (0, 0)) (by (with_reducible repeat (first | refine blk_drewN ?_ _ | refine blk_drew ?_ | refine blk_alloc ?_ _)); exact BK260.out) hb); have n2_ := Aside0.mk (blk_below (g := gb261) (o := .cells #[.slice A1_0 l1_0.length c1_0, .int .i64 a1_1] 98 (0, 0)) (by (with_reducible repeat (first | refine blk_drewN ?_ _ | refine blk_drew ?_ | refine blk_alloc ?_ _)); exact BK261.out) hb); have n3_ := Aside0.mk (below_step (by repeat (first | (with_reducible first | exact HB.out | apply below_alloc | apply pw_below_drewN | apply below_drew1 | refine below_set ?_ GE260.out | refine below_set ?_ GE261.out) | exact HB.out)) hb); clear BK260; clear BK261; clear HB; have HO264 := n0_; have BK260 := n1_; have BK261 := n2_; have HB := n3_; clear n0_ n1_ n2_ n3_; clear hb ho21; obtain ⟨Ao22, co22, eo22⟩ := Kd.R_slice HO264.out; subst eo22) | ((with_reducible refine gate_callee (f := 76) rfl ?_); refine goesL_ (some 11) rfl rfl Try.func76 (by kernel_rfl) rfl #[.agg #[.slice A0_0 l0_0.length c0_0], .slice Ao22 y262.length co22] rfl (by (try simp only [List.map_toArray, List.map_cons, List.map_nil]); first | done | rfl | (simp only [List.length_drop, List.length_take]; rfl)) ?_; (with_reducible refine (impl_has.calls _ _ l0_0 _ _ y262 false _ ?side1 ?side2 ?side3 ?side4 A6.out).mono ?_); (case side1 => repeat (first | exact (Kd.C_below HR0_0.out HB.out) | (with_reducible refine Kd.C_alloc ?_ _) | (with_reducible refine Kd.C_drewN ?_ _) | (with_reducible refine Kd.C_drew ?_))); (case side2 => exact HC0_0.out); (case side3 => repeat (first | exact (Kd.R_reads' HO264.out).2.2 | (with_reducible refine Kd.C_alloc ?_ _) | (with_reducible refine Kd.C_drewN ?_ _) | (with_reducible refine Kd.C_drew ?_))); (case side4 => exact (Kd.R_reads' HO264.out).2.1); rintro e w23 ⟨rfl, hb⟩; refine ⟨_, rfl, ?_⟩; have n0_ := Aside0.mk (Kd.R_below (by (with_reducible repeat (first | apply Kd.R_alloc | apply Kd.R_drewN | apply Kd.R_drew)); exact HO264.out) hb); have n1_ := Aside0.mk (blk_below (g := gb260) (o := .cells #[.slice A0_0 l0_0.length c0_0] 30 (0, 0)) (by (with_reducible repeat (first | refine blk_drewN ?_ _ | refine blk_drew ?_ | refine blk_alloc ?_ _)); exact BK260.out) hb); have n2_ := Aside0.mk (blk_below (g := gb261) (o := .cells #[.slice A1_0 l1_0.length c1_0, .int .i64 a1_1] 98 (0, 0)) (by (with_reducible repeat (first | refine blk_drewN ?_ _ | refine blk_drew ?_ | refine blk_alloc ?_ _)); exact BK261.out) hb); have n3_ := Aside0.mk (below_step (by repeat (first | (with_reducible first | exact HB.out | apply below_alloc | apply pw_below_drewN | apply below_drew1 | refine below_set ?_ GE260.out | refine below_set ?_ GE261.out) | exact HB.out)) hb); clear HO264; clear BK260; clear BK261; clear HB; have HO264 := n0_; have BK260 := n1_; have BK261 := n2_; have HB := n3_; clear n0_ n1_ n2_ n3_; (try clear hb); (try clear hb2); (try clear hk); (try clear hi)))
      go_meet
      case rel => exact ⟨_, (true), (by first | rfl | (simp; done) | (simp [*]; done)), H', ⟨by first | omega | exact Nat.le_refl _⟩, ⟨by (with_reducible repeat (first | refine blk_drewN ?_ _ | refine blk_drew ?_ | refine blk_alloc ?_ _)); exact BK260.out⟩, ⟨by (with_reducible repeat (first | refine blk_drewN ?_ _ | refine blk_drew ?_ | refine blk_alloc ?_ _)); exact BK261.out⟩, ⟨by repeat (first | (with_reducible first | exact HB.out | apply below_alloc | apply pw_below_drewN | apply below_drew1 | refine below_set ?_ GE260.out | refine below_set ?_ GE261.out) | exact HB.out)⟩⟩
  case rest =>
    clear HC3
    try clear c1
    try clear p2
    try clear c7
    try clear c8
    try clear c12
    try clear c17
    try clear hcz10_0
    try clear hcz10_1
    try clear hcz15_0
    try clear hcz15_1
    try clear hcz16_0
    try clear hcz18_0
    try clear hcz19_0
    try clear hcz19_1
    try clear hcz9_0
    try clear hfz10_0
    try clear hfz10_1
    try clear hfz15_0
    try clear hfz15_1
    try clear hfz16_0
    try clear hfz18_0
    try clear hfz19_0
    try clear hfz19_1
    try clear hfz9_0
    obtain ⟨kq, x21_2, rfl, HA, HJ2, BK260, BK261, HB⟩ := hcut
    cases kq with
    | zero => exact absurd HA.out (by simp [impl_isWalk.j0])
    | succ kj2 =>
      have H := HA.out
      clear HA
      simp only [impl_isWalk.j0] at H
      by_cases c24 : x21_2 = true
      · subst c24
        have H1 : (some false) = some r := by rw [if_pos rfl] at H; exact H
        clear H
        have H := H1
        clear H1
        obtain rfl := Option.some.inj H
        go_wp2
        go_ret
        exact ⟨by first | rfl | (simp [errW_none, errW_some] <;> rfl) | (simp [*, errW_none, errW_some] <;> rfl), by repeat (first | (with_reducible first | exact HB.out | apply below_alloc | apply pw_below_drewN | apply below_drew1 | refine below_set ?_ GE260.out | refine below_set ?_ GE261.out) | exact HB.out)⟩
      · replace c24 := Bool.eq_false_iff.mpr c24
        subst c24
        have H1 : (impl_isWalk.l0 kj2 l1_0 (l1_0.length : Int) 0 l0_0) = some r := by rw [if_neg (show ¬ (false = true) by decide)] at H; exact H
        clear H
        have H := H1
        clear H1
        have H' := Aside0.mk H
        clear H
        have hnb25 := NB261_260.out
        have hnc25 := NB260_261.out
        have hcz26_0 : wc.cell? ⟨gb261, 0, none⟩ = some (.slice A1_0 l1_0.length c1_0) := (blk_cell BK261.out 0).trans rfl
        have hcz26_1 : wc.cell? ⟨gb261, 1, none⟩ = some (.int .i64 a1_1) := (blk_cell BK261.out 1).trans rfl
        have hfz26_0 := blk_frozen BK261.out 0
        have hfz26_1 := blk_frozen BK261.out 1
        go_wp2
        go_loopg [25] kj2 (fun kq v25 w' => ∃ (x25_2 : Int), v25 = .int .i64 x25_2 ∧ Aside0 (impl_isWalk.l0 kq l1_0 (l1_0.length : Int) x25_2 l0_0 = some r) ∧ Aside0 (kq ≤ kj2) ∧ Aside0 (w'.heap[gb260]? = some (.cells #[(.slice A0_0 l0_0.length c0_0)] 30 (0, 0))) ∧ Aside0 (w'.heap[gb261]? = some (.cells #[(.slice A1_0 l1_0.length c1_0), .int .i64 a1_1] 98 (0, 0))) ∧ Aside0 (Below w.heap.size w w'))
        case atStart => exact ⟨(0), (by first | rfl | (simp; done) | (simp [*]; done)), H', ⟨Nat.le_refl _⟩, ⟨by (with_reducible repeat (first | refine blk_drewN ?_ _ | refine blk_drew ?_ | refine blk_alloc ?_ _)); exact BK260.out⟩, ⟨by (with_reducible repeat (first | refine blk_drewN ?_ _ | refine blk_drew ?_ | refine blk_alloc ?_ _)); exact BK261.out⟩, ⟨by repeat (first | (with_reducible first | exact HB.out | apply below_alloc | apply pw_below_drewN | apply below_drew1 | refine below_set ?_ GE260.out | refine below_set ?_ GE261.out) | exact HB.out)⟩⟩
        case round =>
          clear H'
          try clear c1
          try clear c2
          try clear p2
          try clear c7
          try clear c8
          try clear c12
          try clear c17
          try clear c24
          try clear c25
          try clear hcz10_0
          try clear hcz10_1
          try clear hcz15_0
          try clear hcz15_1
          try clear hcz16_0
          try clear hcz18_0
          try clear hcz19_0
          try clear hcz19_1
          try clear hcz26_0
          try clear hcz26_1
          try clear hcz9_0
          try clear hfz10_0
          try clear hfz10_1
          try clear hfz15_0
          try clear hfz15_1
          try clear hfz16_0
          try clear hfz18_0
          try clear hfz19_0
          try clear hfz19_1
          try clear hfz26_0
          try clear hfz26_1
          try clear hfz9_0
          try clear p2
          obtain ⟨x25_2, rfl, HA, HK2, BK260, BK261, HB⟩ := hrel
          cases gk with
          | zero => exact absurd HA.out (by simp [impl_isWalk.l0])
          | succ k2 =>
            have H := HA.out
            clear HA
            simp only [impl_isWalk.l0] at H
            by_cases c27 : x25_2 < (l1_0.length : Int)
            · rw [if_pos c27] at H
              have c27b0 : decide (x25_2 < (l1_0.length : Int)) = true := decide_eq_true c27
              clear c27
              by_cases c28 : 0 ≤ x25_2
              · rw [if_pos c28] at H
                have c28b0 : decide (0 ≤ x25_2) = true := decide_eq_true c28
                clear c28
                by_cases c29 : x25_2 < (l1_0.length : Int)
                · rw [if_pos c29] at H
                  have c29b0 : decide (x25_2 < (l1_0.length : Int)) = true := decide_eq_true c29
                  clear c29
                  by_cases c30 : x25_2 < (l0_0.length : Int)
                  · rw [if_pos c30] at H
                    have c30b0 : decide (x25_2 < (l0_0.length : Int)) = true := decide_eq_true c30
                    clear c30
                    obtain ⟨ji31, hji31⟩ : ∃ j_ : Int, (mx (wrap64 (((rd_L1 l0_0 x25_2).length : Int) - 1)) 0) = j_ := ⟨_, rfl⟩
                    replace H : ((impl_in.f (rd l1_0 x25_2) 0 (ji31)).bind fun t268 => (if t268 = true then (impl_isWalk.l0 k2 l1_0 (l1_0.length : Int) (wrap64 (x25_2 + 1)) l0_0) else (some false))) = some r := by first | (rw [hji31] at H; exact H) | (simp only [hji31] at H ⊢; exact H)
                    have hji31_ : (if (wrap64 (((rd_L1 l0_0 x25_2).length : Int) - 1)) < 0 then 0 else (wrap64 (((rd_L1 l0_0 x25_2).length : Int) - 1))) = ji31 := hji31
                    replace H := Option.bind_eq_some_iff.mp H
                    obtain ⟨t268, A320, H⟩ := H
                    replace H : (if t268 = true then (impl_isWalk.l0 k2 l1_0 (l1_0.length : Int) (wrap64 (x25_2 + 1)) l0_0) else (some false)) = some r := H
                    have A32 := Aside0.mk A320
                    clear A320
                    by_cases c33 : t268 = true
                    · subst c33
                      have H1 : (impl_isWalk.l0 k2 l1_0 (l1_0.length : Int) (wrap64 (x25_2 + 1)) l0_0) = some r := by rw [if_pos rfl] at H; exact H
                      clear H
                      have H := H1
                      clear H1
                      have H' := Aside0.mk H
                      clear H
                      have p266 : 0 ≤ (x25_2 : Int) := of_decide_eq_true (by first | (with_reducible assumption) | assumption)
                      have q266 : x25_2 < (l1_0.length : Int) := of_decide_eq_true (by first | (with_reducible assumption) | assumption)
                      obtain ⟨ad266, e266, hx266_0⟩ := Kd.at_int HR1_0.out x25_2 p266 q266
                      cases e266
                      replace hx266_0 := (HB.out.cell (World.block_lt_of_cell? w _ hx266_0)).trans hx266_0
                      replace p266 := eq_true p266
                      replace q266 := eq_true q266
                      have hnb34 := NB260_261.out
                      have hnc34 := NB261_260.out
                      have hcz35_0 : wr.cell? ⟨gb260, 0, none⟩ = some (.slice A0_0 l0_0.length c0_0) := (blk_cell BK260.out 0).trans rfl
                      have hfz35_0 := blk_frozen BK260.out 0
                      have p267 : 0 ≤ (x25_2 : Int) := of_decide_eq_true (by first | (with_reducible assumption) | assumption)
                      have q267 : x25_2 < (l0_0.length : Int) := of_decide_eq_true (by first | (with_reducible assumption) | assumption)
                      obtain ⟨ad267, A267_0, c267_0, e267, hx267_0, hl267_0, hi267_0⟩ := at_L1 HR0_0.out x25_2 p267 q267
                      cases e267
                      replace hx267_0 := (HB.out.cell (World.block_lt_of_cell? w _ hx267_0)).trans hx267_0
                      have HR267_0 := Aside0.mk hi267_0
                      have HC267_0 := Aside0.mk hl267_0
                      clear hi267_0 hl267_0
                      replace p267 := eq_true p267
                      replace q267 := eq_true q267
                      go_wp2_with (first | ((with_reducible refine gate_callee (f := 77) rfl ?_); refine goesL_ (some 39) rfl rfl Try.func77 (by kernel_rfl) rfl #[.int .i64 (rd l1_0 x25_2), .int .i64 0, .int .i64 ji31] rfl (by (try simp only [List.map_toArray, List.map_cons, List.map_nil]); first | done | (simp only [hji31]; rfl) | rfl | (simp only [List.length_drop, List.length_take]; rfl)) ?_; (with_reducible refine (impl_in.calls (rd l1_0 x25_2) 0 ji31 true _ A32.out).mono ?_); rintro e w' ⟨rfl, ⟨nd, rfl⟩⟩; refine ⟨_, rfl, ?_⟩))
                      go_roundg k2
                      case measure => have := HJ2.out; have := HK2.out; omega
                      case rel => exact ⟨(wrap64 (x25_2 + 1)), (by first | rfl | (simp; done) | (simp [*]; done)), H', ⟨by have := HJ2.out; have := HK2.out; omega⟩, ⟨by (with_reducible repeat (first | refine blk_drewN ?_ _ | refine blk_drew ?_ | refine blk_alloc ?_ _)); exact BK260.out⟩, ⟨by (with_reducible repeat (first | refine blk_drewN ?_ _ | refine blk_drew ?_ | refine blk_alloc ?_ _)); exact BK261.out⟩, ⟨by repeat (first | (with_reducible first | exact HB.out | apply below_alloc | apply pw_below_drewN | apply below_drew1 | refine below_set ?_ GE260.out | refine below_set ?_ GE261.out) | exact HB.out)⟩⟩
                    · replace c33 := Bool.eq_false_iff.mpr c33
                      subst c33
                      have H1 : (some false) = some r := by rw [if_neg (show ¬ (false = true) by decide)] at H; exact H
                      clear H
                      have H := H1
                      clear H1
                      obtain rfl := Option.some.inj H
                      have p266 : 0 ≤ (x25_2 : Int) := of_decide_eq_true (by first | (with_reducible assumption) | assumption)
                      have q266 : x25_2 < (l1_0.length : Int) := of_decide_eq_true (by first | (with_reducible assumption) | assumption)
                      obtain ⟨ad266, e266, hx266_0⟩ := Kd.at_int HR1_0.out x25_2 p266 q266
                      cases e266
                      replace hx266_0 := (HB.out.cell (World.block_lt_of_cell? w _ hx266_0)).trans hx266_0
                      replace p266 := eq_true p266
                      replace q266 := eq_true q266
                      have hnb36 := NB260_261.out
                      have hnc36 := NB261_260.out
                      have hcz37_0 : wr.cell? ⟨gb260, 0, none⟩ = some (.slice A0_0 l0_0.length c0_0) := (blk_cell BK260.out 0).trans rfl
                      have hfz37_0 := blk_frozen BK260.out 0
                      have p267 : 0 ≤ (x25_2 : Int) := of_decide_eq_true (by first | (with_reducible assumption) | assumption)
                      have q267 : x25_2 < (l0_0.length : Int) := of_decide_eq_true (by first | (with_reducible assumption) | assumption)
                      obtain ⟨ad267, A267_0, c267_0, e267, hx267_0, hl267_0, hi267_0⟩ := at_L1 HR0_0.out x25_2 p267 q267
                      cases e267
                      replace hx267_0 := (HB.out.cell (World.block_lt_of_cell? w _ hx267_0)).trans hx267_0
                      have HR267_0 := Aside0.mk hi267_0
                      have HC267_0 := Aside0.mk hl267_0
                      clear hi267_0 hl267_0
                      replace p267 := eq_true p267
                      replace q267 := eq_true q267
                      go_wp2_with (first | ((with_reducible refine gate_callee (f := 77) rfl ?_); refine goesL_ (some 39) rfl rfl Try.func77 (by kernel_rfl) rfl #[.int .i64 (rd l1_0 x25_2), .int .i64 0, .int .i64 ji31] rfl (by (try simp only [List.map_toArray, List.map_cons, List.map_nil]); first | done | (simp only [hji31]; rfl) | rfl | (simp only [List.length_drop, List.length_take]; rfl)) ?_; (with_reducible refine (impl_in.calls (rd l1_0 x25_2) 0 ji31 false _ A32.out).mono ?_); rintro e w' ⟨rfl, ⟨nd, rfl⟩⟩; refine ⟨_, rfl, ?_⟩))
                      go_ret
                      exact ⟨by first | rfl | (simp [errW_none, errW_some] <;> rfl) | (simp only [← hji31]; first | rfl | (simp [errW_none, errW_some] <;> rfl)) | (simp [*, errW_none, errW_some] <;> rfl), by repeat (first | (with_reducible first | exact HB.out | apply below_alloc | apply pw_below_drewN | apply below_drew1 | refine below_set ?_ GE260.out | refine below_set ?_ GE261.out) | exact HB.out)⟩
                  · rw [if_neg c30] at H
                    exact absurd H (by simp)
                · rw [if_neg c29] at H
                  exact absurd H (by simp)
              · rw [if_neg c28] at H
                exact absurd H (by simp)
            · rw [if_neg c27] at H
              have c27b0 : decide (x25_2 < (l1_0.length : Int)) = false := decide_eq_false c27
              clear c27
              obtain rfl := Option.some.inj H
              go_wp2
              go_ret
              exact ⟨by first | rfl | (simp [errW_none, errW_some] <;> rfl) | (simp [*, errW_none, errW_some] <;> rfl), by repeat (first | (with_reducible first | exact HB.out | apply below_alloc | apply pw_below_drewN | apply below_drew1 | refine below_set ?_ GE260.out | refine below_set ?_ GE261.out) | exact HB.out)⟩
def impl_areRotors.f (k : Nat) (l0_0 : List (List Int)) (l1 : List Int) : Option (Bool) := (impl_isWalk.f k l0_0 l1 0).bind fun t270 => (some t270)
set_option maxHeartbeats 8000000 in
set_option maxRecDepth 100000 in
theorem impl_areRotors.calls (k : Nat) (A0_0 : Option Addr) (c0_0 : Nat) (l0_0 : List (List Int)) (A1 : Option Addr) (c1 : Nat) (l1 : List Int) (r : Bool) (w : World) (hr0_0 : Kd.C (Kd.slice 3 (Kd.int .i64)) w A0_0 l0_0.length l0_0) (hc0_0 : l0_0.length ≤ c0_0) (hr1 : Kd.C (Kd.int .i64) w A1 l1.length l1) (hc1 : l1.length ≤ c1) (h : impl_areRotors.f k l0_0 l1 = some r) :
    Calls Try.prog 102 #[.agg #[.slice A0_0 l0_0.length c0_0], .slice A1 l1.length c1] w fun e w' => e = .returned (.bool r) ∧ Below w.heap.size w w' := by
  have hu30 := Try.underlying30
  have hu98 := Try.underlying98
  have HR0_0 := Aside0.mk hr0_0
  have HC0_0 := Aside0.mk hc0_0
  clear hr0_0 hc0_0
  have HR1 := Aside0.mk hr1
  have HC1 := Aside0.mk hc1
  clear hr1 hc1
  have HB := Aside0.mk (Below.refl w.heap.size w)
  have H : ((impl_isWalk.f k l0_0 l1 0).bind fun t270 => (some t270)) = some r := h
  clear h
  replace H := Option.bind_eq_some_iff.mp H
  obtain ⟨t270, A30, H⟩ := H
  replace H : (some t270) = some r := H
  have A3 := Aside0.mk A30
  clear A30
  obtain rfl := Option.some.inj H
  go_enter Try.func102, Try.ntmps102
  go_wp2_with (first | ((with_reducible refine gate_dst (N := 2) rfl ?_); refine box_event ?hg (N := 2) ?hd (cs := #[.slice A0_0 l0_0.length c0_0]) (t := 30) ?hr ?_; (case hd => rfl); (case hg => rfl); (case hr => first | (go_simp; done) | (go_simp; rfl)); intro gb269 hg w4 hbox hb; have n0_ := Aside0.mk (below_step (by repeat (first | (with_reducible first | exact HB.out | apply below_alloc | apply pw_below_drewN | apply below_drew1) | exact HB.out)) hb); have n1_ := Aside0.mk (hbox); have n2_ := Aside0.mk ((by rw [hg]; exact (below_size (by repeat (first | (with_reducible first | exact HB.out | apply below_alloc | apply pw_below_drewN | apply below_drew1) | exact HB.out))) : w.heap.size ≤ gb269)); have n3_ := Aside0.mk ((by rw [hg]; exact (below_size (by repeat (first | (with_reducible first | exact HB.out | apply below_alloc | apply pw_below_drewN | apply below_drew1) | exact HB.out))) : w.heap.size ≤ gb269)); clear HB; have HB := n0_; have BK269 := n1_; have GW269 := n2_; have GE269 := n3_; clear n0_ n1_ n2_ n3_; clear hb hbox hg; have hcz5_0 : w4.cell? ⟨gb269, 0, none⟩ = some (.slice A0_0 l0_0.length c0_0) := (blk_cell BK269.out 0).trans rfl; have hfz5_0 := blk_frozen BK269.out 0) | ((with_reducible refine gate_callee (f := 123) rfl ?_); refine goesL_ (some 8) rfl rfl Try.func123 (by kernel_rfl) rfl #[.agg #[.slice A0_0 l0_0.length c0_0], .agg #[.slice A1 l1.length c1, .int .i64 0]] rfl (by (try simp only [List.map_toArray, List.map_cons, List.map_nil]); first | done | rfl | (simp only [List.length_drop, List.length_take]; rfl)) ?_; (with_reducible refine (impl_isWalk.calls k _ _ l0_0 _ _ l1 0 t270 _ ?side1 ?side2 ?side3 ?side4 A3.out).mono ?_); (case side1 => repeat (first | exact (Kd.C_below HR0_0.out HB.out) | (with_reducible refine Kd.C_alloc ?_ _) | (with_reducible refine Kd.C_drewN ?_ _) | (with_reducible refine Kd.C_drew ?_))); (case side2 => exact HC0_0.out); (case side3 => repeat (first | exact (Kd.C_below HR1.out HB.out) | (with_reducible refine Kd.C_alloc ?_ _) | (with_reducible refine Kd.C_drewN ?_ _) | (with_reducible refine Kd.C_drew ?_))); (case side4 => exact HC1.out); rintro e w6 ⟨rfl, hb⟩; refine ⟨_, rfl, ?_⟩; have n0_ := Aside0.mk (blk_below (g := gb269) (o := .cells #[.slice A0_0 l0_0.length c0_0] 30 (0, 0)) (by (with_reducible repeat (first | refine blk_drewN ?_ _ | refine blk_drew ?_ | refine blk_alloc ?_ _)); exact BK269.out) hb); have n1_ := Aside0.mk (below_step (by repeat (first | (with_reducible first | exact HB.out | apply below_alloc | apply pw_below_drewN | apply below_drew1 | refine below_set ?_ GE269.out) | exact HB.out)) hb); clear BK269; clear HB; have BK269 := n0_; have HB := n1_; clear n0_ n1_; (try clear hb); (try clear hb2); (try clear hk); (try clear hi)))
  go_ret
  exact ⟨by first | rfl | (simp [errW_none, errW_some] <;> rfl) | (simp [*, errW_none, errW_some] <;> rfl), by repeat (first | (with_reducible first | exact HB.out | apply below_alloc | apply pw_below_drewN | apply below_drew1 | refine below_set ?_ GE269.out) | exact HB.out)⟩
end Go.Proofs.Ytnbnalbomflafaa.GR
/-! ## GR2 -/
namespace Go.Proofs.Ytnbnalbomflafaa.GR
open Go.RowKit Go.Proofs.YtnbnalbomflafaaW.PrintWords Go.Proofs.YtnbnalbomflafaaW.PrintLast Go.Proofs.YtnbnalbomflafaaW.PrintMore
open Go.Proofs.Ytnbnalbomflafaa.GA Go.Proofs.Ytnbnalbomflafaa.GB Go.Proofs.Ytnbnalbomflafaa.GD Go.Proofs.Ytnbnalbomflafaa.KA
attribute [local go_sem] max2_int min2_int max_two min_two max_three min_three max_four min_four   -- for this text's walks alone
set_option linter.unusedVariables false
set_option linter.unusedSimpArgs false
mutual
def impl_RotorStacks.j0 : Nat → Int → List Int → Int → Bool → List (List Int) → Option ((List (List Int)) × Bool)
  | 0, _, _, _, _, _ => none
  | k + 1, x1, x2, x3, x30, x272000 => if x30 = true then (some (([] : List (List Int)), false)) else (impl_RotorStacks.l0 k x1 x2 x3 x272000 (x272000.length : Int) 0 ([] : List (List Int)))
def impl_RotorStacks.l0 : Nat → Int → List Int → Int → List (List Int) → Int → Int → List (List Int) → Option ((List (List Int)) × Bool)
  | 0, _, _, _, _, _, _, _ => none
  | k + 1, x1, x2, x3, x34, x35, x36, x280000 => if x36 < x35 then (if 0 ≤ x36 then (if x36 < (x34.length : Int) then (impl_RotorStacks.l1 k x1 x2 x3 x36 (rd_L1 x34 x36) (([] : List Int)) 1 x34 x35 x36 x280000) else (none)) else (none)) else (some (x280000, true))
def impl_RotorStacks.l1 : Nat → Int → List Int → Int → Int → List Int → List Int → Int → List (List Int) → Int → Int → List (List Int) → Option ((List (List Int)) × Bool)
  | 0, _, _, _, _, _, _, _, _, _, _, _ => none
  | k + 1, x1, x2, x3, x11, x12, x13, x14, x34, x35, x36, x280000 => if x14 ≤ x3 then (if x11 = x1 then (if x280000.length < 5864062014805 then (impl_RotorStacks.l0 k x1 x2 x3 x34 x35 (wrap64 (x36 + 1)) (x280000 ++ [x13])) else (none)) else (if (x12.length : Int) > 0 then (if 0 ≤ x11 then (if x11 < (x2.length : Int) then (if (x12.length : Int) = 0 then (none) else (if x13.length < 17592186044416 then (impl_RotorStacks.l1 k x1 x2 x3 x11 x12 (x13 ++ [Int.tmod (wrap64 ((rd x2 x11) + x14)) (x12.length : Int)]) (wrap64 (x14 + 1)) x34 x35 x36 x280000) else (none))) else (none)) else (none)) else (if x280000.length < 5864062014805 then (impl_RotorStacks.l0 k x1 x2 x3 x34 x35 (wrap64 (x36 + 1)) (x280000 ++ [x13])) else (none)))) else (if x280000.length < 5864062014805 then (impl_RotorStacks.l0 k x1 x2 x3 x34 x35 (wrap64 (x36 + 1)) (x280000 ++ [x13])) else (none))
end
def impl_RotorStacks.f (k : Nat) (l0_0 : List (List Int)) (a1 : Int) (l2 : List Int) (a3 : Int) : Option ((List (List Int)) × Bool) := (impl_has.f l0_0 (([a1] : List Int))).bind fun t276 => (if t276 = true then ((impl_areRotors.f k l0_0 l2).bind fun t277 => (if t277 = true then ((impl_in.f a3 0 12).bind fun t278 => (impl_RotorStacks.j0 k a1 l2 a3 (!t278) l0_0)) else (impl_RotorStacks.j0 k a1 l2 a3 true l0_0))) else (impl_RotorStacks.j0 k a1 l2 a3 true l0_0))
def spec_l1Own.f (l0 : List Int) : Option (List Int) := (some (([] : List Int) : List Int)).bind fun y335 => (if y335.length + l0.length < 17592186044416 then (some (y335 ++ l0)) else (none))
set_option maxHeartbeats 8000000 in
set_option maxRecDepth 100000 in
theorem spec_l1Own.calls (A0 : Option Addr) (c0 : Nat) (l0 : List Int) (r : List Int) (w : World) (hr0 : Kd.C (Kd.int .i64) w A0 l0.length l0) (hc0 : l0.length ≤ c0) (h : spec_l1Own.f l0 = some r) :
    Calls Try.prog 113 #[.slice A0 l0.length c0] w fun e w' => ∃ v0_ : Value, e = .returned (v0_) ∧ Kd.R (Kd.int .i64) 3 w' w.heap.size (fun _ => True) v0_ r ∧ Below w.heap.size w w' := by
  have HR0 := Aside0.mk hr0
  have HC0 := Aside0.mk hc0
  clear hr0 hc0
  have HB := Aside0.mk (Below.refl w.heap.size w)
  have H : ((some (([] : List Int) : List Int)).bind fun y335 => (if y335.length + l0.length < 17592186044416 then (some (y335 ++ l0)) else (none))) = some r := h
  clear h
  obtain ⟨y335, hy335⟩ : ∃ y_ : List Int, y_ = (([] : List Int)) := ⟨_, rfl⟩
  replace H : (if y335.length + l0.length < 17592186044416 then (some (y335 ++ l0)) else (none)) = some r := by first | (rw [hy335]; with_reducible exact H) | (have H2_ := (Option.bind_some _ _).symm.trans H; rw [hy335]; with_reducible exact H2_) | (have H2_ := (Option.bind_some _ _).symm.trans H; with_reducible exact H2_) | with_reducible exact H | (rw [hy335]; exact H) | exact H
  have Ny335 := Aside0.mk hy335
  clear hy335
  by_cases c2 : y335.length + l0.length < 17592186044416
  · rw [if_pos c2] at H
    have LMc2 := Aside0.mk c2
    clear c2
    obtain ⟨y338, hy338⟩ : ∃ y_ : List Int, y_ = (y335 ++ l0) := ⟨_, rfl⟩
    replace H : (some y338) = some r := by first | (rw [hy338]; with_reducible exact H) | (have H2_ := (Option.bind_some _ _).symm.trans H; rw [hy338]; with_reducible exact H2_) | (have H2_ := (Option.bind_some _ _).symm.trans H; with_reducible exact H2_) | with_reducible exact H | (rw [hy338]; exact H) | exact H
    have Ny338 := Aside0.mk hy338
    clear hy338
    obtain rfl := Option.some.inj H
    go_enter Try.func113, Try.ntmps113
    go_wp2_with (first | ((with_reducible refine gate_dst (N := 3) rfl ?_); refine Kd.R_lit (Kd.int .i64) _ 3 ?hg (N := 3) ?hd (xs := ([] : List Int)) (inner := []) (ok := fun _ => True) (okp := fun _ => True) ?hr ?hp (fun _ hk => hk) trivial (Below.refl _ _) (Nat.le_refl _) (by simp) ?_; (case hd => rfl); (case hg => rfl); (case hr => first | (go_simp; done) | (go_simp; rfl)); (case hp => exact (Reps.none _ _)); intro v336 w3 ho4 hb hg_ hnew_; clear hg_ hnew_; (first | rw [← Ny335.out] at ho4 | (simp only [Int.reduceToNat] at ho4; rw [← Ny335.out] at ho4)); have n0_ := Aside0.mk (Kd.R_lower ho4 (below_size (by repeat (first | (with_reducible first | exact HB.out | apply below_alloc | apply pw_below_drewN | apply below_drew1) | exact HB.out)))); have n1_ := Aside0.mk (below_step (by repeat (first | (with_reducible first | exact HB.out | apply below_alloc | apply pw_below_drewN | apply below_drew1) | exact HB.out)) hb); clear HB; have HO337 := n0_; have HB := n1_; clear n0_ n1_; clear hb ho4) | ((with_reducible refine gate_builtin (b := .append) (xs := #[.tmp 3, .tmp 4]) rfl ?_); at_builtin; refine Kd.R_append_rows (Kd.int .i64) (w0 := w) w.heap.size rfl (.tmp 3) (.tmp 4) 37 3 (.int .i64 0) 8 rfl Try.underlying37 info3 rfl (by decide) (by omega) v336 y335 l0 _ _ _ (fun _ => True) (fun _ => False) rfl rfl ?aO ?aR (fun _ _ h => h) (fun _ h => h.elim) ?aF ?aB ?aS ?aL ?_; (case aR => repeat (first | exact (Kd.C_below HR0.out HB.out) | (with_reducible refine Kd.C_alloc ?_ _) | (with_reducible refine Kd.C_drewN ?_ _) | (with_reducible refine Kd.C_drew ?_))); (case aB => exact (by repeat (first | (with_reducible first | exact HB.out | apply below_alloc | apply pw_below_drewN | apply below_drew1) | exact HB.out))); (case aF => exact (fun _ _ => trivial)); (case aO => exact (by (with_reducible repeat (first | apply Kd.R_alloc | apply Kd.R_drewN | apply Kd.R_drew)); exact HO337.out)); (case aS => exact (below_size (by repeat (first | (with_reducible first | exact HB.out | apply below_alloc | apply pw_below_drewN | apply below_drew1) | exact HB.out)))); (case aL => have := LMc2.out; omega); intro v339 w5 ho hb hg hat; rw [← Ny338.out] at ho; have n0_ := Aside0.mk (hb); have n1_ := Aside0.mk (ho); clear HB; clear HO337; have HB := n0_; have HO340 := n1_; clear n0_ n1_; clear ho hb hg hat))
    go_ret
    exact ⟨_, by first | rfl | (simp [errW_none, errW_some] <;> rfl) | (simp [*, errW_none, errW_some] <;> rfl), by (with_reducible repeat (first | apply Kd.R_alloc | apply Kd.R_drewN | apply Kd.R_drew)); exact HO340.out, by repeat (first | (with_reducible first | exact HB.out | apply below_alloc | apply pw_below_drewN | apply below_drew1) | exact HB.out)⟩
  · rw [if_neg c2] at H
    exact absurd H (by simp)
def spec_skNext.f (l0_0 : List (List Int)) (l1_0 : List (List Int)) (a2 : Int) : Option (Int) := if 0 ≤ a2 then (if a2 < (l1_0.length : Int) then (if ((rd_L1 l1_0 a2).length : Int) = 0 then (some (-1)) else (if a2 < (l0_0.length : Int) then (if 0 < ((rd_L1 l1_0 a2).length : Int) then (if 0 ≤ (rd (rd_L1 l1_0 a2) 0) then (if (rd (rd_L1 l1_0 a2) 0) < ((rd_L1 l0_0 a2).length : Int) then (some (rd (rd_L1 l0_0 a2) (rd (rd_L1 l1_0 a2) 0))) else (none)) else (none)) else (none)) else (none))) else (none)) else (none)
end Go.Proofs.Ytnbnalbomflafaa.GR
/-! ## Rc -/
namespace Go.Proofs.Ytnbnalbomflafaa.RA
open Go.RowKit Go.Proofs.YtnbnalbomflafaaW.PrintWords Go.Proofs.YtnbnalbomflafaaW.PrintLast Go.Proofs.YtnbnalbomflafaaW.PrintMore
open Go.Proofs.Ytnbnalbomflafaa.GA
open Go.Proofs.Ytnbnalbomflafaa.GD hiding rd_L1 at_L1
open Go.Proofs.Ytnbnalbomflafaa.GR hiding rd_L1 at_L1
open Go.Proofs.Ytnbnalbomflafaa.KA (stacksB placeB succ_of wrap_up impl_areStacks.f okStacks)
set_option linter.unusedVariables false
set_option linter.unusedSimpArgs false
theorem rdD (l : List (List Int)) (i : Int) : GD.rd_L1 l i = GA.rd_L1 l i := rfl
theorem rdR (l : List (List Int)) (i : Int) : GR.rd_L1 l i = GA.rd_L1 l i := rfl
end Go.Proofs.Ytnbnalbomflafaa.RA
/-! ## Re -/
namespace Go.Proofs.Ytnbnalbomflafaa.RA
open Go.RowKit Go.Proofs.YtnbnalbomflafaaW.PrintWords Go.Proofs.YtnbnalbomflafaaW.PrintLast Go.Proofs.YtnbnalbomflafaaW.PrintMore
open Go.Proofs.Ytnbnalbomflafaa.GA
open Go.Proofs.Ytnbnalbomflafaa.GD hiding rd_L1 at_L1
open Go.Proofs.Ytnbnalbomflafaa.GR hiding rd_L1 at_L1
open Go.Proofs.Ytnbnalbomflafaa.KA
set_option linter.unusedVariables false
set_option linter.unusedSimpArgs false
def okWalk : List (List Int) → List Int → Bool
  | r :: l, x :: s => inB x 0 (max ((r.length : Int) - 1) 0) && okWalk l s
  | _, _ => true
def walkB (l : List (List Int)) (x : List Int) (a : Int) : Bool := placeB l a && decide (x.length = l.length) && okWalk l x
theorem okWalk_drop (l : List (List Int)) (s : List Int) (i : Nat) (h1 : i < l.length) (h2 : i < s.length) : okWalk (l.drop i) (s.drop i) = (inB s[i] 0 (max ((l[i].length : Int) - 1) 0) && okWalk (l.drop (i + 1)) (s.drop (i + 1))) := by
  rw [List.drop_eq_getElem_cons h1, List.drop_eq_getElem_cons h2]
  rfl
theorem most_eq (a b : Int) : spec_l1Most.f a b = some (max b a) := by
  unfold spec_l1Most.f
  split <;> congr 1 <;> omega
theorem waGood_loop (l : List (List Int)) (s : List Int) (hn : l.length ≤ 8) (hsl : s.length = l.length) (h5 : ∀ r ∈ l, r.length ≤ 5) (a : Int) (d : Nat) : ∀ (k i : Nat), i + d = l.length → d < k → spec_waGood.l0 k l (l.length : Int) (i : Int) s a = some (okWalk (l.drop i) (s.drop i)) := by
  induction d with
  | zero =>
    intro k i hi hk
    obtain ⟨k, rfl⟩ := succ_of hk
    unfold spec_waGood.l0
    rw [if_neg (by omega), List.drop_of_length_le (by omega), List.drop_of_length_le (by omega)]
    rfl
  | succ d ih =>
    intro k i hi hk
    obtain ⟨k, rfl⟩ := succ_of hk
    have hlt : i < s.length := by omega
    have hil : i < l.length := by omega
    have := h5 _ (List.getElem_mem hil)
    unfold spec_waGood.l0
    rw [if_pos (by omega), if_pos (by omega), if_pos (by omega), if_pos (by omega), rdD, rdL_at l i hil, rd_at s i hlt, okWalk_drop l s i hil hlt, most_eq, wrap_id (by omega) (by omega)]
    simp only [Option.bind_some, l1In_eq]
    cases inB s[i] 0 (max ((l[i].length : Int) - 1) 0) with
    | true => rw [if_pos rfl, wrap_up hil (by omega), ih k (i + 1) (by omega) (by omega), Bool.true_and]
    | false => rw [if_neg (by decide), Bool.false_and]
theorem isWalk_loop (l : List (List Int)) (s : List Int) (hn : l.length ≤ 8) (hsl : s.length = l.length) (h5 : ∀ r ∈ l, r.length ≤ 5) (d : Nat) : ∀ (k i : Nat), i + d = s.length → d < k → impl_isWalk.l0 k s (s.length : Int) (i : Int) l = some (okWalk (l.drop i) (s.drop i)) := by
  induction d with
  | zero =>
    intro k i hi hk
    obtain ⟨k, rfl⟩ := succ_of hk
    unfold impl_isWalk.l0
    rw [if_neg (by omega), List.drop_of_length_le (by omega), List.drop_of_length_le (by omega)]
    rfl
  | succ d ih =>
    intro k i hi hk
    obtain ⟨k, rfl⟩ := succ_of hk
    have hlt : i < s.length := by omega
    have hil : i < l.length := by omega
    have := h5 _ (List.getElem_mem hil)
    unfold impl_isWalk.l0
    rw [if_pos (by omega), if_pos (by omega), if_pos (by omega), if_pos (by omega), rdR, rdL_at l i hil, rd_at s i hlt, okWalk_drop l s i hil hlt, wrap_id (by omega) (by omega)]
    rw [in_eq, show mx ((l[i].length : Int) - 1) 0 = max ((l[i].length : Int) - 1) 0 by unfold mx; omega]
    simp only [Option.bind_some]
    cases inB s[i] 0 (max ((l[i].length : Int) - 1) 0) with
    | true => rw [if_pos rfl, wrap_up hlt (by omega), ih k (i + 1) (by omega) (by omega), Bool.true_and]
    | false => rw [if_neg (by decide), Bool.false_and]
theorem waGood_eq (l : List (List Int)) (s : List Int) (a : Int) (k : Nat) (hk : 100 ≤ k) : spec_waGood.f k l s a = some (walkB l s a) := by
  obtain ⟨k, rfl⟩ := succ_of (show 0 < k by omega)
  unfold spec_waGood.f walkB
  rw [grPlace_eq l a _ (by omega)]
  simp only [Option.bind_some]
  cases hp : placeB l a with
  | false => simp [spec_waGood.j0]
  | true =>
    obtain ⟨hg, h1, h8, ha0, hal⟩ := place_is hp
    rw [if_pos rfl]
    simp only [spec_waGood.j0]
    by_cases hsl : s.length = l.length
    · rw [show ((s.length : Int) != (l.length : Int)) = false by simp [hsl], if_neg (by decide)]
      have := waGood_loop l s h8 hsl (fun r hr => (graph_row hg hr).1) a l.length k 0 (by omega) (by omega)
      rw [List.drop_zero, List.drop_zero] at this
      rw [show (0 : Int) = ((0 : Nat) : Int) from rfl, this]
      simp [hsl]
    · rw [show ((s.length : Int) != (l.length : Int)) = true by simp; omega, if_pos rfl]
      simp [hsl]
theorem place_zero {l : List (List Int)} {a : Int} (h : placeB l a = true) : placeB l 0 = true := by
  obtain ⟨hg, h1, h8, ha0, hal⟩ := place_is h
  unfold placeB inB
  rw [hg, Bool.true_and, decide_eq_true_eq]
  omega
theorem isWalk_eq (l : List (List Int)) (s : List Int) (a : Int) (k : Nat) (hk : 100 ≤ k) : impl_isWalk.f k l s a = some (walkB l s a) := by
  obtain ⟨k, rfl⟩ := succ_of (show 0 < k by omega)
  unfold impl_isWalk.f walkB impl_has.f
  rw [hasB_one]
  simp only [Option.bind_some]
  cases hp : placeB l a with
  | false => simp [impl_isWalk.j0]
  | true =>
    obtain ⟨hg, h1, h8, ha0, hal⟩ := place_is hp
    rw [if_pos rfl]
    simp only [impl_isWalk.j0]
    by_cases hsl : s.length = l.length
    · rw [show ((s.length : Int) != (l.length : Int)) = false by simp [hsl], if_neg (by decide)]
      have := isWalk_loop l s h8 hsl (fun r hr => (graph_row hg hr).1) s.length k 0 (by omega) (by omega)
      rw [List.drop_zero, List.drop_zero] at this
      rw [show (0 : Int) = ((0 : Nat) : Int) from rfl, this]
      simp [hsl]
    · rw [show ((s.length : Int) != (l.length : Int)) = true by simp; omega, if_pos rfl]
      simp [hsl]
theorem areRotors_eq (l : List (List Int)) (s : List Int) (a : Int) (hp : placeB l a = true) (k : Nat) (hk : 100 ≤ k) : impl_areRotors.f k l s = some (walkB l s a) := by
  unfold impl_areRotors.f
  rw [isWalk_eq l s 0 k hk]
  unfold walkB
  rw [hp, place_zero hp]
  rfl
theorem walk_is {l : List (List Int)} {s : List Int} {a : Int} (h : walkB l s a = true) : placeB l a = true ∧ s.length = l.length ∧ okWalk l s = true := by
  unfold walkB at h
  simp only [Bool.and_eq_true, decide_eq_true_eq] at h
  exact ⟨h.1.1, h.1.2, h.2⟩
end Go.Proofs.Ytnbnalbomflafaa.RA
/-! ## Cb -/
namespace Go.Proofs.Ytnbnalbomflafaa.RA
open Go.RowKit Go.Proofs.YtnbnalbomflafaaW.PrintWords Go.Proofs.YtnbnalbomflafaaW.PrintLast Go.Proofs.YtnbnalbomflafaaW.PrintMore
open Go.Proofs.Ytnbnalbomflafaa.KA
set_option linter.unusedVariables false
set_option linter.unusedSimpArgs false
def Dist (l : List (List Int)) (a b : Int) : Nat → Int → Prop
  | 0, v => v = a ∨ v = b
  | m + 1, v => v = a ∨ v = b ∨ ∃ q ∈ GA.rd_L1 l v, Dist l a b m q
theorem dist_of {l : List (List Int)} {a b p q : Int} (h : Reach l p q) : ∀ m, Dist l a b m q → ∃ m', Dist l a b m' p := by
  induction h with
  | here => exact fun m h => ⟨m, h⟩
  | step h1 h2 ih => exact fun m hm => ih (m + 1) (Or.inr (Or.inr ⟨_, h2, hm⟩))
theorem dist_ends {l : List (List Int)} {a b v : Int} (h : Ends l a b v) : ∃ m, Dist l a b m v := by
  rcases h.1 with h | h
  · exact dist_of h 0 (Or.inl rfl)
  · exact dist_of h 0 (Or.inr rfl)
theorem least_of {P : Nat → Prop} : ∀ m, P m → ∃ n, P n ∧ ∀ k, k < n → ¬ P k := by
  intro m
  induction m using Nat.strongRecOn with
  | ind m ih =>
    intro hm
    by_cases h : ∃ k, k < m ∧ P k
    · obtain ⟨k, hk, hp⟩ := h
      exact ih k hk hp
    · exact ⟨m, hm, fun k hk hp => h ⟨k, hk, hp⟩⟩
theorem dist_fun (l : List (List Int)) (a b : Int) (n : Nat) (hE : ∀ v : Int, 0 ≤ v → v < n → ∃ m, Dist l a b m v) (hrow : ∀ v : Int, 0 ≤ v → v < n → ∀ q ∈ GA.rd_L1 l v, 0 ≤ q ∧ q < n) :
    ∃ d : Int → Nat, ∀ v : Int, 0 ≤ v → v < n → v ≠ a → v ≠ b → ∃ q ∈ GA.rd_L1 l v, d q < d v := by
  classical
  refine ⟨fun v => if h : ∃ m, Dist l a b m v ∧ ∀ k, k < m → ¬ Dist l a b k v then h.choose else 0, fun v h0 h1 ha hb => ?_⟩
  have key : ∀ v : Int, 0 ≤ v → v < n → ∃ m, Dist l a b m v ∧ ∀ k, k < m → ¬ Dist l a b k v := fun v h0 h1 => by
    obtain ⟨m, hm⟩ := hE v h0 h1
    exact least_of m hm
  have hv := key v h0 h1
  simp only [dif_pos hv]
  obtain ⟨hm, hleast⟩ := hv.choose_spec
  cases hc : hv.choose with
  | zero =>
    rw [hc] at hm
    rcases hm with hm | hm
    · exact absurd hm ha
    · exact absurd hm hb
  | succ m =>
    rw [hc] at hm
    rcases hm with hm | hm | ⟨q, hq, hd⟩
    · exact absurd hm ha
    · exact absurd hm hb
    · refine ⟨q, hq, ?_⟩
      have hqn := hrow v h0 h1 q hq
      have hk := key q hqn.1 hqn.2
      rw [dif_pos hk]
      have := hk.choose_spec.2
      rcases Nat.lt_or_ge m hk.choose with h | h
      · exact absurd hd (this m h)
      · omega
def sumTo (f : Nat → Nat) : Nat → Nat
  | 0 => 0
  | n + 1 => sumTo f n + f n
theorem sumTo_same (f g : Nat → Nat) : ∀ n, (∀ i, i < n → f i = g i) → sumTo f n = sumTo g n
  | 0, _ => rfl
  | n + 1, h => by
    unfold sumTo
    rw [sumTo_same f g n (fun i hi => h i (by omega)), h n (by omega)]
theorem sumTo_one (f g : Nat → Nat) (i : Nat) : ∀ n, i < n → (∀ j, j < n → j ≠ i → f j = g j) → sumTo f n + g i = sumTo g n + f i
  | 0, h, _ => by omega
  | n + 1, h, hj => by
    unfold sumTo
    by_cases hin : i = n
    · rw [hin, sumTo_same f g n (fun j hj2 => hj j (by omega) (by omega))]
      omega
    · have := sumTo_one f g i n (by omega) (fun j h1 h2 => hj j (by omega) h2)
      have := hj n (by omega) (by omega)
      omega
theorem sumTo_le (f : Nat → Nat) : ∀ n i, i < n → f i ≤ sumTo f n
  | 0, i, h => by omega
  | n + 1, i, h => by
    unfold sumTo
    by_cases hin : i = n
    · rw [hin]; omega
    · have := sumTo_le f n i (by omega); omega
def xs : Nat → Nat
  | 0 => 0
  | e + 1 => 5 * xs e + 5
theorem xs_mono : ∀ {e f : Nat}, e ≤ f → xs e ≤ xs f := by
  intro e f h
  induction h with
  | refl => exact Nat.le_refl _
  | step _ ih => exact Nat.le_trans ih (by show _ ≤ 5 * xs _ + 5; omega)
/-- How often a place is left until it is left by exit j. -/
def turns (deg j r : Nat) : Nat := (j + deg - 1 - r) % deg + 1
theorem turns_step (deg j r : Nat) (h5 : deg ≤ 5) (hj : j < deg) (hr : r < deg) : ((r + 1) % deg = j ∧ turns deg j r = 1 ∧ turns deg j ((r + 1) % deg) ≤ 5) ∨ (turns deg j ((r + 1) % deg) + 1 = turns deg j r) := by
  unfold turns
  have h : deg = 1 ∨ deg = 2 ∨ deg = 3 ∨ deg = 4 ∨ deg = 5 := by omega
  rcases h with rfl | rfl | rfl | rfl | rfl <;> omega
end Go.Proofs.Ytnbnalbomflafaa.RA
/-! ## Cc -/
namespace Go.Proofs.Ytnbnalbomflafaa.RA
open Go.RowKit Go.Proofs.YtnbnalbomflafaaW.PrintWords Go.Proofs.YtnbnalbomflafaaW.PrintLast Go.Proofs.YtnbnalbomflafaaW.PrintMore
open Go.Proofs.Ytnbnalbomflafaa.KA
set_option linter.unusedVariables false
set_option linter.unusedSimpArgs false
inductive Run (l : List (List Int)) (a b : Int) : Nat → Int → List Int → Int → Int → List Int → Int → Prop
  | stop (v : Int) (rot : List Int) (st : Int) (h : v = a ∨ v = b) : Run l a b 0 v rot st v rot st
  | go (s : Nat) (v : Int) (rot : List Int) (st v1 : Int) (rot1 : List Int) (st1 : Int) (ha : v ≠ a) (hb : v ≠ b) (h0 : 0 ≤ v) (h1 : v < l.length) (hr : v < rot.length) (k : Nat) (hk : k < (GA.rd_L1 l v).length)
      (hkr : Int.tmod (wrap64 (rd rot v + 1)) ((GA.rd_L1 l v).length : Int) = (k : Int)) (h : Run l a b s (rd (GA.rd_L1 l v) k) (rot.set v.toNat k) (wrap64 (st + 1)) v1 rot1 st1) : Run l a b (s + 1) v rot st v1 rot1 st1
def Rots (l : List (List Int)) (rot : List Int) : Prop := rot.length = l.length ∧ ∀ v : Int, 0 ≤ v → v < l.length → 0 < (GA.rd_L1 l v).length → 0 ≤ rd rot v ∧ rd rot v < (GA.rd_L1 l v).length
theorem rots_set {l : List (List Int)} {rot : List Int} (h : Rots l rot) {v : Int} (h0 : 0 ≤ v) (h1 : v < l.length) {k : Nat} (hk : k < (GA.rd_L1 l v).length) : Rots l (rot.set v.toNat k) := by
  refine ⟨by rw [List.length_set]; exact h.1, fun u u0 u1 hd => ?_⟩
  have hl := h.1
  by_cases hu : u = v
  · rw [hu, rd_set_same _ h0 (by omega)]
    omega
  · rw [rd_set_other _ h0 u0 hu]
    exact h.2 u u0 u1 hd
theorem run_ex (l : List (List Int)) (a b : Int) (h5 : ∀ v : Int, 0 ≤ v → v < l.length → (GA.rd_L1 l v).length ≤ 5) (hrow : ∀ v : Int, 0 ≤ v → v < l.length → ∀ q ∈ GA.rd_L1 l v, 0 ≤ q ∧ q < l.length)
    (hE : ∀ v : Int, 0 ≤ v → v < l.length → Ends l a b v) : ∀ (rot : List Int) (v st : Int), Rots l rot → 0 ≤ v → v < l.length → ∃ s v1 rot1 st1, Run l a b s v rot st v1 rot1 st1 ∧ Rots l rot1 := by
  classical
  obtain ⟨d, hd⟩ := dist_fun l a b l.length (fun v h0 h1 => dist_ends (hE v h0 h1)) hrow
  have hg : ∀ v : Int, ∃ j : Nat, 0 ≤ v → v < l.length → v ≠ a → v ≠ b → j < (GA.rd_L1 l v).length ∧ d (rd (GA.rd_L1 l v) j) < d v := fun v => by
    by_cases hv : 0 ≤ v ∧ v < l.length ∧ v ≠ a ∧ v ≠ b
    · obtain ⟨q, hq, hlt⟩ := hd v hv.1 hv.2.1 hv.2.2.1 hv.2.2.2
      obtain ⟨j, hj, hjq⟩ := List.mem_iff_getElem.1 hq
      exact ⟨j, fun _ _ _ _ => ⟨hj, by rw [rd_at _ j hj, hjq]; exact hlt⟩⟩
    · exact ⟨0, fun h0 h1 h2 h3 => absurd ⟨h0, h1, h2, h3⟩ hv⟩
  let g : Int → Nat := fun v => (hg v).choose
  have hgs : ∀ v : Int, 0 ≤ v → v < l.length → v ≠ a → v ≠ b → g v < (GA.rd_L1 l v).length ∧ d (rd (GA.rd_L1 l v) (g v)) < d v := fun v => (hg v).choose_spec
  obtain ⟨M, hM⟩ : ∃ M, ∀ v : Int, 0 ≤ v → v < l.length → d v ≤ M := ⟨sumTo (fun i => d (i : Int)) l.length, fun v h0 h1 => by
    obtain ⟨i, rfl⟩ := Int.eq_ofNat_of_zero_le h0
    exact sumTo_le (fun i => d (i : Int)) l.length i (by omega)⟩
  let T : List Int → Nat → Nat := fun rot i => (xs (M - d (i : Int)) + 1) * turns (GA.rd_L1 l (i : Int)).length (g (i : Int)) (rd rot (i : Int)).toNat
  suffices H : ∀ (m : Nat) (rot : List Int) (v st : Int), Rots l rot → 0 ≤ v → v < l.length → sumTo (T rot) l.length + (xs M - xs (M - d v)) < m → ∃ s v1 rot1 st1, Run l a b s v rot st v1 rot1 st1 ∧ Rots l rot1 from
    fun rot v st hR h0 h1 => H _ rot v st hR h0 h1 (Nat.lt_succ_self _)
  intro m
  induction m with
  | zero => intro rot v st _ _ _ h; omega
  | succ m ih =>
    intro rot v st hR h0 h1 hm
    by_cases ha : v = a
    · exact ⟨0, v, rot, st, Run.stop v rot st (Or.inl ha), hR⟩
    by_cases hb : v = b
    · exact ⟨0, v, rot, st, Run.stop v rot st (Or.inr hb), hR⟩
    obtain ⟨hj, hdj⟩ := hgs v h0 h1 ha hb
    have hdeg : 0 < (GA.rd_L1 l v).length := by omega
    have hdeg5 := h5 v h0 h1
    obtain ⟨hr0, hr1⟩ := hR.2 v h0 h1 hdeg
    obtain ⟨r, hr⟩ := Int.eq_ofNat_of_zero_le hr0
    have hrl : r < (GA.rd_L1 l v).length := by omega
    have hk : (r + 1) % (GA.rd_L1 l v).length < (GA.rd_L1 l v).length := Nat.mod_lt _ hdeg
    have hkr : Int.tmod (wrap64 (rd rot v + 1)) ((GA.rd_L1 l v).length : Int) = (((r + 1) % (GA.rd_L1 l v).length : Nat) : Int) := by
      rw [hr, wrap_id (by omega) (by omega)]
      rfl
    have hts := turns_step (GA.rd_L1 l v).length (g v) r hdeg5 hj hrl
    generalize hkk : (r + 1) % (GA.rd_L1 l v).length = k at hk hkr hts
    have hR2 := rots_set hR h0 h1 hk
    have hw := hrow v h0 h1 (rd (GA.rd_L1 l v) k) (by rw [rd_at _ k hk]; exact List.getElem_mem hk)
    have hrl2 := hR.1
    obtain ⟨i, rfl⟩ := Int.eq_ofNat_of_zero_le h0
    have hsum := sumTo_one (T (rot.set (i : Int).toNat k)) (T rot) i l.length (by omega) (fun j hj hji => by
      show _ * turns _ _ (rd (rot.set (i : Int).toNat k) (j : Int)).toNat = _ * turns _ _ (rd rot (j : Int)).toNat
      rw [rd_set_other _ h0 (by omega) (by omega)])
    have hTn : T (rot.set (i : Int).toNat k) i = (xs (M - d (i : Int)) + 1) * turns (GA.rd_L1 l (i : Int)).length (g (i : Int)) k := by
      show _ * turns _ _ (rd (rot.set (i : Int).toNat k) (i : Int)).toNat = _
      rw [rd_set_same _ h0 (by omega), Int.toNat_natCast]
    have hTo : T rot i = (xs (M - d (i : Int)) + 1) * turns (GA.rd_L1 l (i : Int)).length (g (i : Int)) r := by
      show _ * turns _ _ (rd rot (i : Int)).toNat = _
      rw [hr, Int.toNat_natCast]
    have hdM := hM (i : Int) h0 h1
    have hxM : xs (M - d (i : Int)) ≤ xs M := xs_mono (by omega)
    have hlt : sumTo (T (rot.set (i : Int).toNat k)) l.length + (xs M - xs (M - d (rd (GA.rd_L1 l (i : Int)) k))) < m := by
      rcases hts with ⟨h1_, h2_, h3_⟩ | h1_
      · rw [h1_] at hkk ⊢
        have hlow : xs (M - d (i : Int) + 1) ≤ xs (M - d (rd (GA.rd_L1 l (i : Int)) (g (i : Int)))) := xs_mono (by omega)
        have hhigh : xs (M - d (rd (GA.rd_L1 l (i : Int)) (g (i : Int)))) ≤ xs M := xs_mono (by omega)
        have hx : xs (M - d (i : Int) + 1) = 5 * xs (M - d (i : Int)) + 5 := rfl
        rw [h2_, Nat.mul_one] at hTo
        have hle := Nat.mul_le_mul_left (xs (M - d (i : Int)) + 1) h3_
        rw [← hTn] at hle
        rw [h1_] at hsum hle
        omega
      · rw [← h1_, Nat.mul_add, Nat.mul_one] at hTo
        rw [← hTn] at hTo
        omega
    obtain ⟨s, v1, rot1, st1, hrun, hR1⟩ := ih (rot.set (i : Int).toNat k) (rd (GA.rd_L1 l (i : Int)) k) (wrap64 (st + 1)) hR2 hw.1 hw.2 hlt
    exact ⟨s + 1, v1, rot1, st1, Run.go s _ rot st v1 rot1 st1 ha hb h0 h1 (by omega) k hk hkr hrun, hR1⟩
end Go.Proofs.Ytnbnalbomflafaa.RA
/-! ## GR3 -/
namespace Go.Proofs.Ytnbnalbomflafaa.GR
open Go.RowKit Go.Proofs.YtnbnalbomflafaaW.PrintWords Go.Proofs.YtnbnalbomflafaaW.PrintLast Go.Proofs.YtnbnalbomflafaaW.PrintMore
open Go.Proofs.Ytnbnalbomflafaa.GA Go.Proofs.Ytnbnalbomflafaa.GB Go.Proofs.Ytnbnalbomflafaa.GD Go.Proofs.Ytnbnalbomflafaa.KA
attribute [local go_sem] max2_int min2_int max_two min_two max_three min_three max_four min_four   -- for this text's walks alone
set_option linter.unusedVariables false
set_option linter.unusedSimpArgs false
mutual
def spec_skCycle.j1 : Nat → Int → List Int → Int → Option (List Int)
  | 0, _, _, _ => none
  | k + 1, x2, x7, x8 => if x8 = x2 then (spec_skCycle.l1 k x7 0 x7 (x7.length : Int) 0) else (some ([] : List Int))
def spec_skCycle.l1 : Nat → List Int → Int → List Int → Int → Int → Option (List Int)
  | 0, _, _, _, _, _ => none
  | k + 1, x7, x10, x46, x47, x48 => if x48 < x47 then (if 0 ≤ x48 then (if x48 < (x46.length : Int) then (if 0 ≤ x10 then (if x10 < (x7.length : Int) then (if (rd x46 x48) < (rd x7 x10) then (spec_skCycle.l1 k x7 x48 x46 x47 (wrap64 (x48 + 1))) else (spec_skCycle.l1 k x7 x10 x46 x47 (wrap64 (x48 + 1)))) else (none)) else (none)) else (none)) else (none)) else (if 0 ≤ x10 then (if x10 ≤ (x7.length : Int) then ((spec_l1Own.f (x7.drop (x10 : Int).toNat)).bind fun t364 => ((some (x7.take (x10 : Int).toNat : List Int)).bind fun y367 => (if t364.length + y367.length < 17592186044416 then (some (t364 ++ y367)) else (none)))) else (none)) else (none))
def spec_skCycle.l0 : Nat → Int → List Int → Int → Int → List (List Int) → List (List Int) → Option (List Int)
  | 0, _, _, _, _, _, _ => none
  | k + 1, x2, x7, x8, x9, x349000, x350000 => if x9 < (x349000.length : Int) then (if x8 ≥ 0 then (if x8 = x2 then (spec_skCycle.j1 k x2 x7 x8) else (if x7.length < 17592186044416 then ((spec_skNext.f x349000 x350000 x8).bind fun t357 => (spec_skCycle.l0 k x2 (x7 ++ [x8]) t357 (wrap64 (x9 + 1)) x349000 x350000)) else (none))) else (spec_skCycle.j1 k x2 x7 x8)) else (spec_skCycle.j1 k x2 x7 x8)
end
def spec_skCycle.f (k : Nat) (l0_0 : List (List Int)) (l1_0 : List (List Int)) (a2 : Int) : Option (List Int) := (spec_skNext.f l0_0 l1_0 a2).bind fun t353 => (spec_skCycle.l0 k a2 (([a2] : List Int)) t353 0 l0_0 l1_0)
def spec_skCycles.l0 : Nat → List (List Int) → Int → Int → List (List Int) → List (List Int) → Option ((List (List Int)))
  | 0, _, _, _, _, _ => none
  | k + 1, x5, x10, x11, x375000, x376000 => if x11 < x10 then ((spec_skCycle.f k x375000 x376000 x11).bind fun t376 => (if (t376.length : Int) > 0 then (if 0 < (t376.length : Int) then (if (rd t376 0) = x11 then (if x5.length < 5864062014805 then (spec_skCycles.l0 k (x5 ++ [t376]) x10 (wrap64 (x11 + 1)) x375000 x376000) else (none)) else (spec_skCycles.l0 k x5 x10 (wrap64 (x11 + 1)) x375000 x376000)) else (none)) else (spec_skCycles.l0 k x5 x10 (wrap64 (x11 + 1)) x375000 x376000))) else (some x5)
def spec_skCycles.f (k : Nat) (l0_0 : List (List Int)) (l1_0 : List (List Int)) : Option ((List (List Int))) := spec_skCycles.l0 k ([] : List (List Int)) (l0_0.length : Int) 0 l0_0 l1_0
def spec_CyclesOf.f (k : Nat) (l0_0 : List (List Int)) (a1 : Int) (l2_0 : List (List Int)) : Option ((List (List Int)) × Bool) := (spec_skGood.f k l0_0 a1 l2_0).bind fun t385 => (if t385 = true then ((spec_skCycles.f k l0_0 l2_0).bind fun t386 => (some (t386, true))) else (some (([] : List (List Int)), false)))
end Go.Proofs.Ytnbnalbomflafaa.GR
/-! ## Y4 -/
namespace Go.Proofs.Ytnbnalbomflafaa.RA
open Go.RowKit
theorem field80_0 (a b c : Value) (w : World) : (Instr.field 80 (.agg #[a, b, c]) 0).run Try.prog w = .ok a w := by kernel_rfl
theorem field80_1 (a b c : Value) (w : World) : (Instr.field 80 (.agg #[a, b, c]) 1).run Try.prog w = .ok b w := by kernel_rfl
theorem field80_2 (a b c : Value) (w : World) : (Instr.field 80 (.agg #[a, b, c]) 2).run Try.prog w = .ok c w := by kernel_rfl
end Go.Proofs.Ytnbnalbomflafaa.RA
/-! ## GQ0 -/
namespace Go.Proofs.Ytnbnalbomflafaa.GQ
open Go.RowKit Go.Proofs.YtnbnalbomflafaaW.PrintWords Go.Proofs.YtnbnalbomflafaaW.PrintLast Go.Proofs.YtnbnalbomflafaaW.PrintMore
open Go.Proofs.Ytnbnalbomflafaa.GA Go.Proofs.Ytnbnalbomflafaa.GB Go.Proofs.Ytnbnalbomflafaa.GD Go.Proofs.Ytnbnalbomflafaa.KA Go.Proofs.Ytnbnalbomflafaa.GR
attribute [local go_sem] RA.field80_0 RA.field80_1 RA.field80_2 max2_int min2_int max_two min_two max_three min_three max_four min_four   -- for this text's walks alone
set_option linter.unusedVariables false
set_option linter.unusedSimpArgs false
def errW : Option Int → Value
  | none => .nilIface
  | some c => .iface 0 (.int .i64 c)
theorem errW_none : errW none = .nilIface := rfl
theorem errW_some (c : Int) : errW (some c) = .iface 0 (.int .i64 c) := rfl
theorem info3 : (Try.prog.info? 3).map (fun i => (i.zero, i.size, i.bytes)) = some (some (.int .i64 0), 1, 8) := by kernel_rfl
def rd_L1 (xs : List (List Int)) (i : Int) : (List Int) := xs.getD i.toNat ([] : List Int)
theorem at_L1 {w : World} {A : Option Addr} {n : Nat} {xs : List (List Int)} (h : Kd.C (Kd.slice 3 (Kd.int .i64)) w A n xs) (i : Int) (h0 : 0 ≤ i) (h1 : i < n) : ∃ ad A0 c0, A = some ad ∧ w.cell? (ad.add i.toNat) = some (.slice A0 (rd_L1 xs i).length c0) ∧ (rd_L1 xs i).length ≤ c0 ∧ (Kd.int .i64).C w A0 (rd_L1 xs i).length (rd_L1 xs i) := by
  obtain ⟨ad, c, e, _, hK, hc0⟩ := Kd.C_get h ([] : List Int) i h0 h1
  have hc : ∀ j u, c[j]? = some u → w.cell? (ad.add (i.toNat * 1 + j)) = some u := hc0
  obtain ⟨A0, c0, rfl, l0, g0⟩ := hK
  exact ⟨ad, A0, c0, e, by have hq := hc 0 _ rfl; rwa [Nat.mul_one, Nat.add_zero] at hq, l0, g0⟩
end Go.Proofs.Ytnbnalbomflafaa.GQ
/-! ## GQ1 -/
namespace Go.Proofs.Ytnbnalbomflafaa.GQ
open Go.RowKit Go.Proofs.YtnbnalbomflafaaW.PrintWords Go.Proofs.YtnbnalbomflafaaW.PrintLast Go.Proofs.YtnbnalbomflafaaW.PrintMore
open Go.Proofs.Ytnbnalbomflafaa.GA Go.Proofs.Ytnbnalbomflafaa.GB Go.Proofs.Ytnbnalbomflafaa.GD Go.Proofs.Ytnbnalbomflafaa.KA Go.Proofs.Ytnbnalbomflafaa.GR
attribute [local go_sem] RA.field80_0 RA.field80_1 RA.field80_2 max2_int min2_int max_two min_two max_three min_three max_four min_four   -- for this text's walks alone
set_option linter.unusedVariables false
set_option linter.unusedSimpArgs false
def spec_hiGood.f (k : Nat) (l0_0 : List (List Int)) (a1 : Int) (a2 : Int) : Option (Bool) := (spec_hiGoals.f k l0_0 a1 a2).bind fun t140 => (if t140 = true then ((spec_hiCan.f k l0_0 a1 a2).bind fun t141 => (some t141)) else (some false))
set_option maxHeartbeats 8000000 in
set_option maxRecDepth 100000 in
theorem spec_hiGood.calls (k : Nat) (A0_0 : Option Addr) (c0_0 : Nat) (l0_0 : List (List Int)) (a1 : Int) (a2 : Int) (r : Bool) (w : World) (hr0_0 : Kd.C (Kd.slice 3 (Kd.int .i64)) w A0_0 l0_0.length l0_0) (hc0_0 : l0_0.length ≤ c0_0) (h : spec_hiGood.f k l0_0 a1 a2 = some r) :
    Calls Try.prog 87 #[.agg #[.slice A0_0 l0_0.length c0_0], .int .i64 a1, .int .i64 a2] w fun e w' => e = .returned (.bool r) ∧ Below w.heap.size w w' := by
  have hu30 := Try.underlying30
  have HR0_0 := Aside0.mk hr0_0
  have HC0_0 := Aside0.mk hc0_0
  clear hr0_0 hc0_0
  have HB := Aside0.mk (Below.refl w.heap.size w)
  have H : ((spec_hiGoals.f k l0_0 a1 a2).bind fun t140 => (if t140 = true then ((spec_hiCan.f k l0_0 a1 a2).bind fun t141 => (some t141)) else (some false))) = some r := h
  clear h
  replace H := Option.bind_eq_some_iff.mp H
  obtain ⟨t140, A40, H⟩ := H
  replace H : (if t140 = true then ((spec_hiCan.f k l0_0 a1 a2).bind fun t141 => (some t141)) else (some false)) = some r := H
  have A4 := Aside0.mk A40
  clear A40
  by_cases c5 : t140 = true
  · subst c5
    have H1 : ((spec_hiCan.f k l0_0 a1 a2).bind fun t141 => (some t141)) = some r := by rw [if_pos rfl] at H; exact H
    clear H
    have H := H1
    clear H1
    replace H := Option.bind_eq_some_iff.mp H
    obtain ⟨t141, A60, H⟩ := H
    replace H : (some t141) = some r := H
    have A6 := Aside0.mk A60
    clear A60
    obtain rfl := Option.some.inj H
    go_enter Try.func87, Try.ntmps87
    go_wp2_with (first | ((with_reducible refine gate_dst (N := 3) rfl ?_); refine box_event ?hg (N := 3) ?hd (cs := #[.slice A0_0 l0_0.length c0_0]) (t := 30) ?hr ?_; (case hd => rfl); (case hg => rfl); (case hr => first | (go_simp; done) | (go_simp; rfl)); intro gb139 hg w7 hbox hb; have n0_ := Aside0.mk (below_step (by repeat (first | (with_reducible first | exact HB.out | apply below_alloc | apply pw_below_drewN | apply below_drew1) | exact HB.out)) hb); have n1_ := Aside0.mk (hbox); have n2_ := Aside0.mk ((by rw [hg]; exact (below_size (by repeat (first | (with_reducible first | exact HB.out | apply below_alloc | apply pw_below_drewN | apply below_drew1) | exact HB.out))) : w.heap.size ≤ gb139)); have n3_ := Aside0.mk ((by rw [hg]; exact (below_size (by repeat (first | (with_reducible first | exact HB.out | apply below_alloc | apply pw_below_drewN | apply below_drew1) | exact HB.out))) : w.heap.size ≤ gb139)); clear HB; have HB := n0_; have BK139 := n1_; have GW139 := n2_; have GE139 := n3_; clear n0_ n1_ n2_ n3_; clear hb hbox hg; have hcz8_0 : w7.cell? ⟨gb139, 0, none⟩ = some (.slice A0_0 l0_0.length c0_0) := (blk_cell BK139.out 0).trans rfl; have hfz8_0 := blk_frozen BK139.out 0) | ((with_reducible refine gate_callee (f := 79) rfl ?_); refine goesL_ (some 10) rfl rfl Try.func79 (by kernel_rfl) rfl #[.agg #[.slice A0_0 l0_0.length c0_0], .int .i64 a1, .int .i64 a2] rfl (by (try simp only [List.map_toArray, List.map_cons, List.map_nil]); first | done | rfl | (simp only [List.length_drop, List.length_take]; rfl)) ?_; (with_reducible refine (spec_hiGoals.calls k _ _ l0_0 a1 a2 true _ ?side1 ?side2 A4.out).mono ?_); (case side1 => repeat (first | exact (Kd.C_below HR0_0.out HB.out) | (with_reducible refine Kd.C_alloc ?_ _) | (with_reducible refine Kd.C_drewN ?_ _) | (with_reducible refine Kd.C_drew ?_))); (case side2 => exact HC0_0.out); rintro e w9 ⟨rfl, hb⟩; refine ⟨_, rfl, ?_⟩; have n0_ := Aside0.mk (blk_below (g := gb139) (o := .cells #[.slice A0_0 l0_0.length c0_0] 30 (0, 0)) (by (with_reducible repeat (first | refine blk_drewN ?_ _ | refine blk_drew ?_ | refine blk_alloc ?_ _)); exact BK139.out) hb); have n1_ := Aside0.mk (below_step (by repeat (first | (with_reducible first | exact HB.out | apply below_alloc | apply pw_below_drewN | apply below_drew1 | refine below_set ?_ GE139.out) | exact HB.out)) hb); clear BK139; clear HB; have BK139 := n0_; have HB := n1_; clear n0_ n1_; (try clear hb); (try clear hb2); (try clear hk); (try clear hi); have hcz10_0 : w9.cell? ⟨gb139, 0, none⟩ = some (.slice A0_0 l0_0.length c0_0) := (blk_cell BK139.out 0).trans rfl; have hfz10_0 := blk_frozen BK139.out 0) | (go_at_call 80; (with_reducible refine (spec_hiCan.calls k _ _ l0_0 a1 a2 t141 _ ?side1 ?side2 A6.out).mono ?_); (case side1 => repeat (first | exact (Kd.C_below HR0_0.out HB.out) | (with_reducible refine Kd.C_alloc ?_ _) | (with_reducible refine Kd.C_drewN ?_ _) | (with_reducible refine Kd.C_drew ?_))); (case side2 => exact HC0_0.out); rintro e w11 ⟨rfl, hb⟩; have n0_ := Aside0.mk (blk_below (g := gb139) (o := .cells #[.slice A0_0 l0_0.length c0_0] 30 (0, 0)) (by (with_reducible repeat (first | refine blk_drewN ?_ _ | refine blk_drew ?_ | refine blk_alloc ?_ _)); exact BK139.out) hb); have n1_ := Aside0.mk (below_step (by repeat (first | (with_reducible first | exact HB.out | apply below_alloc | apply pw_below_drewN | apply below_drew1 | refine below_set ?_ GE139.out) | exact HB.out)) hb); clear BK139; clear HB; have BK139 := n0_; have HB := n1_; clear n0_ n1_; (try clear hb); (try clear hb2); (try clear hk); (try clear hi)))
    go_ret
    exact ⟨by first | rfl | (simp [errW_none, errW_some] <;> rfl) | (simp [*, errW_none, errW_some] <;> rfl), by repeat (first | (with_reducible first | exact HB.out | apply below_alloc | apply pw_below_drewN | apply below_drew1 | refine below_set ?_ GE139.out) | exact HB.out)⟩
  · replace c5 := Bool.eq_false_iff.mpr c5
    subst c5
    have H1 : (some false) = some r := by rw [if_neg (show ¬ (false = true) by decide)] at H; exact H
    clear H
    have H := H1
    clear H1
    obtain rfl := Option.some.inj H
    go_enter Try.func87, Try.ntmps87
    go_wp2_with (first | ((with_reducible refine gate_dst (N := 3) rfl ?_); refine box_event ?hg (N := 3) ?hd (cs := #[.slice A0_0 l0_0.length c0_0]) (t := 30) ?hr ?_; (case hd => rfl); (case hg => rfl); (case hr => first | (go_simp; done) | (go_simp; rfl)); intro gb139 hg w12 hbox hb; have n0_ := Aside0.mk (below_step (by repeat (first | (with_reducible first | exact HB.out | apply below_alloc | apply pw_below_drewN | apply below_drew1) | exact HB.out)) hb); have n1_ := Aside0.mk (hbox); have n2_ := Aside0.mk ((by rw [hg]; exact (below_size (by repeat (first | (with_reducible first | exact HB.out | apply below_alloc | apply pw_below_drewN | apply below_drew1) | exact HB.out))) : w.heap.size ≤ gb139)); have n3_ := Aside0.mk ((by rw [hg]; exact (below_size (by repeat (first | (with_reducible first | exact HB.out | apply below_alloc | apply pw_below_drewN | apply below_drew1) | exact HB.out))) : w.heap.size ≤ gb139)); clear HB; have HB := n0_; have BK139 := n1_; have GW139 := n2_; have GE139 := n3_; clear n0_ n1_ n2_ n3_; clear hb hbox hg; have hcz13_0 : w12.cell? ⟨gb139, 0, none⟩ = some (.slice A0_0 l0_0.length c0_0) := (blk_cell BK139.out 0).trans rfl; have hfz13_0 := blk_frozen BK139.out 0) | ((with_reducible refine gate_callee (f := 79) rfl ?_); refine goesL_ (some 10) rfl rfl Try.func79 (by kernel_rfl) rfl #[.agg #[.slice A0_0 l0_0.length c0_0], .int .i64 a1, .int .i64 a2] rfl (by (try simp only [List.map_toArray, List.map_cons, List.map_nil]); first | done | rfl | (simp only [List.length_drop, List.length_take]; rfl)) ?_; (with_reducible refine (spec_hiGoals.calls k _ _ l0_0 a1 a2 false _ ?side1 ?side2 A4.out).mono ?_); (case side1 => repeat (first | exact (Kd.C_below HR0_0.out HB.out) | (with_reducible refine Kd.C_alloc ?_ _) | (with_reducible refine Kd.C_drewN ?_ _) | (with_reducible refine Kd.C_drew ?_))); (case side2 => exact HC0_0.out); rintro e w14 ⟨rfl, hb⟩; refine ⟨_, rfl, ?_⟩; have n0_ := Aside0.mk (blk_below (g := gb139) (o := .cells #[.slice A0_0 l0_0.length c0_0] 30 (0, 0)) (by (with_reducible repeat (first | refine blk_drewN ?_ _ | refine blk_drew ?_ | refine blk_alloc ?_ _)); exact BK139.out) hb); have n1_ := Aside0.mk (below_step (by repeat (first | (with_reducible first | exact HB.out | apply below_alloc | apply pw_below_drewN | apply below_drew1 | refine below_set ?_ GE139.out) | exact HB.out)) hb); clear BK139; clear HB; have BK139 := n0_; have HB := n1_; clear n0_ n1_; (try clear hb); (try clear hb2); (try clear hk); (try clear hi)))
    go_ret
    exact ⟨by first | rfl | (simp [errW_none, errW_some] <;> rfl) | (simp [*, errW_none, errW_some] <;> rfl), by repeat (first | (with_reducible first | exact HB.out | apply below_alloc | apply pw_below_drewN | apply below_drew1 | refine below_set ?_ GE139.out) | exact HB.out)⟩
def spec_hiAsked.f (k : Nat) (l0_0 : List (List Int)) (l1 : List Int) (a2 : Int) (a3 : Int) (a4 : Int) (a5 : Int) : Option (Bool) := (spec_hiGood.f k l0_0 a3 a4).bind fun t150 => (if t150 = true then ((spec_waGood.f k l0_0 l1 a2).bind fun t151 => (if t151 = true then ((spec_l1In.f a5 0 100).bind fun t152 => (some t152)) else (some false))) else (some false))
set_option maxHeartbeats 8000000 in
set_option maxRecDepth 100000 in
theorem spec_hiAsked.calls (k : Nat) (A0_0 : Option Addr) (c0_0 : Nat) (l0_0 : List (List Int)) (A1 : Option Addr) (c1 : Nat) (l1 : List Int) (a2 : Int) (a3 : Int) (a4 : Int) (a5 : Int) (r : Bool) (w : World) (hr0_0 : Kd.C (Kd.slice 3 (Kd.int .i64)) w A0_0 l0_0.length l0_0) (hc0_0 : l0_0.length ≤ c0_0) (hr1 : Kd.C (Kd.int .i64) w A1 l1.length l1) (hc1 : l1.length ≤ c1) (h : spec_hiAsked.f k l0_0 l1 a2 a3 a4 a5 = some r) :
    Calls Try.prog 82 #[.agg #[.slice A0_0 l0_0.length c0_0], .slice A1 l1.length c1, .int .i64 a2, .int .i64 a3, .int .i64 a4, .int .i64 a5] w fun e w' => e = .returned (.bool r) ∧ Below w.heap.size w w' := by
  have hu30 := Try.underlying30
  have hu98 := Try.underlying98
  have HR0_0 := Aside0.mk hr0_0
  have HC0_0 := Aside0.mk hc0_0
  clear hr0_0 hc0_0
  have HR1 := Aside0.mk hr1
  have HC1 := Aside0.mk hc1
  clear hr1 hc1
  have HB := Aside0.mk (Below.refl w.heap.size w)
  have H : ((spec_hiGood.f k l0_0 a3 a4).bind fun t150 => (if t150 = true then ((spec_waGood.f k l0_0 l1 a2).bind fun t151 => (if t151 = true then ((spec_l1In.f a5 0 100).bind fun t152 => (some t152)) else (some false))) else (some false))) = some r := h
  clear h
  replace H := Option.bind_eq_some_iff.mp H
  obtain ⟨t150, A70, H⟩ := H
  replace H : (if t150 = true then ((spec_waGood.f k l0_0 l1 a2).bind fun t151 => (if t151 = true then ((spec_l1In.f a5 0 100).bind fun t152 => (some t152)) else (some false))) else (some false)) = some r := H
  have A7 := Aside0.mk A70
  clear A70
  by_cases c8 : t150 = true
  · subst c8
    have H1 : ((spec_waGood.f k l0_0 l1 a2).bind fun t151 => (if t151 = true then ((spec_l1In.f a5 0 100).bind fun t152 => (some t152)) else (some false))) = some r := by rw [if_pos rfl] at H; exact H
    clear H
    have H := H1
    clear H1
    replace H := Option.bind_eq_some_iff.mp H
    obtain ⟨t151, A90, H⟩ := H
    replace H : (if t151 = true then ((spec_l1In.f a5 0 100).bind fun t152 => (some t152)) else (some false)) = some r := H
    have A9 := Aside0.mk A90
    clear A90
    by_cases c10 : t151 = true
    · subst c10
      have H1 : ((spec_l1In.f a5 0 100).bind fun t152 => (some t152)) = some r := by rw [if_pos rfl] at H; exact H
      clear H
      have H := H1
      clear H1
      replace H := Option.bind_eq_some_iff.mp H
      obtain ⟨t152, A110, H⟩ := H
      replace H : (some t152) = some r := H
      have A11 := Aside0.mk A110
      clear A110
      obtain rfl := Option.some.inj H
      go_enter Try.func82, Try.ntmps82
      go_wp2_with (first | ((with_reducible refine gate_dst (N := 6) rfl ?_); refine box_event ?hg (N := 6) ?hd (cs := #[.slice A0_0 l0_0.length c0_0]) (t := 30) ?hr ?_; (case hd => rfl); (case hg => rfl); (case hr => first | (go_simp; done) | (go_simp; rfl)); intro gb149 hg w12 hbox hb; have n0_ := Aside0.mk (below_step (by repeat (first | (with_reducible first | exact HB.out | apply below_alloc | apply pw_below_drewN | apply below_drew1) | exact HB.out)) hb); have n1_ := Aside0.mk (hbox); have n2_ := Aside0.mk ((by rw [hg]; exact (below_size (by repeat (first | (with_reducible first | exact HB.out | apply below_alloc | apply pw_below_drewN | apply below_drew1) | exact HB.out))) : w.heap.size ≤ gb149)); have n3_ := Aside0.mk ((by rw [hg]; exact (below_size (by repeat (first | (with_reducible first | exact HB.out | apply below_alloc | apply pw_below_drewN | apply below_drew1) | exact HB.out))) : w.heap.size ≤ gb149)); clear HB; have HB := n0_; have BK149 := n1_; have GW149 := n2_; have GE149 := n3_; clear n0_ n1_ n2_ n3_; clear hb hbox hg; have hcz13_0 : w12.cell? ⟨gb149, 0, none⟩ = some (.slice A0_0 l0_0.length c0_0) := (blk_cell BK149.out 0).trans rfl; have hfz13_0 := blk_frozen BK149.out 0) | ((with_reducible refine gate_callee (f := 87) rfl ?_); refine goesL_ (some 16) rfl rfl Try.func87 (by kernel_rfl) rfl #[.agg #[.slice A0_0 l0_0.length c0_0], .int .i64 a3, .int .i64 a4] rfl (by (try simp only [List.map_toArray, List.map_cons, List.map_nil]); first | done | rfl | (simp only [List.length_drop, List.length_take]; rfl)) ?_; (with_reducible refine (spec_hiGood.calls k _ _ l0_0 a3 a4 true _ ?side1 ?side2 A7.out).mono ?_); (case side1 => repeat (first | exact (Kd.C_below HR0_0.out HB.out) | (with_reducible refine Kd.C_alloc ?_ _) | (with_reducible refine Kd.C_drewN ?_ _) | (with_reducible refine Kd.C_drew ?_))); (case side2 => exact HC0_0.out); rintro e w14 ⟨rfl, hb⟩; refine ⟨_, rfl, ?_⟩; have n0_ := Aside0.mk (blk_below (g := gb149) (o := .cells #[.slice A0_0 l0_0.length c0_0] 30 (0, 0)) (by (with_reducible repeat (first | refine blk_drewN ?_ _ | refine blk_drew ?_ | refine blk_alloc ?_ _)); exact BK149.out) hb); have n1_ := Aside0.mk (below_step (by repeat (first | (with_reducible first | exact HB.out | apply below_alloc | apply pw_below_drewN | apply below_drew1 | refine below_set ?_ GE149.out) | exact HB.out)) hb); clear BK149; clear HB; have BK149 := n0_; have HB := n1_; clear n0_ n1_; (try clear hb); (try clear hb2); (try clear hk); (try clear hi); have hcz15_0 : w14.cell? ⟨gb149, 0, none⟩ = some (.slice A0_0 l0_0.length c0_0) := (blk_cell BK149.out 0).trans rfl; have hfz15_0 := blk_frozen BK149.out 0) | (go_at_call 101; (with_reducible refine (spec_waGood.calls k _ _ l0_0 _ _ l1 a2 true _ ?side1 ?side2 ?side3 ?side4 A9.out).mono ?_); (case side1 => repeat (first | exact (Kd.C_below HR0_0.out HB.out) | (with_reducible refine Kd.C_alloc ?_ _) | (with_reducible refine Kd.C_drewN ?_ _) | (with_reducible refine Kd.C_drew ?_))); (case side2 => exact HC0_0.out); (case side3 => repeat (first | exact (Kd.C_below HR1.out HB.out) | (with_reducible refine Kd.C_alloc ?_ _) | (with_reducible refine Kd.C_drewN ?_ _) | (with_reducible refine Kd.C_drew ?_))); (case side4 => exact HC1.out); rintro e w16 ⟨rfl, hb⟩; have n0_ := Aside0.mk (blk_below (g := gb149) (o := .cells #[.slice A0_0 l0_0.length c0_0] 30 (0, 0)) (by (with_reducible repeat (first | refine blk_drewN ?_ _ | refine blk_drew ?_ | refine blk_alloc ?_ _)); exact BK149.out) hb); have n1_ := Aside0.mk (below_step (by repeat (first | (with_reducible first | exact HB.out | apply below_alloc | apply pw_below_drewN | apply below_drew1 | refine below_set ?_ GE149.out) | exact HB.out)) hb); clear BK149; clear HB; have BK149 := n0_; have HB := n1_; clear n0_ n1_; (try clear hb); (try clear hb2); (try clear hk); (try clear hi)) | (go_at_call 73; (with_reducible refine (spec_l1In.calls a5 0 100 t152 _ A11.out).mono ?_); rintro e w' ⟨rfl, ⟨nd, rfl⟩⟩))
      go_ret
      exact ⟨by first | rfl | (simp [errW_none, errW_some] <;> rfl) | (simp [*, errW_none, errW_some] <;> rfl), by repeat (first | (with_reducible first | exact HB.out | apply below_alloc | apply pw_below_drewN | apply below_drew1 | refine below_set ?_ GE149.out) | exact HB.out)⟩
    · replace c10 := Bool.eq_false_iff.mpr c10
      subst c10
      have H1 : (some false) = some r := by rw [if_neg (show ¬ (false = true) by decide)] at H; exact H
      clear H
      have H := H1
      clear H1
      obtain rfl := Option.some.inj H
      go_enter Try.func82, Try.ntmps82
      go_wp2_with (first | ((with_reducible refine gate_dst (N := 6) rfl ?_); refine box_event ?hg (N := 6) ?hd (cs := #[.slice A0_0 l0_0.length c0_0]) (t := 30) ?hr ?_; (case hd => rfl); (case hg => rfl); (case hr => first | (go_simp; done) | (go_simp; rfl)); intro gb149 hg w17 hbox hb; have n0_ := Aside0.mk (below_step (by repeat (first | (with_reducible first | exact HB.out | apply below_alloc | apply pw_below_drewN | apply below_drew1) | exact HB.out)) hb); have n1_ := Aside0.mk (hbox); have n2_ := Aside0.mk ((by rw [hg]; exact (below_size (by repeat (first | (with_reducible first | exact HB.out | apply below_alloc | apply pw_below_drewN | apply below_drew1) | exact HB.out))) : w.heap.size ≤ gb149)); have n3_ := Aside0.mk ((by rw [hg]; exact (below_size (by repeat (first | (with_reducible first | exact HB.out | apply below_alloc | apply pw_below_drewN | apply below_drew1) | exact HB.out))) : w.heap.size ≤ gb149)); clear HB; have HB := n0_; have BK149 := n1_; have GW149 := n2_; have GE149 := n3_; clear n0_ n1_ n2_ n3_; clear hb hbox hg; have hcz18_0 : w17.cell? ⟨gb149, 0, none⟩ = some (.slice A0_0 l0_0.length c0_0) := (blk_cell BK149.out 0).trans rfl; have hfz18_0 := blk_frozen BK149.out 0) | ((with_reducible refine gate_callee (f := 87) rfl ?_); refine goesL_ (some 16) rfl rfl Try.func87 (by kernel_rfl) rfl #[.agg #[.slice A0_0 l0_0.length c0_0], .int .i64 a3, .int .i64 a4] rfl (by (try simp only [List.map_toArray, List.map_cons, List.map_nil]); first | done | rfl | (simp only [List.length_drop, List.length_take]; rfl)) ?_; (with_reducible refine (spec_hiGood.calls k _ _ l0_0 a3 a4 true _ ?side1 ?side2 A7.out).mono ?_); (case side1 => repeat (first | exact (Kd.C_below HR0_0.out HB.out) | (with_reducible refine Kd.C_alloc ?_ _) | (with_reducible refine Kd.C_drewN ?_ _) | (with_reducible refine Kd.C_drew ?_))); (case side2 => exact HC0_0.out); rintro e w19 ⟨rfl, hb⟩; refine ⟨_, rfl, ?_⟩; have n0_ := Aside0.mk (blk_below (g := gb149) (o := .cells #[.slice A0_0 l0_0.length c0_0] 30 (0, 0)) (by (with_reducible repeat (first | refine blk_drewN ?_ _ | refine blk_drew ?_ | refine blk_alloc ?_ _)); exact BK149.out) hb); have n1_ := Aside0.mk (below_step (by repeat (first | (with_reducible first | exact HB.out | apply below_alloc | apply pw_below_drewN | apply below_drew1 | refine below_set ?_ GE149.out) | exact HB.out)) hb); clear BK149; clear HB; have BK149 := n0_; have HB := n1_; clear n0_ n1_; (try clear hb); (try clear hb2); (try clear hk); (try clear hi); have hcz20_0 : w19.cell? ⟨gb149, 0, none⟩ = some (.slice A0_0 l0_0.length c0_0) := (blk_cell BK149.out 0).trans rfl; have hfz20_0 := blk_frozen BK149.out 0) | (go_at_call 101; (with_reducible refine (spec_waGood.calls k _ _ l0_0 _ _ l1 a2 false _ ?side1 ?side2 ?side3 ?side4 A9.out).mono ?_); (case side1 => repeat (first | exact (Kd.C_below HR0_0.out HB.out) | (with_reducible refine Kd.C_alloc ?_ _) | (with_reducible refine Kd.C_drewN ?_ _) | (with_reducible refine Kd.C_drew ?_))); (case side2 => exact HC0_0.out); (case side3 => repeat (first | exact (Kd.C_below HR1.out HB.out) | (with_reducible refine Kd.C_alloc ?_ _) | (with_reducible refine Kd.C_drewN ?_ _) | (with_reducible refine Kd.C_drew ?_))); (case side4 => exact HC1.out); rintro e w21 ⟨rfl, hb⟩; have n0_ := Aside0.mk (blk_below (g := gb149) (o := .cells #[.slice A0_0 l0_0.length c0_0] 30 (0, 0)) (by (with_reducible repeat (first | refine blk_drewN ?_ _ | refine blk_drew ?_ | refine blk_alloc ?_ _)); exact BK149.out) hb); have n1_ := Aside0.mk (below_step (by repeat (first | (with_reducible first | exact HB.out | apply below_alloc | apply pw_below_drewN | apply below_drew1 | refine below_set ?_ GE149.out) | exact HB.out)) hb); clear BK149; clear HB; have BK149 := n0_; have HB := n1_; clear n0_ n1_; (try clear hb); (try clear hb2); (try clear hk); (try clear hi)))
      go_ret
      exact ⟨by first | rfl | (simp [errW_none, errW_some] <;> rfl) | (simp [*, errW_none, errW_some] <;> rfl), by repeat (first | (with_reducible first | exact HB.out | apply below_alloc | apply pw_below_drewN | apply below_drew1 | refine below_set ?_ GE149.out) | exact HB.out)⟩
  · replace c8 := Bool.eq_false_iff.mpr c8
    subst c8
    have H1 : (some false) = some r := by rw [if_neg (show ¬ (false = true) by decide)] at H; exact H
    clear H
    have H := H1
    clear H1
    obtain rfl := Option.some.inj H
    go_enter Try.func82, Try.ntmps82
    go_wp2_with (first | ((with_reducible refine gate_dst (N := 6) rfl ?_); refine box_event ?hg (N := 6) ?hd (cs := #[.slice A0_0 l0_0.length c0_0]) (t := 30) ?hr ?_; (case hd => rfl); (case hg => rfl); (case hr => first | (go_simp; done) | (go_simp; rfl)); intro gb149 hg w22 hbox hb; have n0_ := Aside0.mk (below_step (by repeat (first | (with_reducible first | exact HB.out | apply below_alloc | apply pw_below_drewN | apply below_drew1) | exact HB.out)) hb); have n1_ := Aside0.mk (hbox); have n2_ := Aside0.mk ((by rw [hg]; exact (below_size (by repeat (first | (with_reducible first | exact HB.out | apply below_alloc | apply pw_below_drewN | apply below_drew1) | exact HB.out))) : w.heap.size ≤ gb149)); have n3_ := Aside0.mk ((by rw [hg]; exact (below_size (by repeat (first | (with_reducible first | exact HB.out | apply below_alloc | apply pw_below_drewN | apply below_drew1) | exact HB.out))) : w.heap.size ≤ gb149)); clear HB; have HB := n0_; have BK149 := n1_; have GW149 := n2_; have GE149 := n3_; clear n0_ n1_ n2_ n3_; clear hb hbox hg; have hcz23_0 : w22.cell? ⟨gb149, 0, none⟩ = some (.slice A0_0 l0_0.length c0_0) := (blk_cell BK149.out 0).trans rfl; have hfz23_0 := blk_frozen BK149.out 0) | ((with_reducible refine gate_callee (f := 87) rfl ?_); refine goesL_ (some 16) rfl rfl Try.func87 (by kernel_rfl) rfl #[.agg #[.slice A0_0 l0_0.length c0_0], .int .i64 a3, .int .i64 a4] rfl (by (try simp only [List.map_toArray, List.map_cons, List.map_nil]); first | done | rfl | (simp only [List.length_drop, List.length_take]; rfl)) ?_; (with_reducible refine (spec_hiGood.calls k _ _ l0_0 a3 a4 false _ ?side1 ?side2 A7.out).mono ?_); (case side1 => repeat (first | exact (Kd.C_below HR0_0.out HB.out) | (with_reducible refine Kd.C_alloc ?_ _) | (with_reducible refine Kd.C_drewN ?_ _) | (with_reducible refine Kd.C_drew ?_))); (case side2 => exact HC0_0.out); rintro e w24 ⟨rfl, hb⟩; refine ⟨_, rfl, ?_⟩; have n0_ := Aside0.mk (blk_below (g := gb149) (o := .cells #[.slice A0_0 l0_0.length c0_0] 30 (0, 0)) (by (with_reducible repeat (first | refine blk_drewN ?_ _ | refine blk_drew ?_ | refine blk_alloc ?_ _)); exact BK149.out) hb); have n1_ := Aside0.mk (below_step (by repeat (first | (with_reducible first | exact HB.out | apply below_alloc | apply pw_below_drewN | apply below_drew1 | refine below_set ?_ GE149.out) | exact HB.out)) hb); clear BK149; clear HB; have BK149 := n0_; have HB := n1_; clear n0_ n1_; (try clear hb); (try clear hb2); (try clear hk); (try clear hi)))
    go_ret
    exact ⟨by first | rfl | (simp [errW_none, errW_some] <;> rfl) | (simp [*, errW_none, errW_some] <;> rfl), by repeat (first | (with_reducible first | exact HB.out | apply below_alloc | apply pw_below_drewN | apply below_drew1 | refine below_set ?_ GE149.out) | exact HB.out)⟩
mutual
def spec_hiRun.l0 : Nat → Int → Int → Int → Int → List (List Int) → List Int → List Int → Int → Option (List Int × List Int × Int)
  | 0, _, _, _, _, _, _, _, _ => none
  | k + 1, x2, x3, x4, x5, x160000, x165000, x165001, x165002 => if x5 > 0 then (spec_hiRun.l1 k x2 x3 x4 x5 x2 x160000 x165000 x165001 x165002) else (some (x165000, x165001, x165002))
def spec_hiRun.l1 : Nat → Int → Int → Int → Int → Int → List (List Int) → List Int → List Int → Int → Option (List Int × List Int × Int)
  | 0, _, _, _, _, _, _, _, _, _ => none
  | k + 1, x2, x3, x4, x5, x14, x160000, x165000, x165001, x165002 => if x14 = x3 then (if x165000.length < 17592186044416 then (spec_hiRun.l0 k x2 x3 x4 (wrap64 (x5 - 1)) x160000 (x165000 ++ [1]) x165001 x165002) else (none)) else (if x14 = x4 then (if x165000.length < 17592186044416 then (spec_hiRun.l0 k x2 x3 x4 (wrap64 (x5 - 1)) x160000 (x165000 ++ [0]) x165001 x165002) else (none)) else (if 0 ≤ x14 then (if x14 < (x160000.length : Int) then (if x14 < (x165001.length : Int) then (if ((rd_L1 x160000 x14).length : Int) = 0 then (none) else (if 0 ≤ (Int.tmod (wrap64 ((rd x165001 x14) + 1)) ((rd_L1 x160000 x14).length : Int)) then (if (Int.tmod (wrap64 ((rd x165001 x14) + 1)) ((rd_L1 x160000 x14).length : Int)) < ((rd_L1 x160000 x14).length : Int) then (spec_hiRun.l1 k x2 x3 x4 x5 (rd (rd_L1 x160000 x14) (Int.tmod (wrap64 ((rd x165001 x14) + 1)) ((rd_L1 x160000 x14).length : Int))) x160000 x165000 (x165001.set (x14 : Int).toNat (Int.tmod (wrap64 ((rd x165001 x14) + 1)) ((rd_L1 x160000 x14).length : Int))) (wrap64 (x165002 + 1))) else (none)) else (none))) else (none)) else (none)) else (none)))
end
def spec_hiRun.f (k : Nat) (l0_0 : List (List Int)) (l1 : List Int) (a2 : Int) (a3 : Int) (a4 : Int) (a5 : Int) : Option (List Int × List Int × Int) := (spec_l1Own.f l1).bind fun t161 => (spec_hiRun.l0 k a2 a3 a4 a5 l0_0 ([] : List Int) t161 0)
set_option maxHeartbeats 8000000 in
set_option maxRecDepth 100000 in
theorem spec_hiRun.calls (k : Nat) (A0_0 : Option Addr) (c0_0 : Nat) (l0_0 : List (List Int)) (A1 : Option Addr) (c1 : Nat) (l1 : List Int) (a2 : Int) (a3 : Int) (a4 : Int) (a5 : Int) (r1 : List Int) (r2 : List Int) (r3 : Int) (w : World) (hr0_0 : Kd.C (Kd.slice 3 (Kd.int .i64)) w A0_0 l0_0.length l0_0) (hc0_0 : l0_0.length ≤ c0_0) (hr1 : Kd.C (Kd.int .i64) w A1 l1.length l1) (hc1 : l1.length ≤ c1) (h : spec_hiRun.f k l0_0 l1 a2 a3 a4 a5 = some (r1, r2, r3)) :
    Calls Try.prog 83 #[.agg #[.slice A0_0 l0_0.length c0_0], .slice A1 l1.length c1, .int .i64 a2, .int .i64 a3, .int .i64 a4, .int .i64 a5] w fun e w' => ∃ v0_ v1_ : Value, e = .returned (.agg #[v0_, v1_, .int .i64 r3]) ∧ Kd.R (Kd.int .i64) 3 w' w.heap.size (fun k_ => some k_ ≠ (v1_ : Value).ownBlock) v0_ r1 ∧ Kd.R (Kd.int .i64) 3 w' w.heap.size (fun k_ => some k_ ≠ (v0_ : Value).ownBlock) v1_ r2 ∧ Below w.heap.size w w' := by
  have hu30 := Try.underlying30
  have hu80 := Try.underlying80
  have HR0_0 := Aside0.mk hr0_0
  have HC0_0 := Aside0.mk hc0_0
  clear hr0_0 hc0_0
  have HR1 := Aside0.mk hr1
  have HC1 := Aside0.mk hc1
  clear hr1 hc1
  have HB := Aside0.mk (Below.refl w.heap.size w)
  have H : ((spec_l1Own.f l1).bind fun t161 => (spec_hiRun.l0 k a2 a3 a4 a5 l0_0 ([] : List Int) t161 0)) = some (r1, r2, r3) := h
  clear h
  replace H := Option.bind_eq_some_iff.mp H
  obtain ⟨t161, A70, H⟩ := H
  replace H : (spec_hiRun.l0 k a2 a3 a4 a5 l0_0 ([] : List Int) t161 0) = some (r1, r2, r3) := H
  have A7 := Aside0.mk A70
  clear A70
  have H' := Aside0.mk H
  clear H
  go_enter Try.func83, Try.ntmps83
  go_wp2_with (first | ((with_reducible refine gate_dst (N := 6) rfl ?_); refine box_event ?hg (N := 6) ?hd (cs := #[.slice A0_0 l0_0.length c0_0]) (t := 30) ?hr ?_; (case hd => rfl); (case hg => rfl); (case hr => first | (go_simp; done) | (go_simp; rfl)); intro gb159 hg w8 hbox hb; have n0_ := Aside0.mk (below_step (by repeat (first | (with_reducible first | exact HB.out | apply below_alloc | apply pw_below_drewN | apply below_drew1) | exact HB.out)) hb); have n1_ := Aside0.mk (hbox); have n2_ := Aside0.mk ((by rw [hg]; exact (below_size (by repeat (first | (with_reducible first | exact HB.out | apply below_alloc | apply pw_below_drewN | apply below_drew1) | exact HB.out))) : w.heap.size ≤ gb159)); have n3_ := Aside0.mk ((by rw [hg]; exact (below_size (by repeat (first | (with_reducible first | exact HB.out | apply below_alloc | apply pw_below_drewN | apply below_drew1) | exact HB.out))) : w.heap.size ≤ gb159)); clear HB; have HB := n0_; have BK159 := n1_; have GW159 := n2_; have GE159 := n3_; clear n0_ n1_ n2_ n3_; clear hb hbox hg) | ((with_reducible refine gate_dst (N := 12) rfl ?_); refine box_event ?hg (N := 12) ?hd (cs := #[.slice none 0 0, .slice none 0 0, .int .i64 0]) (t := 80) ?hr ?_; (case hd => rfl); (case hg => rfl); (case hr => first | (go_simp; done) | (go_simp; rfl)); intro gb160 hg w9 hbox hb; have n0_ := Aside0.mk (blk_below (g := gb159) (o := .cells #[.slice A0_0 l0_0.length c0_0] 30 (0, 0)) (by (with_reducible repeat (first | refine blk_drewN ?_ _ | refine blk_drew ?_ | refine blk_alloc ?_ _)); exact BK159.out) hb); have n1_ := Aside0.mk (below_step (by repeat (first | (with_reducible first | exact HB.out | apply below_alloc | apply pw_below_drewN | apply below_drew1 | refine below_set ?_ GE159.out) | exact HB.out)) hb); have n2_ := Aside0.mk (hbox); have n3_ := Aside0.mk ((by rw [hg]; exact (below_size (by repeat (first | (with_reducible first | exact HB.out | apply below_alloc | apply pw_below_drewN | apply below_drew1 | refine below_set ?_ GE159.out) | exact HB.out))) : w.heap.size ≤ gb160)); have n4_ := Aside0.mk ((by rw [hg]; exact (below_size (by repeat (first | (with_reducible first | exact HB.out | apply below_alloc | apply pw_below_drewN | apply below_drew1 | refine below_set ?_ GE159.out) | exact HB.out))) : w.heap.size ≤ gb160)); have n5_ := Aside0.mk ((by rw [hg]; exact Nat.ne_of_lt (blk_lt (g := gb159) (o := .cells #[.slice A0_0 l0_0.length c0_0] 30 (0, 0)) (by (with_reducible repeat (first | refine blk_drewN ?_ _ | refine blk_drew ?_ | refine blk_alloc ?_ _)); exact BK159.out)) : gb159 ≠ gb160)); have n6_ := Aside0.mk ((by rw [hg]; exact Nat.ne_of_gt (blk_lt (g := gb159) (o := .cells #[.slice A0_0 l0_0.length c0_0] 30 (0, 0)) (by (with_reducible repeat (first | refine blk_drewN ?_ _ | refine blk_drew ?_ | refine blk_alloc ?_ _)); exact BK159.out)) : gb160 ≠ gb159)); clear BK159; clear HB; have BK159 := n0_; have HB := n1_; have BK160 := n2_; have GW160 := n3_; have GE160 := n4_; have NB159_160 := n5_; have NB160_159 := n6_; clear n0_ n1_ n2_ n3_ n4_ n5_ n6_; clear hb hbox hg) | ((with_reducible refine gate_callee (f := 113) rfl ?_); refine goesL_ (some 19) rfl rfl Try.func113 (by kernel_rfl) rfl #[.slice A1 l1.length c1] rfl (by (try simp only [List.map_toArray, List.map_cons, List.map_nil]); first | done | rfl | (simp only [List.length_drop, List.length_take]; rfl)) ?_; (with_reducible refine (spec_l1Own.calls _ _ l1 t161 _ ?side1 ?side2 A7.out).mono ?_); (case side1 => repeat (first | exact (Kd.C_below HR1.out HB.out) | (with_reducible refine Kd.C_alloc ?_ _) | (with_reducible refine Kd.C_drewN ?_ _) | (with_reducible refine Kd.C_drew ?_))); (case side2 => exact HC1.out); rintro e w10 ⟨v162, rfl, ho0, hb⟩; refine ⟨_, rfl, ?_⟩; have n0_ := Aside0.mk (Kd.R_lower ho0 (below_size (by repeat (first | (with_reducible first | exact HB.out | apply below_alloc | apply pw_below_drewN | apply below_drew1 | refine below_set ?_ GE159.out | refine below_set ?_ GE160.out) | exact HB.out)))); have n1_ := Aside0.mk (blk_below (g := gb159) (o := .cells #[.slice A0_0 l0_0.length c0_0] 30 (0, 0)) (by (with_reducible repeat (first | refine blk_drewN ?_ _ | refine blk_drew ?_ | refine blk_alloc ?_ _)); exact BK159.out) hb); have n2_ := Aside0.mk (blk_below (g := gb160) (o := .cells #[.slice none 0 0, .slice none 0 0, .int .i64 0] 80 (0, 0)) (by (with_reducible repeat (first | refine blk_drewN ?_ _ | refine blk_drew ?_ | refine blk_alloc ?_ _)); exact BK160.out) hb); have n3_ := Aside0.mk (below_step (by repeat (first | (with_reducible first | exact HB.out | apply below_alloc | apply pw_below_drewN | apply below_drew1 | refine below_set ?_ GE159.out | refine below_set ?_ GE160.out) | exact HB.out)) hb); clear BK159; clear BK160; clear HB; have HO163 := n0_; have BK159 := n1_; have BK160 := n2_; have HB := n3_; clear n0_ n1_ n2_ n3_; (try clear hb); (try clear hb2); (try clear hk); (try clear hi); (try clear ho0); obtain ⟨Ao11, co11, eo11⟩ := Kd.R_slice HO163.out; subst eo11) | ((with_reducible refine gate_dst (N := 13) rfl ?_); refine box_event ?hg (N := 13) ?hd (cs := #[.slice none 0 0, .slice none 0 0, .int .i64 0]) (t := 80) ?hr ?_; (case hd => rfl); (case hg => rfl); (case hr => first | (go_simp; done) | (go_simp; rfl)); intro gb164 hg w12 hbox hb; have n0_ := Aside0.mk (Kd.R_below (by (with_reducible repeat (first | apply Kd.R_alloc | apply Kd.R_drewN | apply Kd.R_drew)); exact HO163.out) hb); have n1_ := Aside0.mk (blk_below (g := gb159) (o := .cells #[.slice A0_0 l0_0.length c0_0] 30 (0, 0)) (by (with_reducible repeat (first | refine blk_drewN ?_ _ | refine blk_drew ?_ | refine blk_alloc ?_ _)); exact BK159.out) hb); have n2_ := Aside0.mk (blk_below (g := gb160) (o := .cells #[.slice none 0 0, .slice none 0 0, .int .i64 0] 80 (0, 0)) (by (with_reducible repeat (first | refine blk_drewN ?_ _ | refine blk_drew ?_ | refine blk_alloc ?_ _)); exact BK160.out) hb); have n3_ := Aside0.mk (below_step (by repeat (first | (with_reducible first | exact HB.out | apply below_alloc | apply pw_below_drewN | apply below_drew1 | refine below_set ?_ GE159.out | refine below_set ?_ GE160.out) | exact HB.out)) hb); have n4_ := Aside0.mk (hbox); have n5_ := Aside0.mk ((by rw [hg]; exact (below_size (by repeat (first | (with_reducible first | exact HB.out | apply below_alloc | apply pw_below_drewN | apply below_drew1 | refine below_set ?_ GE159.out | refine below_set ?_ GE160.out) | exact HB.out))) : w.heap.size ≤ gb164)); have n6_ := Aside0.mk ((by rw [hg]; exact (below_size (by repeat (first | (with_reducible first | exact HB.out | apply below_alloc | apply pw_below_drewN | apply below_drew1 | refine below_set ?_ GE159.out | refine below_set ?_ GE160.out) | exact HB.out))) : w.heap.size ≤ gb164)); have n7_ := Aside0.mk ((by rw [hg]; exact Nat.ne_of_lt (blk_lt (g := gb159) (o := .cells #[.slice A0_0 l0_0.length c0_0] 30 (0, 0)) (by (with_reducible repeat (first | refine blk_drewN ?_ _ | refine blk_drew ?_ | refine blk_alloc ?_ _)); exact BK159.out)) : gb159 ≠ gb164)); have n8_ := Aside0.mk ((by rw [hg]; exact Nat.ne_of_gt (blk_lt (g := gb159) (o := .cells #[.slice A0_0 l0_0.length c0_0] 30 (0, 0)) (by (with_reducible repeat (first | refine blk_drewN ?_ _ | refine blk_drew ?_ | refine blk_alloc ?_ _)); exact BK159.out)) : gb164 ≠ gb159)); have n9_ := Aside0.mk ((by rw [hg]; exact Nat.ne_of_lt (blk_lt (g := gb160) (o := .cells #[.slice none 0 0, .slice none 0 0, .int .i64 0] 80 (0, 0)) (by (with_reducible repeat (first | refine blk_drewN ?_ _ | refine blk_drew ?_ | refine blk_alloc ?_ _)); exact BK160.out)) : gb160 ≠ gb164)); have n10_ := Aside0.mk ((by rw [hg]; exact Nat.ne_of_gt (blk_lt (g := gb160) (o := .cells #[.slice none 0 0, .slice none 0 0, .int .i64 0] 80 (0, 0)) (by (with_reducible repeat (first | refine blk_drewN ?_ _ | refine blk_drew ?_ | refine blk_alloc ?_ _)); exact BK160.out)) : gb164 ≠ gb160)); clear HO163; clear BK159; clear BK160; clear HB; have HO163 := n0_; have BK159 := n1_; have BK160 := n2_; have HB := n3_; have BK164 := n4_; have GW164 := n5_; have GE164 := n6_; have NB159_164 := n7_; have NB164_159 := n8_; have NB160_164 := n9_; have NB164_160 := n10_; clear n0_ n1_ n2_ n3_ n4_ n5_ n6_ n7_ n8_ n9_ n10_; clear hb hbox hg; have hnb13 := NB164_159.out; have hnc13 := NB159_164.out; have hnb14 := NB164_160.out; have hnc14 := NB160_164.out; have hcz15_0 : w12.cell? ⟨gb164, 0, none⟩ = some (.slice none 0 0) := (blk_cell BK164.out 0).trans rfl; have hcz15_1 : w12.cell? ⟨gb164, 1, none⟩ = some (.slice none 0 0) := (blk_cell BK164.out 1).trans rfl; have hcz15_2 : w12.cell? ⟨gb164, 2, none⟩ = some (.int .i64 0) := (blk_cell BK164.out 2).trans rfl; have hfz15_0 := blk_frozen BK164.out 0; have hfz15_1 := blk_frozen BK164.out 1; have hfz15_2 := blk_frozen BK164.out 2))
  go_loopg [5] k (fun kq v5 w' => ∃ (x5_1 : Int) (x165000_1 : List Int) (x165001_1 : List Int) (x165002_1 : Int) (u165000 : Value) (u165001 : Value), v5 = .int .i64 x5_1 ∧ Aside0 (spec_hiRun.l0 kq a2 a3 a4 x5_1 l0_0 x165000_1 x165001_1 x165002_1 = some (r1, r2, r3)) ∧ Aside0 (kq ≤ k) ∧ Aside0 (Kd.R (Kd.int .i64) 3 w' w.heap.size (fun k_ => some k_ ≠ (u165001 : Value).ownBlock) u165000 x165000_1) ∧ Aside0 (Kd.R (Kd.int .i64) 3 w' w.heap.size (fun k_ => some k_ ≠ (u165000 : Value).ownBlock) u165001 x165001_1) ∧ Aside0 (w'.heap[gb159]? = some (.cells #[(.slice A0_0 l0_0.length c0_0)] 30 (0, 0))) ∧ Aside0 (w'.heap[gb160]? = some (.cells #[(.slice none 0 0), (.slice none 0 0), .int .i64 0] 80 (0, 0))) ∧ Aside0 (w'.heap[gb164]? = some (.cells #[u165000, u165001, .int .i64 x165002_1] 80 (0, 0))) ∧ Aside0 (Below w.heap.size w w'))
  case atStart => exact ⟨(a5), (([] : List Int)), (t161), (0), (.slice none 0 0), (.slice Ao11 t161.length co11), (by first | rfl | (simp; done) | (simp [*]; done)), H', ⟨Nat.le_refl _⟩, ⟨by first | exact Kd.R_nil _ _ _ _ _ | exact Kd.N_nil _ _ _ _ _ | exact Kd.V_nil _ _ _ _ _ | exact Kd.Q_nil _ _ _ _ _ | exact Kd.S_nil _ _ _ _ _⟩, ⟨by (with_reducible repeat (first | apply Kd.R_alloc | apply Kd.R_drewN | apply Kd.R_drew)); exact Kd.R_mono (Kd.R_far (p := ⟨gb164, 2, none⟩) (Kd.R_far (p := ⟨gb164, 1, none⟩) (Kd.R_far (p := ⟨gb164, 0, none⟩) (Kd.R_types HO163.out BK164.out (by decide)) (fun _ hk => hk.2) (.slice none 0 0)) (fun _ hk => hk.2) (.slice Ao11 t161.length co11)) (fun _ hk => hk.2) (.int .i64 0)) (fun _ hk => (by simp [Value.ownBlock]))⟩, ⟨by (with_reducible repeat (first | refine blk_drewN ?_ _ | refine blk_drew ?_ | refine blk_alloc ?_ _)); refine blk_far ?_ NB159_164.out _; (with_reducible repeat (first | refine blk_drewN ?_ _ | refine blk_drew ?_ | refine blk_alloc ?_ _)); refine blk_far ?_ NB159_164.out _; (with_reducible repeat (first | refine blk_drewN ?_ _ | refine blk_drew ?_ | refine blk_alloc ?_ _)); refine blk_far ?_ NB159_164.out _; (with_reducible repeat (first | refine blk_drewN ?_ _ | refine blk_drew ?_ | refine blk_alloc ?_ _)); exact BK159.out⟩, ⟨by (with_reducible repeat (first | refine blk_drewN ?_ _ | refine blk_drew ?_ | refine blk_alloc ?_ _)); refine blk_far ?_ NB160_164.out _; (with_reducible repeat (first | refine blk_drewN ?_ _ | refine blk_drew ?_ | refine blk_alloc ?_ _)); refine blk_far ?_ NB160_164.out _; (with_reducible repeat (first | refine blk_drewN ?_ _ | refine blk_drew ?_ | refine blk_alloc ?_ _)); refine blk_far ?_ NB160_164.out _; (with_reducible repeat (first | refine blk_drewN ?_ _ | refine blk_drew ?_ | refine blk_alloc ?_ _)); exact BK160.out⟩, ⟨by (with_reducible repeat (first | refine blk_drewN ?_ _ | refine blk_drew ?_ | refine blk_alloc ?_ _)); refine blk_put (cs := #[.slice none 0 0, .slice Ao11 t161.length co11, .int .i64 0]) ?_ 2 _ rfl; (with_reducible repeat (first | refine blk_drewN ?_ _ | refine blk_drew ?_ | refine blk_alloc ?_ _)); refine blk_put (cs := #[.slice none 0 0, .slice none 0 0, .int .i64 0]) ?_ 1 _ rfl; (with_reducible repeat (first | refine blk_drewN ?_ _ | refine blk_drew ?_ | refine blk_alloc ?_ _)); refine blk_put (cs := #[.slice none 0 0, .slice none 0 0, .int .i64 0]) ?_ 0 _ rfl; (with_reducible repeat (first | refine blk_drewN ?_ _ | refine blk_drew ?_ | refine blk_alloc ?_ _)); exact BK164.out⟩, ⟨by repeat (first | (with_reducible first | exact HB.out | apply below_alloc | apply pw_below_drewN | apply below_drew1 | refine below_set ?_ GE159.out | refine below_set ?_ GE160.out | refine below_set ?_ GE164.out) | exact HB.out)⟩⟩
  case round =>
    clear H'
    try clear c1
    try clear p2
    try clear c8
    try clear c11
    try clear c13
    try clear c14
    try clear hcz15_0
    try clear hcz15_1
    try clear hcz15_2
    try clear hfz15_0
    try clear hfz15_1
    try clear hfz15_2
    obtain ⟨x5_1, x165000_1, x165001_1, x165002_1, u165000, u165001, rfl, HA, HK1, HO_165000, HO_165001, BK159, BK160, BK164, HB⟩ := hrel
    cases gk with
    | zero => exact absurd HA.out (by simp [spec_hiRun.l0])
    | succ k1 =>
      have H := HA.out
      clear HA
      simp only [spec_hiRun.l0] at H
      by_cases c16 : x5_1 > 0
      · rw [if_pos c16] at H
        have c16b0 : decide (0 < x5_1) = true := decide_eq_true c16
        clear c16
        have H' := Aside0.mk H
        clear H
        go_wp2
        go_loopg [14] k1 (fun kq v14 w' => ∃ (x14_2 : Int) (x165000_2 : List Int) (x165001_2 : List Int) (x165002_2 : Int) (u165000 : Value) (u165001 : Value), v14 = .int .i64 x14_2 ∧ Aside0 (spec_hiRun.l1 kq a2 a3 a4 x5_1 x14_2 l0_0 x165000_2 x165001_2 x165002_2 = some (r1, r2, r3)) ∧ Aside0 (kq ≤ k1) ∧ Aside0 (Kd.R (Kd.int .i64) 3 w' w.heap.size (fun k_ => some k_ ≠ (u165001 : Value).ownBlock) u165000 x165000_2) ∧ Aside0 (Kd.R (Kd.int .i64) 3 w' w.heap.size (fun k_ => some k_ ≠ (u165000 : Value).ownBlock) u165001 x165001_2) ∧ Aside0 (w'.heap[gb159]? = some (.cells #[(.slice A0_0 l0_0.length c0_0)] 30 (0, 0))) ∧ Aside0 (w'.heap[gb160]? = some (.cells #[(.slice none 0 0), (.slice none 0 0), .int .i64 0] 80 (0, 0))) ∧ Aside0 (w'.heap[gb164]? = some (.cells #[u165000, u165001, .int .i64 x165002_2] 80 (0, 0))) ∧ Aside0 (Below w.heap.size w w'))
        case atStart => exact ⟨(a2), (x165000_1), (x165001_1), (x165002_1), (u165000), (u165001), (by first | rfl | (simp; done) | (simp [*]; done)), H', ⟨Nat.le_refl _⟩, ⟨by (with_reducible repeat (first | apply Kd.R_alloc | apply Kd.R_drewN | apply Kd.R_drew)); exact HO_165000.out⟩, ⟨by (with_reducible repeat (first | apply Kd.R_alloc | apply Kd.R_drewN | apply Kd.R_drew)); exact HO_165001.out⟩, ⟨by (with_reducible repeat (first | refine blk_drewN ?_ _ | refine blk_drew ?_ | refine blk_alloc ?_ _)); exact BK159.out⟩, ⟨by (with_reducible repeat (first | refine blk_drewN ?_ _ | refine blk_drew ?_ | refine blk_alloc ?_ _)); exact BK160.out⟩, ⟨by (with_reducible repeat (first | refine blk_drewN ?_ _ | refine blk_drew ?_ | refine blk_alloc ?_ _)); exact BK164.out⟩, ⟨by repeat (first | (with_reducible first | exact HB.out | apply below_alloc | apply pw_below_drewN | apply below_drew1 | refine below_set ?_ GE159.out | refine below_set ?_ GE160.out | refine below_set ?_ GE164.out) | exact HB.out)⟩⟩
        case round =>
          clear H'
          try clear c1
          try clear p2
          try clear c8
          try clear c11
          try clear c13
          try clear c14
          try clear c16
          try clear c16b0
          try clear hcz15_0
          try clear hcz15_1
          try clear hcz15_2
          try clear hfz15_0
          try clear hfz15_1
          try clear hfz15_2
          try clear p2
          obtain ⟨x14_2, x165000_2, x165001_2, x165002_2, u165000, u165001, rfl, HA, HK2, HO_165000, HO_165001, BK159, BK160, BK164, HB⟩ := hrel
          cases gk with
          | zero => exact absurd HA.out (by simp [spec_hiRun.l1])
          | succ k2 =>
            have H := HA.out
            clear HA
            simp only [spec_hiRun.l1] at H
            by_cases c17 : x14_2 = a3
            · rw [if_pos c17] at H
              have c17b0 : (x14_2 == a3) = true := beq_iff_eq.mpr c17
              have c17b1 : (x14_2 != a3) = false := bne_eq_false_iff_eq.mpr c17
              clear c17
              by_cases c18 : x165000_2.length < 17592186044416
              · rw [if_pos c18] at H
                have LMc18 := Aside0.mk c18
                clear c18
                obtain ⟨y165, hy165⟩ : ∃ y_ : List Int, y_ = (x165000_2 ++ [1]) := ⟨_, rfl⟩
                replace H : (spec_hiRun.l0 k2 a2 a3 a4 (wrap64 (x5_1 - 1)) l0_0 y165 x165001_2 x165002_2) = some (r1, r2, r3) := by first | (rw [hy165]; with_reducible exact H) | (have H2_ := (Option.bind_some _ _).symm.trans H; rw [hy165]; with_reducible exact H2_) | (have H2_ := (Option.bind_some _ _).symm.trans H; with_reducible exact H2_) | with_reducible exact H | (rw [hy165]; exact H) | exact H
                have Ny165 := Aside0.mk hy165
                clear hy165
                have H' := Aside0.mk H
                clear H
                have hnb19 := NB164_159.out
                have hnc19 := NB159_164.out
                have hnb20 := NB164_160.out
                have hnc20 := NB160_164.out
                have hcz21_0 : wr.cell? ⟨gb164, 0, none⟩ = some (u165000) := (blk_cell BK164.out 0).trans rfl
                have hcz21_1 : wr.cell? ⟨gb164, 1, none⟩ = some (u165001) := (blk_cell BK164.out 1).trans rfl
                have hcz21_2 : wr.cell? ⟨gb164, 2, none⟩ = some (.int .i64 x165002_2) := (blk_cell BK164.out 2).trans rfl
                have hfz21_0 := blk_frozen BK164.out 0
                have hfz21_1 := blk_frozen BK164.out 1
                have hfz21_2 := blk_frozen BK164.out 2
                go_wp2_with (first | ((with_reducible refine gate_builtin (b := .append) (xs := #[.tmp 65, .tmp 67]) rfl ?_); at_builtin; refine Kd.R_append (Kd.int .i64) (w0 := w) w.heap.size rfl (.tmp 65) (.tmp 67) 37 3 (.int .i64 0) 8 rfl Try.underlying37 info3 rfl (by decide) (by omega) u165000 x165000_2 1 [.int .i64 1] (fun k_ => some k_ ≠ (u165001 : Value).ownBlock) (fun _ => False) rfl rfl ?aP (fun _ hk => hk.elim) ?aF ?aO ?aB ?aS ?aL ?_; (case aP => exact rfl); (case aB => exact (by repeat (first | (with_reducible first | exact HB.out | apply below_alloc | apply pw_below_drewN | apply below_drew1 | refine below_set ?_ GE159.out | refine below_set ?_ GE160.out | refine below_set ?_ GE164.out) | exact HB.out))); (case aF => exact (fun k_ hk => Kd.fresh' (Kd.R_lt (by (with_reducible repeat (first | apply Kd.R_alloc | apply Kd.R_drewN | apply Kd.R_drew)); exact HO_165001.out)) k_ hk)); (case aO => exact (by (with_reducible repeat (first | apply Kd.R_alloc | apply Kd.R_drewN | apply Kd.R_drew)); exact HO_165000.out)); (case aS => exact (below_size (by repeat (first | (with_reducible first | exact HB.out | apply below_alloc | apply pw_below_drewN | apply below_drew1 | refine below_set ?_ GE159.out | refine below_set ?_ GE160.out | refine below_set ?_ GE164.out) | exact HB.out)))); (case aL => have := LMc18.out; omega); intro v166 w22 ho hb hg hat; rw [← Ny165.out] at ho; have n0_ := Aside0.mk (Kd.R_after (ok := (fun _ => True)) (by (with_reducible repeat (first | apply Kd.R_alloc | apply Kd.R_drewN | apply Kd.R_drew)); exact Kd.R_mono HO_165001.out (fun _ hk => ⟨trivial, hk⟩)) hg hat); have n1_ := Aside0.mk (blk_grown (g := gb159) (o := .cells #[.slice A0_0 l0_0.length c0_0] 30 (0, 0)) (by (with_reducible repeat (first | refine blk_drewN ?_ _ | refine blk_drew ?_ | refine blk_alloc ?_ _)); exact BK159.out) hg (Kd.R_ne HO_165000.out BK159.out (by decide))); have n2_ := Aside0.mk (blk_grown (g := gb160) (o := .cells #[.slice none 0 0, .slice none 0 0, .int .i64 0] 80 (0, 0)) (by (with_reducible repeat (first | refine blk_drewN ?_ _ | refine blk_drew ?_ | refine blk_alloc ?_ _)); exact BK160.out) hg (Kd.R_ne HO_165000.out BK160.out (by decide))); have n3_ := Aside0.mk (blk_grown (g := gb164) (o := .cells #[u165000, u165001, .int .i64 x165002_2] 80 (0, 0)) (by (with_reducible repeat (first | refine blk_drewN ?_ _ | refine blk_drew ?_ | refine blk_alloc ?_ _)); exact BK164.out) hg (Kd.R_ne HO_165000.out BK164.out (by decide))); have n4_ := Aside0.mk (hb); have n5_ := Aside0.mk (ho); clear HO_165001; clear BK159; clear BK160; clear BK164; clear HB; clear HO_165000; have HO_165001 := n0_; have BK159 := n1_; have BK160 := n2_; have BK164 := n3_; have HB := n4_; have HO167 := n5_; clear n0_ n1_ n2_ n3_ n4_ n5_; clear ho hb hg hat; obtain ⟨Ao23, co23, eo23⟩ := Kd.R_slice HO167.out; subst eo23; have hcz24_0 : w22.cell? ⟨gb164, 0, none⟩ = some (u165000) := (blk_cell BK164.out 0).trans rfl; have hcz24_1 : w22.cell? ⟨gb164, 1, none⟩ = some (u165001) := (blk_cell BK164.out 1).trans rfl; have hcz24_2 : w22.cell? ⟨gb164, 2, none⟩ = some (.int .i64 x165002_2) := (blk_cell BK164.out 2).trans rfl; have hfz24_0 := blk_frozen BK164.out 0; have hfz24_1 := blk_frozen BK164.out 1; have hfz24_2 := blk_frozen BK164.out 2))
                go_roundg k2
                case measure => have := HK1.out; have := HK2.out; omega
                case rel => exact ⟨(wrap64 (x5_1 - 1)), (y165), (x165001_2), (x165002_2), (.slice Ao23 y165.length co23), (u165001), (by first | rfl | (simp; done) | (simp [*]; done)), H', ⟨by have := HK1.out; have := HK2.out; omega⟩, ⟨by (with_reducible repeat (first | apply Kd.R_alloc | apply Kd.R_drewN | apply Kd.R_drew)); exact Kd.R_mono (Kd.R_far (p := ⟨gb164, 0, none⟩) (Kd.R_types HO167.out BK164.out (by decide)) (fun _ hk => hk.2) (.slice Ao23 y165.length co23)) (fun _ hk => hk.1)⟩, ⟨by (with_reducible repeat (first | apply Kd.R_alloc | apply Kd.R_drewN | apply Kd.R_drew)); exact Kd.R_mono (Kd.R_far (p := ⟨gb164, 0, none⟩) (Kd.R_types HO_165001.out BK164.out (by decide)) (fun _ hk => hk.2) (.slice Ao23 y165.length co23)) (fun _ hk => hk.1.2)⟩, ⟨by (with_reducible repeat (first | refine blk_drewN ?_ _ | refine blk_drew ?_ | refine blk_alloc ?_ _)); refine blk_far ?_ NB159_164.out _; (with_reducible repeat (first | refine blk_drewN ?_ _ | refine blk_drew ?_ | refine blk_alloc ?_ _)); exact BK159.out⟩, ⟨by (with_reducible repeat (first | refine blk_drewN ?_ _ | refine blk_drew ?_ | refine blk_alloc ?_ _)); refine blk_far ?_ NB160_164.out _; (with_reducible repeat (first | refine blk_drewN ?_ _ | refine blk_drew ?_ | refine blk_alloc ?_ _)); exact BK160.out⟩, ⟨by (with_reducible repeat (first | refine blk_drewN ?_ _ | refine blk_drew ?_ | refine blk_alloc ?_ _)); refine blk_put (cs := #[u165000, u165001, .int .i64 x165002_2]) ?_ 0 _ rfl; (with_reducible repeat (first | refine blk_drewN ?_ _ | refine blk_drew ?_ | refine blk_alloc ?_ _)); exact BK164.out⟩, ⟨by repeat (first | (with_reducible first | exact HB.out | apply below_alloc | apply pw_below_drewN | apply below_drew1 | refine below_set ?_ GE159.out | refine below_set ?_ GE160.out | refine below_set ?_ GE164.out) | exact HB.out)⟩⟩
              · rw [if_neg c18] at H
                exact absurd H (by simp)
            · rw [if_neg c17] at H
              have c17b0 : (x14_2 == a3) = false := beq_eq_false_iff_ne.mpr c17
              have c17b1 : (x14_2 != a3) = true := bne_iff_ne.mpr c17
              by_cases c25 : x14_2 = a4
              · rw [if_pos c25] at H
                have c25b0 : (x14_2 == a4) = true := beq_iff_eq.mpr c25
                have c25b1 : (x14_2 != a4) = false := bne_eq_false_iff_eq.mpr c25
                clear c25
                by_cases c26 : x165000_2.length < 17592186044416
                · rw [if_pos c26] at H
                  have LMc26 := Aside0.mk c26
                  clear c26
                  obtain ⟨y168, hy168⟩ : ∃ y_ : List Int, y_ = (x165000_2 ++ [0]) := ⟨_, rfl⟩
                  replace H : (spec_hiRun.l0 k2 a2 a3 a4 (wrap64 (x5_1 - 1)) l0_0 y168 x165001_2 x165002_2) = some (r1, r2, r3) := by first | (rw [hy168]; with_reducible exact H) | (have H2_ := (Option.bind_some _ _).symm.trans H; rw [hy168]; with_reducible exact H2_) | (have H2_ := (Option.bind_some _ _).symm.trans H; with_reducible exact H2_) | with_reducible exact H | (rw [hy168]; exact H) | exact H
                  have Ny168 := Aside0.mk hy168
                  clear hy168
                  have H' := Aside0.mk H
                  clear H
                  have hnb27 := NB164_159.out
                  have hnc27 := NB159_164.out
                  have hnb28 := NB164_160.out
                  have hnc28 := NB160_164.out
                  have hcz29_0 : wr.cell? ⟨gb164, 0, none⟩ = some (u165000) := (blk_cell BK164.out 0).trans rfl
                  have hcz29_1 : wr.cell? ⟨gb164, 1, none⟩ = some (u165001) := (blk_cell BK164.out 1).trans rfl
                  have hcz29_2 : wr.cell? ⟨gb164, 2, none⟩ = some (.int .i64 x165002_2) := (blk_cell BK164.out 2).trans rfl
                  have hfz29_0 := blk_frozen BK164.out 0
                  have hfz29_1 := blk_frozen BK164.out 1
                  have hfz29_2 := blk_frozen BK164.out 2
                  go_wp2_with (first | ((with_reducible refine gate_builtin (b := .append) (xs := #[.tmp 65, .tmp 67]) rfl ?_); at_builtin; refine Kd.R_append (Kd.int .i64) (w0 := w) w.heap.size rfl (.tmp 65) (.tmp 67) 37 3 (.int .i64 0) 8 rfl Try.underlying37 info3 rfl (by decide) (by omega) u165000 x165000_2 0 [.int .i64 0] (fun k_ => some k_ ≠ (u165001 : Value).ownBlock) (fun _ => False) rfl rfl ?aP (fun _ hk => hk.elim) ?aF ?aO ?aB ?aS ?aL ?_; (case aP => exact rfl); (case aB => exact (by repeat (first | (with_reducible first | exact HB.out | apply below_alloc | apply pw_below_drewN | apply below_drew1 | refine below_set ?_ GE159.out | refine below_set ?_ GE160.out | refine below_set ?_ GE164.out) | exact HB.out))); (case aF => exact (fun k_ hk => Kd.fresh' (Kd.R_lt (by (with_reducible repeat (first | apply Kd.R_alloc | apply Kd.R_drewN | apply Kd.R_drew)); exact HO_165001.out)) k_ hk)); (case aO => exact (by (with_reducible repeat (first | apply Kd.R_alloc | apply Kd.R_drewN | apply Kd.R_drew)); exact HO_165000.out)); (case aS => exact (below_size (by repeat (first | (with_reducible first | exact HB.out | apply below_alloc | apply pw_below_drewN | apply below_drew1 | refine below_set ?_ GE159.out | refine below_set ?_ GE160.out | refine below_set ?_ GE164.out) | exact HB.out)))); (case aL => have := LMc26.out; omega); intro v169 w30 ho hb hg hat; rw [← Ny168.out] at ho; have n0_ := Aside0.mk (Kd.R_after (ok := (fun _ => True)) (by (with_reducible repeat (first | apply Kd.R_alloc | apply Kd.R_drewN | apply Kd.R_drew)); exact Kd.R_mono HO_165001.out (fun _ hk => ⟨trivial, hk⟩)) hg hat); have n1_ := Aside0.mk (blk_grown (g := gb159) (o := .cells #[.slice A0_0 l0_0.length c0_0] 30 (0, 0)) (by (with_reducible repeat (first | refine blk_drewN ?_ _ | refine blk_drew ?_ | refine blk_alloc ?_ _)); exact BK159.out) hg (Kd.R_ne HO_165000.out BK159.out (by decide))); have n2_ := Aside0.mk (blk_grown (g := gb160) (o := .cells #[.slice none 0 0, .slice none 0 0, .int .i64 0] 80 (0, 0)) (by (with_reducible repeat (first | refine blk_drewN ?_ _ | refine blk_drew ?_ | refine blk_alloc ?_ _)); exact BK160.out) hg (Kd.R_ne HO_165000.out BK160.out (by decide))); have n3_ := Aside0.mk (blk_grown (g := gb164) (o := .cells #[u165000, u165001, .int .i64 x165002_2] 80 (0, 0)) (by (with_reducible repeat (first | refine blk_drewN ?_ _ | refine blk_drew ?_ | refine blk_alloc ?_ _)); exact BK164.out) hg (Kd.R_ne HO_165000.out BK164.out (by decide))); have n4_ := Aside0.mk (hb); have n5_ := Aside0.mk (ho); clear HO_165001; clear BK159; clear BK160; clear BK164; clear HB; clear HO_165000; have HO_165001 := n0_; have BK159 := n1_; have BK160 := n2_; have BK164 := n3_; have HB := n4_; have HO170 := n5_; clear n0_ n1_ n2_ n3_ n4_ n5_; clear ho hb hg hat; obtain ⟨Ao31, co31, eo31⟩ := Kd.R_slice HO170.out; subst eo31; have hcz32_0 : w30.cell? ⟨gb164, 0, none⟩ = some (u165000) := (blk_cell BK164.out 0).trans rfl; have hcz32_1 : w30.cell? ⟨gb164, 1, none⟩ = some (u165001) := (blk_cell BK164.out 1).trans rfl; have hcz32_2 : w30.cell? ⟨gb164, 2, none⟩ = some (.int .i64 x165002_2) := (blk_cell BK164.out 2).trans rfl; have hfz32_0 := blk_frozen BK164.out 0; have hfz32_1 := blk_frozen BK164.out 1; have hfz32_2 := blk_frozen BK164.out 2))
                  go_roundg k2
                  case measure => have := HK1.out; have := HK2.out; omega
                  case rel => exact ⟨(wrap64 (x5_1 - 1)), (y168), (x165001_2), (x165002_2), (.slice Ao31 y168.length co31), (u165001), (by first | rfl | (simp; done) | (simp [*]; done)), H', ⟨by have := HK1.out; have := HK2.out; omega⟩, ⟨by (with_reducible repeat (first | apply Kd.R_alloc | apply Kd.R_drewN | apply Kd.R_drew)); exact Kd.R_mono (Kd.R_far (p := ⟨gb164, 0, none⟩) (Kd.R_types HO170.out BK164.out (by decide)) (fun _ hk => hk.2) (.slice Ao31 y168.length co31)) (fun _ hk => hk.1)⟩, ⟨by (with_reducible repeat (first | apply Kd.R_alloc | apply Kd.R_drewN | apply Kd.R_drew)); exact Kd.R_mono (Kd.R_far (p := ⟨gb164, 0, none⟩) (Kd.R_types HO_165001.out BK164.out (by decide)) (fun _ hk => hk.2) (.slice Ao31 y168.length co31)) (fun _ hk => hk.1.2)⟩, ⟨by (with_reducible repeat (first | refine blk_drewN ?_ _ | refine blk_drew ?_ | refine blk_alloc ?_ _)); refine blk_far ?_ NB159_164.out _; (with_reducible repeat (first | refine blk_drewN ?_ _ | refine blk_drew ?_ | refine blk_alloc ?_ _)); exact BK159.out⟩, ⟨by (with_reducible repeat (first | refine blk_drewN ?_ _ | refine blk_drew ?_ | refine blk_alloc ?_ _)); refine blk_far ?_ NB160_164.out _; (with_reducible repeat (first | refine blk_drewN ?_ _ | refine blk_drew ?_ | refine blk_alloc ?_ _)); exact BK160.out⟩, ⟨by (with_reducible repeat (first | refine blk_drewN ?_ _ | refine blk_drew ?_ | refine blk_alloc ?_ _)); refine blk_put (cs := #[u165000, u165001, .int .i64 x165002_2]) ?_ 0 _ rfl; (with_reducible repeat (first | refine blk_drewN ?_ _ | refine blk_drew ?_ | refine blk_alloc ?_ _)); exact BK164.out⟩, ⟨by repeat (first | (with_reducible first | exact HB.out | apply below_alloc | apply pw_below_drewN | apply below_drew1 | refine below_set ?_ GE159.out | refine below_set ?_ GE160.out | refine below_set ?_ GE164.out) | exact HB.out)⟩⟩
                · rw [if_neg c26] at H
                  exact absurd H (by simp)
              · rw [if_neg c25] at H
                have c25b0 : (x14_2 == a4) = false := beq_eq_false_iff_ne.mpr c25
                have c25b1 : (x14_2 != a4) = true := bne_iff_ne.mpr c25
                by_cases c33 : 0 ≤ x14_2
                · rw [if_pos c33] at H
                  have c33b0 : decide (0 ≤ x14_2) = true := decide_eq_true c33
                  clear c33
                  by_cases c34 : x14_2 < (l0_0.length : Int)
                  · rw [if_pos c34] at H
                    have c34b0 : decide (x14_2 < (l0_0.length : Int)) = true := decide_eq_true c34
                    clear c34
                    by_cases c35 : x14_2 < (x165001_2.length : Int)
                    · rw [if_pos c35] at H
                      have c35b0 : decide (x14_2 < (x165001_2.length : Int)) = true := decide_eq_true c35
                      clear c35
                      by_cases c36 : ((rd_L1 l0_0 x14_2).length : Int) = 0
                      · rw [if_pos c36] at H
                        exact absurd H (by simp)
                      · rw [if_neg c36] at H
                        have c36b0 : (((rd_L1 l0_0 x14_2).length : Int) == 0) = false := beq_eq_false_iff_ne.mpr c36
                        have c36b1 : (((rd_L1 l0_0 x14_2).length : Int) != 0) = true := bne_iff_ne.mpr c36
                        have c36b2 : ¬ ((rd_L1 l0_0 x14_2) = []) := fun h_ => c36 (by rw [h_]; rfl)
                        obtain ⟨y173, hy173⟩ : ∃ y_ : List Int, y_ = (x165001_2.set (x14_2 : Int).toNat (Int.tmod (wrap64 ((rd x165001_2 x14_2) + 1)) ((rd_L1 l0_0 x14_2).length : Int))) := ⟨_, rfl⟩
                        replace H : (if 0 ≤ (Int.tmod (wrap64 ((rd x165001_2 x14_2) + 1)) ((rd_L1 l0_0 x14_2).length : Int)) then (if (Int.tmod (wrap64 ((rd x165001_2 x14_2) + 1)) ((rd_L1 l0_0 x14_2).length : Int)) < ((rd_L1 l0_0 x14_2).length : Int) then (spec_hiRun.l1 k2 a2 a3 a4 x5_1 (rd (rd_L1 l0_0 x14_2) (Int.tmod (wrap64 ((rd x165001_2 x14_2) + 1)) ((rd_L1 l0_0 x14_2).length : Int))) l0_0 x165000_2 y173 (wrap64 (x165002_2 + 1))) else (none)) else (none)) = some (r1, r2, r3) := by first | (rw [hy173]; with_reducible exact H) | (have H2_ := (Option.bind_some _ _).symm.trans H; rw [hy173]; with_reducible exact H2_) | (have H2_ := (Option.bind_some _ _).symm.trans H; with_reducible exact H2_) | with_reducible exact H | (rw [hy173]; exact H) | exact H
                        have Ny173 := Aside0.mk hy173
                        clear hy173
                        obtain ⟨ji38, hji38⟩ : ∃ j_ : Int, (Int.tmod (wrap64 ((rd x165001_2 x14_2) + 1)) ((rd_L1 l0_0 x14_2).length : Int)) = j_ := ⟨_, rfl⟩
                        replace H : (if 0 ≤ (ji38) then (if (ji38) < ((rd_L1 l0_0 x14_2).length : Int) then (spec_hiRun.l1 k2 a2 a3 a4 x5_1 (rd (rd_L1 l0_0 x14_2) (ji38)) l0_0 x165000_2 y173 (wrap64 (x165002_2 + 1))) else (none)) else (none)) = some (r1, r2, r3) := by first | (rw [hji38] at H; exact H) | (simp only [hji38] at H ⊢; exact H)
                        (try rw [hji38] at Ny173)
                        by_cases c39 : 0 ≤ (ji38)
                        · rw [if_pos c39] at H
                          have c39b0 : decide (0 ≤ (ji38)) = true := decide_eq_true c39
                          clear c39
                          by_cases c40 : (ji38) < ((rd_L1 l0_0 x14_2).length : Int)
                          · rw [if_pos c40] at H
                            have c40b0 : decide ((ji38) < ((rd_L1 l0_0 x14_2).length : Int)) = true := decide_eq_true c40
                            clear c40
                            have H' := Aside0.mk H
                            clear H
                            have hnb41 := NB159_160.out
                            have hnc41 := NB160_159.out
                            have hnb42 := NB159_164.out
                            have hnc42 := NB164_159.out
                            have hcz43_0 : wr.cell? ⟨gb159, 0, none⟩ = some (.slice A0_0 l0_0.length c0_0) := (blk_cell BK159.out 0).trans rfl
                            have hfz43_0 := blk_frozen BK159.out 0
                            have p171 : 0 ≤ (x14_2 : Int) := of_decide_eq_true (by first | (with_reducible assumption) | assumption)
                            have q171 : x14_2 < (l0_0.length : Int) := of_decide_eq_true (by first | (with_reducible assumption) | assumption)
                            obtain ⟨ad171, A171_0, c171_0, e171, hx171_0, hl171_0, hi171_0⟩ := at_L1 HR0_0.out x14_2 p171 q171
                            cases e171
                            replace hx171_0 := (HB.out.cell (World.block_lt_of_cell? w _ hx171_0)).trans hx171_0
                            have HR171_0 := Aside0.mk hi171_0
                            have HC171_0 := Aside0.mk hl171_0
                            clear hi171_0 hl171_0
                            replace p171 := eq_true p171
                            replace q171 := eq_true q171
                            have hnb44 := NB164_160.out
                            have hnc44 := NB160_164.out
                            have hcz45_0 : wr.cell? ⟨gb164, 0, none⟩ = some (u165000) := (blk_cell BK164.out 0).trans rfl
                            have hcz45_1 : wr.cell? ⟨gb164, 1, none⟩ = some (u165001) := (blk_cell BK164.out 1).trans rfl
                            have hcz45_2 : wr.cell? ⟨gb164, 2, none⟩ = some (.int .i64 x165002_2) := (blk_cell BK164.out 2).trans rfl
                            have hfz45_0 := blk_frozen BK164.out 0
                            have hfz45_1 := blk_frozen BK164.out 1
                            have hfz45_2 := blk_frozen BK164.out 2
                            obtain ⟨Ao46, co46, eo46⟩ := Kd.R_slice HO_165001.out
                            subst eo46
                            have p172 : 0 ≤ (x14_2 : Int) := of_decide_eq_true (by first | (with_reducible assumption) | assumption)
                            have q172 : x14_2 < (x165001_2.length : Int) := of_decide_eq_true (by first | (with_reducible assumption) | assumption)
                            obtain ⟨ad172, e172, hx172_0⟩ := Kd.at_int (Kd.R_reads' HO_165001.out).2.2 x14_2 p172 q172
                            cases e172
                            replace p172 := eq_true p172
                            replace q172 := eq_true q172
                            have p37 : 0 ≤ (x14_2 : Int) := of_decide_eq_true (by first | (with_reducible assumption) | assumption)
                            have q37 : (x14_2 : Int) < ((x165001_2.length : Int) : Int) := of_decide_eq_true (by first | (with_reducible assumption) | assumption)
                            obtain ⟨go37, co37, eo37, gb37, gl37, cl37, HG37⟩ := Kd.R_form HO_165001.out (by omega)
                            (first | cases eo37 | (injection eo37 with ea_ en_ ec_; (first | subst ea_ | (injection ea_ with ea_; subst ea_)); subst ec_; clear en_))
                            have GB37 := Aside0.mk gb37
                            have GG37 := Aside0.mk HG37
                            clear gb37 gl37 HG37
                            (first | simp only [add_plain] at hx172_0 | skip)
                            obtain ⟨hx37_0, hf37_0⟩ := Kd.R_celln 0 HO_165001.out (x14_2 : Int) p37 q37
                            replace p37 := eq_true p37
                            replace q37 := eq_true q37
                            have HP47 := Kd.R_putg HO_165001.out (x14_2 : Int) ji38
                            go_wp2_with (first | ((with_reducible refine gate_store (t := 3) (p := 52) rfl ?_); refine store_event (t := 3) (p := 52) (v := ?vo_w48) (w1 := (wr.setCell ⟨go37, (x14_2 : Int).toNat, none⟩ (.int .i64 ji38))) ?hg ?ho ?hn ?hr ?_; (case ho => rfl); (case hg => rfl); (case hn => rfl); (case hr => first | (go_simp; done) | (go_simp; rfl)); intro w48 hw; have hg : wr.grownBy w48 (some go37) := (by rw [hw]; exact HP47.2); have hp_ : Kd.R (Kd.int .i64) 3 w48 w.heap.size (fun k_ => some k_ ≠ (u165000 : Value).ownBlock) (.slice (some ⟨go37, 0, none⟩) x165001_2.length co46) y173 := (by rw [hw, Ny173.out]; exact HP47.1); clear HP47; have n0_ := Aside0.mk (Kd.R_after (v := (.slice (some ⟨go37, 0, none⟩) x165001_2.length co46)) (v1 := (.slice (some ⟨go37, 0, none⟩) x165001_2.length co46)) (ok := (fun _ => True)) (by (with_reducible repeat (first | apply Kd.R_alloc | apply Kd.R_drewN | apply Kd.R_drew)); exact Kd.R_mono HO_165000.out (fun _ hk => ⟨trivial, hk⟩)) hg (.inl rfl)); have n1_ := Aside0.mk (hp_); have n2_ := Aside0.mk (blk_grown (g := gb159) (o := .cells #[.slice (some ad171) l0_0.length c0_0] 30 (0, 0)) (by (with_reducible repeat (first | refine blk_drewN ?_ _ | refine blk_drew ?_ | refine blk_alloc ?_ _)); exact BK159.out) hg (Kd.R_ne HO_165001.out BK159.out (by decide))); have n3_ := Aside0.mk (blk_grown (g := gb160) (o := .cells #[.slice none 0 0, .slice none 0 0, .int .i64 0] 80 (0, 0)) (by (with_reducible repeat (first | refine blk_drewN ?_ _ | refine blk_drew ?_ | refine blk_alloc ?_ _)); exact BK160.out) hg (Kd.R_ne HO_165001.out BK160.out (by decide))); have n4_ := Aside0.mk (blk_grown (g := gb164) (o := .cells #[u165000, .slice (some ⟨go37, 0, none⟩) x165001_2.length co46, .int .i64 x165002_2] 80 (0, 0)) (by (with_reducible repeat (first | refine blk_drewN ?_ _ | refine blk_drew ?_ | refine blk_alloc ?_ _)); exact BK164.out) hg (Kd.R_ne HO_165001.out BK164.out (by decide))); have n5_ := Aside0.mk ((by rw [hw]; exact below_set (HB.out) GB37.out : Below w.heap.size w w48)); clear HO_165000; clear HO_165001; clear BK159; clear BK160; clear BK164; clear HB; have HO_165000 := n0_; have HO_165001 := n1_; have BK159 := n2_; have BK160 := n3_; have BK164 := n4_; have HB := n5_; clear n0_ n1_ n2_ n3_ n4_ n5_; clear hg hw hp_; have p174 : 0 ≤ ((ji38) : Int) := of_decide_eq_true (by first | (with_reducible assumption) | assumption); have q174 : (ji38) < ((rd_L1 l0_0 x14_2).length : Int) := of_decide_eq_true (by first | (with_reducible assumption) | assumption); obtain ⟨ad174, e174, hx174_0⟩ := Kd.at_int HR171_0.out (ji38) p174 q174; cases e174; replace hx174_0 := (HB.out.cell (World.block_lt_of_cell? w _ hx174_0)).trans hx174_0; replace p174 := eq_true p174; replace q174 := eq_true q174; have hcz49_0 : w48.cell? ⟨gb164, 0, none⟩ = some (u165000) := (blk_cell BK164.out 0).trans rfl; have hcz49_1 : w48.cell? ⟨gb164, 1, none⟩ = some (.slice (some ⟨go37, 0, none⟩) x165001_2.length co46) := (blk_cell BK164.out 1).trans rfl; have hcz49_2 : w48.cell? ⟨gb164, 2, none⟩ = some (.int .i64 x165002_2) := (blk_cell BK164.out 2).trans rfl; have hfz49_0 := blk_frozen BK164.out 0; have hfz49_1 := blk_frozen BK164.out 1; have hfz49_2 := blk_frozen BK164.out 2))
                            go_roundg k2
                            case measure => have := HK1.out; have := HK2.out; omega
                            case rel => exact ⟨(rd (rd_L1 l0_0 x14_2) (ji38)), (x165000_2), (y173), (wrap64 (x165002_2 + 1)), (u165000), (.slice (some ⟨go37, 0, none⟩) x165001_2.length co46), (by first | rfl | (simp; done) | (simp only [← hji38] <;> (first | rfl | simp)) | (simp [*]; done)), H', ⟨by have := HK1.out; have := HK2.out; omega⟩, ⟨by (with_reducible repeat (first | apply Kd.R_alloc | apply Kd.R_drewN | apply Kd.R_drew)); exact Kd.R_mono (Kd.R_far (p := ⟨gb164, 2, none⟩) (Kd.R_types HO_165000.out BK164.out (by decide)) (fun _ hk => hk.2) (.int .i64 (wrap64 (x165002_2 + 1)))) (fun _ hk => hk.1.2)⟩, ⟨by (with_reducible repeat (first | apply Kd.R_alloc | apply Kd.R_drewN | apply Kd.R_drew)); exact Kd.R_mono (Kd.R_far (p := ⟨gb164, 2, none⟩) (Kd.R_types HO_165001.out BK164.out (by decide)) (fun _ hk => hk.2) (.int .i64 (wrap64 (x165002_2 + 1)))) (fun _ hk => hk.1)⟩, ⟨by (with_reducible repeat (first | refine blk_drewN ?_ _ | refine blk_drew ?_ | refine blk_alloc ?_ _)); refine blk_far ?_ NB159_164.out _; (with_reducible repeat (first | refine blk_drewN ?_ _ | refine blk_drew ?_ | refine blk_alloc ?_ _)); exact BK159.out⟩, ⟨by (with_reducible repeat (first | refine blk_drewN ?_ _ | refine blk_drew ?_ | refine blk_alloc ?_ _)); refine blk_far ?_ NB160_164.out _; (with_reducible repeat (first | refine blk_drewN ?_ _ | refine blk_drew ?_ | refine blk_alloc ?_ _)); exact BK160.out⟩, ⟨by (with_reducible repeat (first | refine blk_drewN ?_ _ | refine blk_drew ?_ | refine blk_alloc ?_ _)); refine blk_put (cs := #[u165000, .slice (some ⟨go37, 0, none⟩) x165001_2.length co46, .int .i64 x165002_2]) ?_ 2 _ rfl; (with_reducible repeat (first | refine blk_drewN ?_ _ | refine blk_drew ?_ | refine blk_alloc ?_ _)); exact BK164.out⟩, ⟨by repeat (first | (with_reducible first | exact HB.out | apply below_alloc | apply pw_below_drewN | apply below_drew1 | refine below_set ?_ GE159.out | refine below_set ?_ GE160.out | refine below_set ?_ GE164.out) | exact HB.out)⟩⟩
                          · rw [if_neg c40] at H
                            exact absurd H (by simp)
                        · rw [if_neg c39] at H
                          exact absurd H (by simp)
                    · rw [if_neg c35] at H
                      exact absurd H (by simp)
                  · rw [if_neg c34] at H
                    exact absurd H (by simp)
                · rw [if_neg c33] at H
                  exact absurd H (by simp)
      · rw [if_neg c16] at H
        have c16b0 : decide (0 < x5_1) = false := decide_eq_false c16
        clear c16
        simp only [Option.some.injEq, Prod.mk.injEq] at H
        obtain ⟨rfl, rfl, rfl⟩ := H
        have hnb50 := NB164_159.out
        have hnc50 := NB159_164.out
        have hnb51 := NB164_160.out
        have hnc51 := NB160_164.out
        have hcz52_0 : wr.cell? ⟨gb164, 0, none⟩ = some (u165000) := (blk_cell BK164.out 0).trans rfl
        have hcz52_1 : wr.cell? ⟨gb164, 1, none⟩ = some (u165001) := (blk_cell BK164.out 1).trans rfl
        have hcz52_2 : wr.cell? ⟨gb164, 2, none⟩ = some (.int .i64 x165002_1) := (blk_cell BK164.out 2).trans rfl
        have hfz52_0 := blk_frozen BK164.out 0
        have hfz52_1 := blk_frozen BK164.out 1
        have hfz52_2 := blk_frozen BK164.out 2
        obtain ⟨Ao53, co53, eo53⟩ := Kd.R_slice HO_165000.out
        subst eo53
        have hnb54 := NB160_159.out
        have hnc54 := NB159_160.out
        have hcz55_0 : wr.cell? ⟨gb160, 0, none⟩ = some (.slice none 0 0) := (blk_cell BK160.out 0).trans rfl
        have hcz55_1 : wr.cell? ⟨gb160, 1, none⟩ = some (.slice none 0 0) := (blk_cell BK160.out 1).trans rfl
        have hcz55_2 : wr.cell? ⟨gb160, 2, none⟩ = some (.int .i64 0) := (blk_cell BK160.out 2).trans rfl
        have hfz55_0 := blk_frozen BK160.out 0
        have hfz55_1 := blk_frozen BK160.out 1
        have hfz55_2 := blk_frozen BK160.out 2
        obtain ⟨Ao56, co56, eo56⟩ := Kd.R_slice HO_165001.out
        subst eo56
        go_wp2
        refine bodyPost_ret (results_cell_row rfl _ _ gb160 80 #[.slice Ao53 x165000_1.length co53, .slice Ao56 x165001_1.length co56, .int .i64 x165002_1] (0, 0) _ rfl (by (with_reducible repeat (first | refine blk_drewN ?_ _ | refine blk_drew ?_ | refine blk_alloc ?_ _)); refine blk_put (cs := #[.slice Ao53 x165000_1.length co53, .slice Ao56 x165001_1.length co56, .int .i64 0]) ?_ 2 _ rfl; (with_reducible repeat (first | refine blk_drewN ?_ _ | refine blk_drew ?_ | refine blk_alloc ?_ _)); refine blk_put (cs := #[.slice Ao53 x165000_1.length co53, .slice none 0 0, .int .i64 0]) ?_ 1 _ rfl; (with_reducible repeat (first | refine blk_drewN ?_ _ | refine blk_drew ?_ | refine blk_alloc ?_ _)); refine blk_put (cs := #[.slice none 0 0, .slice none 0 0, .int .i64 0]) ?_ 0 _ rfl; (with_reducible repeat (first | refine blk_drewN ?_ _ | refine blk_drew ?_ | refine blk_alloc ?_ _)); exact BK160.out) Try.underlying80 rfl (by kernel_rfl)) rfl ?_
        exact ⟨_, _, by first | rfl | (simp [errW_none, errW_some] <;> rfl) | (simp [*, errW_none, errW_some] <;> rfl), by (with_reducible repeat (first | apply Kd.R_alloc | apply Kd.R_drewN | apply Kd.R_drew)); exact Kd.R_mono (Kd.R_far (p := ⟨gb160, 2, none⟩) (Kd.R_far (p := ⟨gb160, 1, none⟩) (Kd.R_far (p := ⟨gb160, 0, none⟩) (Kd.R_types HO_165000.out BK160.out (by decide)) (fun _ hk => hk.2) (.slice Ao53 x165000_1.length co53)) (fun _ hk => hk.2) (.slice Ao56 x165001_1.length co56)) (fun _ hk => hk.2) (.int .i64 x165002_1)) (fun _ hk => hk.1), by (with_reducible repeat (first | apply Kd.R_alloc | apply Kd.R_drewN | apply Kd.R_drew)); exact Kd.R_mono (Kd.R_far (p := ⟨gb160, 2, none⟩) (Kd.R_far (p := ⟨gb160, 1, none⟩) (Kd.R_far (p := ⟨gb160, 0, none⟩) (Kd.R_types HO_165001.out BK160.out (by decide)) (fun _ hk => hk.2) (.slice Ao53 x165000_1.length co53)) (fun _ hk => hk.2) (.slice Ao56 x165001_1.length co56)) (fun _ hk => hk.2) (.int .i64 x165002_1)) (fun _ hk => hk.1), by repeat (first | (with_reducible first | exact HB.out | apply below_alloc | apply pw_below_drewN | apply below_drew1 | refine below_set ?_ GE159.out | refine below_set ?_ GE160.out | refine below_set ?_ GE164.out) | exact HB.out)⟩
def spec_StepsOfHits.f (k : Nat) (l0_0 : List (List Int)) (l1 : List Int) (a2 : Int) (a3 : Int) (a4 : Int) (a5 : Int) : Option (Int × Bool) := (spec_hiAsked.f k l0_0 l1 a2 a3 a4 a5).bind fun t176 => (if t176 = true then ((spec_hiRun.f k l0_0 l1 a2 a3 a4 a5).bind fun bt177 => (some (bt177.2.2, true))) else (some (0, false)))
def spec_hiSum.l0 : Nat → Int → List Int → Int → Int → Option (Int)
  | 0, _, _, _, _ => none
  | k + 1, x3, x6, x7, x8 => if x8 < x7 then (if 0 ≤ x8 then (if x8 < (x6.length : Int) then (spec_hiSum.l0 k (wrap64 (x3 + (rd x6 x8))) x6 x7 (wrap64 (x8 + 1))) else (none)) else (none)) else (some x3)
def spec_hiSum.f (k : Nat) (l0 : List Int) : Option (Int) := spec_hiSum.l0 k 0 l0 (l0.length : Int) 0
set_option maxHeartbeats 8000000 in
set_option maxRecDepth 100000 in
theorem spec_hiSum.calls (k : Nat) (A0 : Option Addr) (c0 : Nat) (l0 : List Int) (r : Int) (w : World) (hr0 : Kd.C (Kd.int .i64) w A0 l0.length l0) (hc0 : l0.length ≤ c0) (h : spec_hiSum.f k l0 = some r) :
    Calls Try.prog 85 #[.slice A0 l0.length c0] w fun e w' => e = .returned (.int .i64 r) ∧ Drawn0 w w' := by
  have HR0 := Aside0.mk hr0
  have HC0 := Aside0.mk hc0
  clear hr0 hc0
  have H : (spec_hiSum.l0 k 0 l0 (l0.length : Int) 0) = some r := h
  clear h
  have H' := Aside0.mk H
  clear H
  go_enter Try.func85, Try.ntmps85
  go_wp2
  go_loopg [3, 8] k (fun kq v3 v8 w' => ∃ (x3_1 : Int) (x8_1 : Int), v3 = .int .i64 x3_1 ∧ v8 = .int .i64 x8_1 ∧ Aside0 (spec_hiSum.l0 kq x3_1 l0 (l0.length : Int) x8_1 = some r) ∧ Aside0 (kq ≤ k) ∧ Drawn0 w w')
  case atStart => exact ⟨(0), (0), (by first | rfl | (simp; done) | (simp [*]; done)), (by first | rfl | (simp; done) | (simp [*]; done)), H', ⟨Nat.le_refl _⟩, by repeat (first | exact Drawn0.refl _ | apply Drawn0.step)⟩
  case round =>
    clear H'
    obtain ⟨x3_1, x8_1, rfl, rfl, HA, HK1, ⟨m1, rfl⟩⟩ := hrel
    cases gk with
    | zero => exact absurd HA.out (by simp [spec_hiSum.l0])
    | succ k1 =>
      have H := HA.out
      clear HA
      simp only [spec_hiSum.l0] at H
      by_cases c2 : x8_1 < (l0.length : Int)
      · rw [if_pos c2] at H
        have c2b0 : decide (x8_1 < (l0.length : Int)) = true := decide_eq_true c2
        clear c2
        by_cases c3 : 0 ≤ x8_1
        · rw [if_pos c3] at H
          have c3b0 : decide (0 ≤ x8_1) = true := decide_eq_true c3
          clear c3
          by_cases c4 : x8_1 < (l0.length : Int)
          · rw [if_pos c4] at H
            have c4b0 : decide (x8_1 < (l0.length : Int)) = true := decide_eq_true c4
            clear c4
            have H' := Aside0.mk H
            clear H
            have p184 : 0 ≤ (x8_1 : Int) := of_decide_eq_true (by first | (with_reducible assumption) | assumption)
            have q184 : x8_1 < (l0.length : Int) := of_decide_eq_true (by first | (with_reducible assumption) | assumption)
            obtain ⟨ad184, e184, hx184_0⟩ := Kd.at_int HR0.out x8_1 p184 q184
            cases e184
            replace p184 := eq_true p184
            replace q184 := eq_true q184
            go_wp2
            go_roundg k1
            case measure => have := HK1.out; omega
            case rel => exact ⟨(wrap64 (x3_1 + (rd l0 x8_1))), (wrap64 (x8_1 + 1)), (by first | rfl | (simp; done) | (simp [*]; done)), (by first | rfl | (simp; done) | (simp [*]; done)), H', ⟨by have := HK1.out; omega⟩, by repeat (first | exact Drawn0.refl _ | apply Drawn0.step)⟩
          · rw [if_neg c4] at H
            exact absurd H (by simp)
        · rw [if_neg c3] at H
          exact absurd H (by simp)
      · rw [if_neg c2] at H
        have c2b0 : decide (x8_1 < (l0.length : Int)) = false := decide_eq_false c2
        clear c2
        obtain rfl := Option.some.inj H
        go_wp2
        go_ret
        exact ⟨by first | rfl | (simp; done) | (simp [*]; done), by repeat (first | exact Drawn0.refl _ | apply Drawn0.step)⟩
def spec_HitsOf.f (k : Nat) (l0_0 : List (List Int)) (l1 : List Int) (a2 : Int) (a3 : Int) (a4 : Int) (a5 : Int) : Option (Int × Bool) := (spec_hiAsked.f k l0_0 l1 a2 a3 a4 a5).bind fun t186 => (if t186 = true then ((spec_hiRun.f k l0_0 l1 a2 a3 a4 a5).bind fun bt187 => ((spec_hiSum.f k bt187.1).bind fun t194 => (some (t194, true)))) else (some (0, false)))
set_option maxHeartbeats 8000000 in
set_option maxRecDepth 100000 in
theorem spec_HitsOf.calls (k : Nat) (A0_0 : Option Addr) (c0_0 : Nat) (l0_0 : List (List Int)) (A1 : Option Addr) (c1 : Nat) (l1 : List Int) (a2 : Int) (a3 : Int) (a4 : Int) (a5 : Int) (r1 : Int) (r2 : Bool) (w : World) (hr0_0 : Kd.C (Kd.slice 3 (Kd.int .i64)) w A0_0 l0_0.length l0_0) (hc0_0 : l0_0.length ≤ c0_0) (hr1 : Kd.C (Kd.int .i64) w A1 l1.length l1) (hc1 : l1.length ≤ c1) (h : spec_HitsOf.f k l0_0 l1 a2 a3 a4 a5 = some (r1, r2)) :
    Calls Try.prog 31 #[.agg #[.slice A0_0 l0_0.length c0_0], .slice A1 l1.length c1, .int .i64 a2, .int .i64 a3, .int .i64 a4, .int .i64 a5] w fun e w' => e = .returned (.tuple #[.int .i64 r1, .bool r2]) ∧ Below w.heap.size w w' := by
  have hu30 := Try.underlying30
  have HR0_0 := Aside0.mk hr0_0
  have HC0_0 := Aside0.mk hc0_0
  clear hr0_0 hc0_0
  have HR1 := Aside0.mk hr1
  have HC1 := Aside0.mk hc1
  clear hr1 hc1
  have HB := Aside0.mk (Below.refl w.heap.size w)
  have H : ((spec_hiAsked.f k l0_0 l1 a2 a3 a4 a5).bind fun t186 => (if t186 = true then ((spec_hiRun.f k l0_0 l1 a2 a3 a4 a5).bind fun bt187 => ((spec_hiSum.f k bt187.1).bind fun t194 => (some (t194, true)))) else (some (0, false)))) = some (r1, r2) := h
  clear h
  replace H := Option.bind_eq_some_iff.mp H
  obtain ⟨t186, A70, H⟩ := H
  replace H : (if t186 = true then ((spec_hiRun.f k l0_0 l1 a2 a3 a4 a5).bind fun bt187 => ((spec_hiSum.f k bt187.1).bind fun t194 => (some (t194, true)))) else (some (0, false))) = some (r1, r2) := H
  have A7 := Aside0.mk A70
  clear A70
  by_cases c8 : t186 = true
  · subst c8
    have H1 : ((spec_hiRun.f k l0_0 l1 a2 a3 a4 a5).bind fun bt187 => ((spec_hiSum.f k bt187.1).bind fun t194 => (some (t194, true)))) = some (r1, r2) := by rw [if_pos rfl] at H; exact H
    clear H
    have H := H1
    clear H1
    replace H := Option.bind_eq_some_iff.mp H
    obtain ⟨⟨t187, t190, t193⟩, A90, H⟩ := H
    replace H : ((spec_hiSum.f k t187).bind fun t194 => (some (t194, true))) = some (r1, r2) := H
    have A9 := Aside0.mk A90
    clear A90
    replace H := Option.bind_eq_some_iff.mp H
    obtain ⟨t194, A100, H⟩ := H
    replace H : (some (t194, true)) = some (r1, r2) := H
    have A10 := Aside0.mk A100
    clear A100
    simp only [Option.some.injEq, Prod.mk.injEq] at H
    obtain ⟨rfl, rfl⟩ := H
    go_enter Try.func31, Try.ntmps31
    go_wp2_with (first | ((with_reducible refine gate_dst (N := 6) rfl ?_); refine box_event ?hg (N := 6) ?hd (cs := #[.slice A0_0 l0_0.length c0_0]) (t := 30) ?hr ?_; (case hd => rfl); (case hg => rfl); (case hr => first | (go_simp; done) | (go_simp; rfl)); intro gb185 hg w11 hbox hb; have n0_ := Aside0.mk (below_step (by repeat (first | (with_reducible first | exact HB.out | apply below_alloc | apply pw_below_drewN | apply below_drew1) | exact HB.out)) hb); have n1_ := Aside0.mk (hbox); have n2_ := Aside0.mk ((by rw [hg]; exact (below_size (by repeat (first | (with_reducible first | exact HB.out | apply below_alloc | apply pw_below_drewN | apply below_drew1) | exact HB.out))) : w.heap.size ≤ gb185)); have n3_ := Aside0.mk ((by rw [hg]; exact (below_size (by repeat (first | (with_reducible first | exact HB.out | apply below_alloc | apply pw_below_drewN | apply below_drew1) | exact HB.out))) : w.heap.size ≤ gb185)); clear HB; have HB := n0_; have BK185 := n1_; have GW185 := n2_; have GE185 := n3_; clear n0_ n1_ n2_ n3_; clear hb hbox hg; have hcz12_0 : w11.cell? ⟨gb185, 0, none⟩ = some (.slice A0_0 l0_0.length c0_0) := (blk_cell BK185.out 0).trans rfl; have hfz12_0 := blk_frozen BK185.out 0) | ((with_reducible refine gate_callee (f := 82) rfl ?_); refine goesL_ (some 20) rfl rfl Try.func82 (by kernel_rfl) rfl #[.agg #[.slice A0_0 l0_0.length c0_0], .slice A1 l1.length c1, .int .i64 a2, .int .i64 a3, .int .i64 a4, .int .i64 a5] rfl (by (try simp only [List.map_toArray, List.map_cons, List.map_nil]); first | done | rfl | (simp only [List.length_drop, List.length_take]; rfl)) ?_; (with_reducible refine (spec_hiAsked.calls k _ _ l0_0 _ _ l1 a2 a3 a4 a5 true _ ?side1 ?side2 ?side3 ?side4 A7.out).mono ?_); (case side1 => repeat (first | exact (Kd.C_below HR0_0.out HB.out) | (with_reducible refine Kd.C_alloc ?_ _) | (with_reducible refine Kd.C_drewN ?_ _) | (with_reducible refine Kd.C_drew ?_))); (case side2 => exact HC0_0.out); (case side3 => repeat (first | exact (Kd.C_below HR1.out HB.out) | (with_reducible refine Kd.C_alloc ?_ _) | (with_reducible refine Kd.C_drewN ?_ _) | (with_reducible refine Kd.C_drew ?_))); (case side4 => exact HC1.out); rintro e w13 ⟨rfl, hb⟩; refine ⟨_, rfl, ?_⟩; have n0_ := Aside0.mk (blk_below (g := gb185) (o := .cells #[.slice A0_0 l0_0.length c0_0] 30 (0, 0)) (by (with_reducible repeat (first | refine blk_drewN ?_ _ | refine blk_drew ?_ | refine blk_alloc ?_ _)); exact BK185.out) hb); have n1_ := Aside0.mk (below_step (by repeat (first | (with_reducible first | exact HB.out | apply below_alloc | apply pw_below_drewN | apply below_drew1 | refine below_set ?_ GE185.out) | exact HB.out)) hb); clear BK185; clear HB; have BK185 := n0_; have HB := n1_; clear n0_ n1_; (try clear hb); (try clear hb2); (try clear hk); (try clear hi); have hcz14_0 : w13.cell? ⟨gb185, 0, none⟩ = some (.slice A0_0 l0_0.length c0_0) := (blk_cell BK185.out 0).trans rfl; have hfz14_0 := blk_frozen BK185.out 0) | ((with_reducible refine gate_callee (f := 83) rfl ?_); refine goesL_ (some 28) rfl rfl Try.func83 (by kernel_rfl) rfl #[.agg #[.slice A0_0 l0_0.length c0_0], .slice A1 l1.length c1, .int .i64 a2, .int .i64 a3, .int .i64 a4, .int .i64 a5] rfl (by (try simp only [List.map_toArray, List.map_cons, List.map_nil]); first | done | rfl | (simp only [List.length_drop, List.length_take]; rfl)) ?_; (with_reducible refine (spec_hiRun.calls k _ _ l0_0 _ _ l1 a2 a3 a4 a5 t187 t190 t193 _ ?side1 ?side2 ?side3 ?side4 A9.out).mono ?_); (case side1 => repeat (first | exact (Kd.C_below HR0_0.out HB.out) | (with_reducible refine Kd.C_alloc ?_ _) | (with_reducible refine Kd.C_drewN ?_ _) | (with_reducible refine Kd.C_drew ?_))); (case side2 => exact HC0_0.out); (case side3 => repeat (first | exact (Kd.C_below HR1.out HB.out) | (with_reducible refine Kd.C_alloc ?_ _) | (with_reducible refine Kd.C_drewN ?_ _) | (with_reducible refine Kd.C_drew ?_))); (case side4 => exact HC1.out); rintro e w15 ⟨v188, v191, rfl, ho0, ho1, hb⟩; refine ⟨_, rfl, ?_⟩; have n0_ := Aside0.mk (Kd.R_lower ho0 (below_size (by repeat (first | (with_reducible first | exact HB.out | apply below_alloc | apply pw_below_drewN | apply below_drew1 | refine below_set ?_ GE185.out) | exact HB.out)))); have n1_ := Aside0.mk (Kd.R_lower ho1 (below_size (by repeat (first | (with_reducible first | exact HB.out | apply below_alloc | apply pw_below_drewN | apply below_drew1 | refine below_set ?_ GE185.out) | exact HB.out)))); have n2_ := Aside0.mk (blk_below (g := gb185) (o := .cells #[.slice A0_0 l0_0.length c0_0] 30 (0, 0)) (by (with_reducible repeat (first | refine blk_drewN ?_ _ | refine blk_drew ?_ | refine blk_alloc ?_ _)); exact BK185.out) hb); have n3_ := Aside0.mk (below_step (by repeat (first | (with_reducible first | exact HB.out | apply below_alloc | apply pw_below_drewN | apply below_drew1 | refine below_set ?_ GE185.out) | exact HB.out)) hb); clear BK185; clear HB; have HO189 := n0_; have HO192 := n1_; have BK185 := n2_; have HB := n3_; clear n0_ n1_ n2_ n3_; (try clear hb); (try clear hb2); (try clear hk); (try clear hi); (try clear ho0); (try clear ho1); obtain ⟨Ao16, co16, eo16⟩ := Kd.R_slice HO189.out; subst eo16) | ((with_reducible refine gate_callee (f := 85) rfl ?_); refine goesL_ (some 30) rfl rfl Try.func85 (by kernel_rfl) rfl #[.slice Ao16 t187.length co16] rfl (by (try simp only [List.map_toArray, List.map_cons, List.map_nil]); first | done | rfl | (simp only [List.length_drop, List.length_take]; rfl)) ?_; (with_reducible refine (spec_hiSum.calls k _ _ t187 t194 _ ?side1 ?side2 A10.out).mono ?_); (case side1 => repeat (first | exact (Kd.R_reads' HO189.out).2.2 | (with_reducible refine Kd.C_alloc ?_ _) | (with_reducible refine Kd.C_drewN ?_ _) | (with_reducible refine Kd.C_drew ?_))); (case side2 => exact (Kd.R_reads' HO189.out).2.1); rintro e w' ⟨rfl, ⟨nd, rfl⟩⟩; refine ⟨_, rfl, ?_⟩))
    go_ret2
    exact ⟨by first | rfl | (simp [errW_none, errW_some] <;> rfl) | (simp [*, errW_none, errW_some] <;> rfl), by repeat (first | (with_reducible first | exact HB.out | apply below_alloc | apply pw_below_drewN | apply below_drew1 | refine below_set ?_ GE185.out) | exact HB.out)⟩
  · replace c8 := Bool.eq_false_iff.mpr c8
    subst c8
    have H1 : (some (0, false)) = some (r1, r2) := by rw [if_neg (show ¬ (false = true) by decide)] at H; exact H
    clear H
    have H := H1
    clear H1
    simp only [Option.some.injEq, Prod.mk.injEq] at H
    obtain ⟨rfl, rfl⟩ := H
    go_enter Try.func31, Try.ntmps31
    go_wp2_with (first | ((with_reducible refine gate_dst (N := 6) rfl ?_); refine box_event ?hg (N := 6) ?hd (cs := #[.slice A0_0 l0_0.length c0_0]) (t := 30) ?hr ?_; (case hd => rfl); (case hg => rfl); (case hr => first | (go_simp; done) | (go_simp; rfl)); intro gb185 hg w17 hbox hb; have n0_ := Aside0.mk (below_step (by repeat (first | (with_reducible first | exact HB.out | apply below_alloc | apply pw_below_drewN | apply below_drew1) | exact HB.out)) hb); have n1_ := Aside0.mk (hbox); have n2_ := Aside0.mk ((by rw [hg]; exact (below_size (by repeat (first | (with_reducible first | exact HB.out | apply below_alloc | apply pw_below_drewN | apply below_drew1) | exact HB.out))) : w.heap.size ≤ gb185)); have n3_ := Aside0.mk ((by rw [hg]; exact (below_size (by repeat (first | (with_reducible first | exact HB.out | apply below_alloc | apply pw_below_drewN | apply below_drew1) | exact HB.out))) : w.heap.size ≤ gb185)); clear HB; have HB := n0_; have BK185 := n1_; have GW185 := n2_; have GE185 := n3_; clear n0_ n1_ n2_ n3_; clear hb hbox hg; have hcz18_0 : w17.cell? ⟨gb185, 0, none⟩ = some (.slice A0_0 l0_0.length c0_0) := (blk_cell BK185.out 0).trans rfl; have hfz18_0 := blk_frozen BK185.out 0) | ((with_reducible refine gate_callee (f := 82) rfl ?_); refine goesL_ (some 20) rfl rfl Try.func82 (by kernel_rfl) rfl #[.agg #[.slice A0_0 l0_0.length c0_0], .slice A1 l1.length c1, .int .i64 a2, .int .i64 a3, .int .i64 a4, .int .i64 a5] rfl (by (try simp only [List.map_toArray, List.map_cons, List.map_nil]); first | done | rfl | (simp only [List.length_drop, List.length_take]; rfl)) ?_; (with_reducible refine (spec_hiAsked.calls k _ _ l0_0 _ _ l1 a2 a3 a4 a5 false _ ?side1 ?side2 ?side3 ?side4 A7.out).mono ?_); (case side1 => repeat (first | exact (Kd.C_below HR0_0.out HB.out) | (with_reducible refine Kd.C_alloc ?_ _) | (with_reducible refine Kd.C_drewN ?_ _) | (with_reducible refine Kd.C_drew ?_))); (case side2 => exact HC0_0.out); (case side3 => repeat (first | exact (Kd.C_below HR1.out HB.out) | (with_reducible refine Kd.C_alloc ?_ _) | (with_reducible refine Kd.C_drewN ?_ _) | (with_reducible refine Kd.C_drew ?_))); (case side4 => exact HC1.out); rintro e w19 ⟨rfl, hb⟩; refine ⟨_, rfl, ?_⟩; have n0_ := Aside0.mk (blk_below (g := gb185) (o := .cells #[.slice A0_0 l0_0.length c0_0] 30 (0, 0)) (by (with_reducible repeat (first | refine blk_drewN ?_ _ | refine blk_drew ?_ | refine blk_alloc ?_ _)); exact BK185.out) hb); have n1_ := Aside0.mk (below_step (by repeat (first | (with_reducible first | exact HB.out | apply below_alloc | apply pw_below_drewN | apply below_drew1 | refine below_set ?_ GE185.out) | exact HB.out)) hb); clear BK185; clear HB; have BK185 := n0_; have HB := n1_; clear n0_ n1_; (try clear hb); (try clear hb2); (try clear hk); (try clear hi)))
    go_ret2
    exact ⟨by first | rfl | (simp [errW_none, errW_some] <;> rfl) | (simp [*, errW_none, errW_some] <;> rfl), by repeat (first | (with_reducible first | exact HB.out | apply below_alloc | apply pw_below_drewN | apply below_drew1 | refine below_set ?_ GE185.out) | exact HB.out)⟩
def spec_HitList.f (k : Nat) (l0_0 : List (List Int)) (l1 : List Int) (a2 : Int) (a3 : Int) (a4 : Int) (a5 : Int) : Option (List Int × Bool) := (spec_hiAsked.f k l0_0 l1 a2 a3 a4 a5).bind fun t196 => (if t196 = true then ((spec_hiRun.f k l0_0 l1 a2 a3 a4 a5).bind fun bt197 => (some (bt197.1, true))) else (some (([] : List Int), false)))
def spec_RotorsBehind.f (k : Nat) (l0_0 : List (List Int)) (l1 : List Int) (a2 : Int) (a3 : Int) (a4 : Int) (a5 : Int) : Option (List Int × Bool) := (spec_hiAsked.f k l0_0 l1 a2 a3 a4 a5).bind fun t205 => (if t205 = true then ((spec_hiRun.f k l0_0 l1 a2 a3 a4 a5).bind fun bt206 => (some (bt206.2.1, true))) else (some (([] : List Int), false)))
end Go.Proofs.Ytnbnalbomflafaa.GQ
/-! ## Cd -/
namespace Go.Proofs.Ytnbnalbomflafaa.RA
open Go.RowKit Go.Proofs.YtnbnalbomflafaaW.PrintWords Go.Proofs.YtnbnalbomflafaaW.PrintLast Go.Proofs.YtnbnalbomflafaaW.PrintMore
open Go.Proofs.Ytnbnalbomflafaa.GA
open Go.Proofs.Ytnbnalbomflafaa.GB hiding rd_L1 at_L1
open Go.Proofs.Ytnbnalbomflafaa.GD hiding rd_L1 at_L1
open Go.Proofs.Ytnbnalbomflafaa.GR hiding rd_L1 at_L1
open Go.Proofs.Ytnbnalbomflafaa.GQ hiding rd_L1 at_L1
open Go.Proofs.Ytnbnalbomflafaa.HB hiding rd_L1 at_L1
open Go.Proofs.Ytnbnalbomflafaa.KA
set_option linter.unusedVariables false
set_option linter.unusedSimpArgs false
theorem rdQ (l : List (List Int)) (i : Int) : GQ.rd_L1 l i = GA.rd_L1 l i := rfl
def hitOf (v a : Int) : Int := if v = a then 1 else 0
theorem spec_run {l : List (List Int)} {a b : Int} {s : Nat} {v : Int} {rot : List Int} {st v1 : Int} {rot1 : List Int} {st1 : Int} (h : Run l a b s v rot st v1 rot1 st1) (hab : a ≠ b) :
    ∀ (k : Nat) (p n : Int) (hits : List Int), hits.length ≤ 1000 → spec_hiRun.l1 (k + s + 1) p a b n v l hits rot st = spec_hiRun.l0 k p a b (wrap64 (n - 1)) l (hits ++ [hitOf v1 a]) rot1 st1 := by
  induction h with
  | stop v rot st h =>
    intro k p n hits hh
    show spec_hiRun.l1 (k + 1) _ _ _ _ _ _ _ _ _ = _
    unfold spec_hiRun.l1 hitOf
    by_cases ha : v = a
    · rw [if_pos ha, if_pos (by omega), if_pos ha]
    · rw [if_neg ha, if_pos (h.resolve_left ha), if_pos (by omega), if_neg ha]
  | go s v rot st v1 rot1 st1 ha hb h0 h1 hr k hk hkr h ih =>
    intro k2 p n hits hh
    have := ih k2 p n hits hh
    unfold spec_hiRun.l1
    rw [if_neg ha, if_neg hb, if_pos h0, if_pos h1, if_pos hr, rdQ, if_neg (by omega), hkr, if_pos (by omega), if_pos (by omega)]
    exact this
inductive Chips (l : List (List Int)) (a b p : Int) : Nat → List Int → List Int → Int → List Int → List Int → Int → Prop
  | none (hits rot : List Int) (st : Int) : Chips l a b p 0 hits rot st hits rot st
  | more (n s : Nat) (hits rot : List Int) (st v1 : Int) (rot1 : List Int) (st1 : Int) (hits2 rot2 : List Int) (st2 : Int) (h : Run l a b s p rot st v1 rot1 st1) (h2 : Chips l a b p n (hits ++ [hitOf v1 a]) rot1 st1 hits2 rot2 st2) : Chips l a b p (n + 1) hits rot st hits2 rot2 st2
theorem chips_len {l : List (List Int)} {a b p : Int} {n : Nat} {hits rot : List Int} {st : Int} {hits2 rot2 : List Int} {st2 : Int} (h : Chips l a b p n hits rot st hits2 rot2 st2) : hits2.length = hits.length + n := by
  induction h with
  | none => rfl
  | more n s hits rot st v1 rot1 st1 hits2 rot2 st2 h h2 ih => rw [ih]; simp; omega
theorem chips_ex (l : List (List Int)) (a b p : Int) (h5 : ∀ v : Int, 0 ≤ v → v < l.length → (GA.rd_L1 l v).length ≤ 5) (hrow : ∀ v : Int, 0 ≤ v → v < l.length → ∀ q ∈ GA.rd_L1 l v, 0 ≤ q ∧ q < l.length)
    (hE : ∀ v : Int, 0 ≤ v → v < l.length → Ends l a b v) (hp0 : 0 ≤ p) (hp1 : p < l.length) : ∀ (n : Nat) (hits rot : List Int) (st : Int), Rots l rot → ∃ hits2 rot2 st2, Chips l a b p n hits rot st hits2 rot2 st2 ∧ Rots l rot2
  | 0, hits, rot, st, hR => ⟨hits, rot, st, Chips.none _ _ _, hR⟩
  | n + 1, hits, rot, st, hR => by
    obtain ⟨s, v1, rot1, st1, hrun, hR1⟩ := run_ex l a b h5 hrow hE rot p st hR hp0 hp1
    obtain ⟨hits2, rot2, st2, hc, hR2⟩ := chips_ex l a b p h5 hrow hE hp0 hp1 n (hits ++ [hitOf v1 a]) rot1 st1 hR1
    exact ⟨hits2, rot2, st2, Chips.more n s hits rot st v1 rot1 st1 hits2 rot2 st2 hrun hc, hR2⟩
theorem spec_chips {l : List (List Int)} {a b p : Int} (hab : a ≠ b) {n : Nat} {hits rot : List Int} {st : Int} {hits2 rot2 : List Int} {st2 : Int} (h : Chips l a b p n hits rot st hits2 rot2 st2) (hh : hits.length + n ≤ 1000) :
    ∃ K, ∀ k, K ≤ k → spec_hiRun.l0 k p a b (n : Int) l hits rot st = some (hits2, rot2, st2) := by
  induction h with
  | none hits rot st =>
    refine ⟨1, fun k hk => ?_⟩
    obtain ⟨k, rfl⟩ := succ_of (show 0 < k by omega)
    unfold spec_hiRun.l0
    rw [if_neg (by omega)]
  | more n s hits rot st v1 rot1 st1 hits2 rot2 st2 h h2 ih =>
    obtain ⟨K, hK⟩ := ih (by simp; omega)
    refine ⟨K + s + 2, fun k hk => ?_⟩
    obtain ⟨k2, rfl⟩ : ∃ k2, k = k2 + s + 1 + 1 := ⟨k - s - 2, by omega⟩
    unfold spec_hiRun.l0
    rw [if_pos (by omega), spec_run h hab k2 p _ hits (by omega), show wrap64 (((n + 1 : Nat) : Int) - 1) = (n : Int) by rw [wrap_id (by omega) (by omega)]; omega]
    exact hK k2 (by omega)
end Go.Proofs.Ytnbnalbomflafaa.RA
/-! ## Ce -/
namespace Go.Proofs.Ytnbnalbomflafaa.RA
open Go.RowKit Go.Proofs.YtnbnalbomflafaaW.PrintWords Go.Proofs.YtnbnalbomflafaaW.PrintLast Go.Proofs.YtnbnalbomflafaaW.PrintMore
open Go.Proofs.Ytnbnalbomflafaa.GA
open Go.Proofs.Ytnbnalbomflafaa.GB hiding rd_L1 at_L1
open Go.Proofs.Ytnbnalbomflafaa.GD hiding rd_L1 at_L1
open Go.Proofs.Ytnbnalbomflafaa.GR hiding rd_L1 at_L1
open Go.Proofs.Ytnbnalbomflafaa.GQ hiding rd_L1 at_L1
open Go.Proofs.Ytnbnalbomflafaa.HB hiding rd_L1 at_L1
open Go.Proofs.Ytnbnalbomflafaa.KA
set_option linter.unusedVariables false
set_option linter.unusedSimpArgs false
theorem good_both (l : List (List Int)) (a b : Int) : ∃ u, (∀ k, 400 ≤ k → spec_hiGood.f k l a b = some u ∧ impl_canEnd.f k l a b = some u) ∧ (u = true → placeB l a = true ∧ placeB l b = true ∧ a ≠ b ∧ ∀ v : Int, 0 ≤ v → v < l.length → Ends l a b v) := by
  cases h : placeB l a && placeB l b && (a != b) with
  | false =>
    refine ⟨false, fun k hk => ⟨?_, can_none l a b h k (by omega)⟩, fun h => by cases h⟩
    unfold spec_hiGood.f
    rw [goals_eq l a b k (by omega), h]
    rfl
  | true =>
    obtain ⟨u, hu⟩ := can_both l a b h
    refine ⟨u, fun k hk => ⟨?_, (hu k (by omega)).2⟩, fun hut => ?_⟩
    · unfold spec_hiGood.f
      rw [goals_eq l a b k (by omega), h, Option.bind_some, if_pos rfl, (hu k (by omega)).1]
      rfl
    · simp only [Bool.and_eq_true, bne_iff_ne] at h
      obtain ⟨⟨h1, h2⟩, h3⟩ := h
      obtain ⟨hg, _, h8, _, _⟩ := place_is h1
      refine ⟨h1, h2, h3, fun v h0 hv => ?_⟩
      have hc := (hu 300 (Nat.le_refl _)).1
      rw [hut] at hc
      exact can_told l a b (by omega) 300 0 (Int.le_refl _) hc v h0 hv
open Classical in
noncomputable def goodB (l : List (List Int)) (a b : Int) : Bool := (good_both l a b).choose
theorem goodB_is (l : List (List Int)) (a b : Int) : (∀ k, 400 ≤ k → spec_hiGood.f k l a b = some (goodB l a b) ∧ impl_canEnd.f k l a b = some (goodB l a b)) ∧ (goodB l a b = true → placeB l a = true ∧ placeB l b = true ∧ a ≠ b ∧ ∀ v : Int, 0 ≤ v → v < l.length → Ends l a b v) := (good_both l a b).choose_spec
noncomputable def askedB (l : List (List Int)) (x : List Int) (p a b n : Int) : Bool := goodB l a b && walkB l x p && inB n 0 100
theorem asked_eq (l : List (List Int)) (x : List Int) (p a b n : Int) (k : Nat) (hk : 400 ≤ k) : spec_hiAsked.f k l x p a b n = some (askedB l x p a b n) := by
  unfold spec_hiAsked.f askedB
  rw [((goodB_is l a b).1 k hk).1, Option.bind_some]
  cases goodB l a b with
  | false => rfl
  | true =>
    rw [if_pos rfl, waGood_eq l x p k (by omega), Option.bind_some]
    cases walkB l x p with
    | false => rfl
    | true =>
      rw [if_pos rfl, l1In_eq]
      rfl
theorem okWalk_at : ∀ (l : List (List Int)) (x : List Int), okWalk l x = true → ∀ (i : Nat) (h1 : i < l.length) (h2 : i < x.length), inB x[i] 0 (max ((l[i].length : Int) - 1) 0) = true
  | [], _, _, i, h1, _ => by simp at h1
  | _ :: _, [], _, i, _, h2 => by simp at h2
  | e :: l, r :: s, h, i, h1, h2 => by
    unfold okWalk at h
    rw [Bool.and_eq_true] at h
    cases i with
    | zero => exact h.1
    | succ i => exact okWalk_at l s h.2 i (by simpa using h1) (by simpa using h2)
theorem rots_of {l : List (List Int)} {x : List Int} {p : Int} (h : walkB l x p = true) : Rots l x := by
  obtain ⟨_, hl, hk⟩ := walk_is h
  refine ⟨hl, fun v h0 h1 hd => ?_⟩
  obtain ⟨i, rfl⟩ := Int.eq_ofNat_of_zero_le h0
  have hi : i < l.length := by omega
  have hx : i < x.length := by omega
  have := okWalk_at l x hk i hi hx
  unfold inB at this
  rw [decide_eq_true_eq] at this
  rw [rdL_at l i hi] at hd ⊢
  rw [rd_at x i hx]
  omega
/-- The chips' end, where it is asked. -/
theorem asked_ends {l : List (List Int)} {x : List Int} {p a b n : Int} (h : askedB l x p a b n = true) : a ≠ b ∧ 0 ≤ p ∧ p < l.length ∧ l.length ≤ 8 ∧ Rots l x ∧ 0 ≤ n ∧ n ≤ 100 ∧ ∃ hits2 rot2 st2, Chips l a b p n.toNat [] x 0 hits2 rot2 st2 ∧ Rots l rot2 := by
  unfold askedB at h
  simp only [Bool.and_eq_true] at h
  obtain ⟨⟨h1, h2⟩, h3⟩ := h
  obtain ⟨hpa, hpb, hab, hE⟩ := (goodB_is l a b).2 h1
  obtain ⟨hp, hl, hk⟩ := walk_is h2
  obtain ⟨hg, h11, h8, hp0, hp1⟩ := place_is hp
  unfold inB at h3
  rw [decide_eq_true_eq] at h3
  have hrow : ∀ v : Int, 0 ≤ v → v < l.length → GA.rd_L1 l v ∈ l := fun v h0 h1 => by
    obtain ⟨i, rfl⟩ := Int.eq_ofNat_of_zero_le h0
    rw [rdL_at l i (by omega)]
    exact List.getElem_mem _
  refine ⟨hab, hp0, hp1, h8, rots_of h2, h3.1, h3.2, chips_ex l a b p (fun v h0 h1 => (graph_row hg (hrow v h0 h1)).1) (fun v h0 h1 => (graph_row hg (hrow v h0 h1)).2) hE hp0 hp1 n.toNat [] x 0 (rots_of h2)⟩
open Classical in
noncomputable def chipsA (l : List (List Int)) (x : List Int) (p a b n : Int) : List Int × List Int × Int :=
  if h : askedB l x p a b n = true then ((asked_ends h).2.2.2.2.2.2.2.choose, (asked_ends h).2.2.2.2.2.2.2.choose_spec.choose, (asked_ends h).2.2.2.2.2.2.2.choose_spec.choose_spec.choose) else ([], [], 0)
theorem chipsA_is {l : List (List Int)} {x : List Int} {p a b n : Int} (h : askedB l x p a b n = true) : Chips l a b p n.toNat [] x 0 (chipsA l x p a b n).1 (chipsA l x p a b n).2.1 (chipsA l x p a b n).2.2 ∧ Rots l (chipsA l x p a b n).2.1 := by
  unfold chipsA
  rw [dif_pos h]
  exact (asked_ends h).2.2.2.2.2.2.2.choose_spec.choose_spec.choose_spec
end Go.Proofs.Ytnbnalbomflafaa.RA
/-! ## Cf -/
namespace Go.Proofs.Ytnbnalbomflafaa.RA
open Go.RowKit Go.Proofs.YtnbnalbomflafaaW.PrintWords Go.Proofs.YtnbnalbomflafaaW.PrintLast Go.Proofs.YtnbnalbomflafaaW.PrintMore
open Go.Proofs.Ytnbnalbomflafaa.GA
open Go.Proofs.Ytnbnalbomflafaa.GR hiding rd_L1 at_L1
open Go.Proofs.Ytnbnalbomflafaa.GQ hiding rd_L1 at_L1
open Go.Proofs.Ytnbnalbomflafaa.KA
set_option linter.unusedVariables false
set_option linter.unusedSimpArgs false
theorem hiRun_f {l : List (List Int)} {x : List Int} {p a b n : Int} (h : askedB l x p a b n = true) : ∃ K, ∀ k, K ≤ k → spec_hiRun.f k l x p a b n = some (chipsA l x p a b n) := by
  obtain ⟨hab, hp0, hp1, h8, hR, hn0, hn1, _⟩ := asked_ends h
  obtain ⟨hc, _⟩ := chipsA_is h
  obtain ⟨K, hK⟩ := spec_chips hab hc (by simp; omega)
  refine ⟨K, fun k hk => ?_⟩
  unfold spec_hiRun.f spec_l1Own.f
  have hl := hR.1
  simp only [Option.bind_some, List.nil_append, List.length_nil, Nat.zero_add]
  rw [if_pos (by omega), Option.bind_some]
  have := hK k hk
  rw [Int.toNat_of_nonneg hn0] at this
  exact this
noncomputable def stepsA (l : List (List Int)) (x : List Int) (p a b n : Int) : Int × Bool := if askedB l x p a b n = true then ((chipsA l x p a b n).2.2, true) else (0, false)
noncomputable def hitListA (l : List (List Int)) (x : List Int) (p a b n : Int) : List Int × Bool := if askedB l x p a b n = true then ((chipsA l x p a b n).1, true) else ([], false)
noncomputable def behindA (l : List (List Int)) (x : List Int) (p a b n : Int) : List Int × Bool := if askedB l x p a b n = true then ((chipsA l x p a b n).2.1, true) else ([], false)
theorem hitListA_fits (l : List (List Int)) (x : List Int) (p a b n : Int) : FitsL (hitListA l x p a b n).1 := by
  unfold FitsL hitListA
  cases h : askedB l x p a b n with
  | false => simp
  | true =>
    obtain ⟨_, _, _, _, _, hn0, hn1, _⟩ := asked_ends h
    have := chips_len (chipsA_is h).1
    rw [if_pos rfl]
    simp at this
    show (chipsA l x p a b n).1.length ≤ 1000000
    omega
end Go.Proofs.Ytnbnalbomflafaa.RA
/-! ## Cg -/
namespace Go.Proofs.Ytnbnalbomflafaa.RA
open Go.RowKit Go.Proofs.YtnbnalbomflafaaW.PrintWords Go.Proofs.YtnbnalbomflafaaW.PrintLast Go.Proofs.YtnbnalbomflafaaW.PrintMore
open Go.Proofs.Ytnbnalbomflafaa.GA
set_option linter.unusedVariables false
set_option linter.unusedSimpArgs false
def ST1 : Bool × List (List Nat × List Nat) := (true, [([], []), ([0], [0]), ([], []), ([2], [2]), ([3], [3]), ([4], [4]), ([1, 5], [1, 5]), ([6], [6]), ([7, 0, 1, 2, 3, 4, 5, 6, 7], [7])])
def SB1 : List Nat := [0, 1, 0, 4, 12, 28, 63, 127, 255]
theorem stab1 : rtab .any (opsOf Try.f115 1) = ST1 := by kernel_rfl
theorem sbits1 : waitsOk ST1.2 SB1 = true := by kernel_rfl
def ST4 : Bool × List (List Nat × List Nat) := (true, [([], []), ([0], [0]), ([1], [1]), ([2], [2]), ([], []), ([4], [4]), ([5], [5]), ([6], [6]), ([], []), ([8], [8]), ([9], [9]), ([10], [10]), ([], []), ([12], [12]), ([13], [13]), ([14], [14]), ([11, 15], [11, 15]), ([16], [16]), ([17], [17]), ([], []), ([19], [19]), ([18, 20], [18, 20]), ([3, 7, 0, 1, 2, 3, 4, 5, 6, 7, 8, 9, 10, 11, 12, 13, 14, 15, 16, 17, 18, 19, 20, 21], [3, 7]), ([22, 21, 0, 1, 2, 3, 4, 5, 6, 7, 8, 9, 10, 11, 12, 13, 14, 15, 16, 17, 18, 19, 20, 21], [21, 22])])
def SB4 : List Nat := [0, 1, 3, 7, 0, 16, 48, 112, 0, 256, 768, 1792, 0, 4096, 12288, 28672, 65280, 130816, 261888, 0, 524288, 2096896, 4194303, 8388607]
theorem stab4 : rtab .any (opsOf Try.f115 4) = ST4 := by kernel_rfl
theorem sbits4 : waitsOk ST4.2 SB4 = true := by kernel_rfl
def ST5 : Bool × List (List Nat × List Nat) := (true, [([], []), ([], []), ([], []), ([2], [2]), ([3], [3]), ([4], [4]), ([], []), ([6], [6]), ([7], [7]), ([8], [8]), ([5, 9], [5, 9]), ([10], [10]), ([1, 11], [1, 11]), ([12], [12]), ([0, 0, 1, 2, 3, 4, 5, 6, 7, 8, 9, 10, 11, 12, 13], [0]), ([14, 0, 1, 2, 3, 4, 5, 6, 7, 8, 9, 10, 11, 12, 13], [14]), ([15, 13, 0, 1, 2, 3, 4, 5, 6, 7, 8, 9, 10, 11, 12, 13], [13, 15])])
def SB5 : List Nat := [0, 0, 0, 4, 12, 28, 0, 64, 192, 448, 1020, 2044, 4094, 8190, 16383, 32767, 65535]
theorem stab5 : rtab .any (opsOf Try.f115 5) = ST5 := by kernel_rfl
theorem sbits5 : waitsOk ST5.2 SB5 = true := by kernel_rfl
theorem lastS_ {P : Program} {md : Region.Mode} {ops : Array Oper} {Q : Exit → Act → World → Prop} {S : World → Prop} {ds : List Nat} {i : Nat} {oi : Oper} {fuel : Nat} {l : Array Bool} {a : Act} {w w1 : World} (l' : Array Bool) (hi : ops[i]? = some oi) (hN : oi.dst = none) (hc : readyB md ops l l' i = true) (hd : i ∈ ds)
    (hw : Region.wanted oi (yielded ops a.tmps) = true) (hrun : (execOp a.eval oi).run P w = .ok .skip w1) (h : wpAnyLast P md ops Q S ds fuel l' a w1) : wpAnyLast P md ops Q S ds (fuel + 1) l a w :=
  last_ l' hi hN hc hd fun _ hK => skip_ hw hN hrun (hK.out _ _ h)
theorem setCell_heap {w w1 : World} (h : w1.heap = w.heap) (p : Addr) (v : Value) : (w1.setCell p v).heap = (w.setCell p v).heap := by
  unfold World.setCell
  rw [h]
theorem cell_of {w w1 : World} {p : Addr} (h : w1.heap[p.block]? = w.heap[p.block]?) : w1.cell? p = w.cell? p := by
  unfold World.cell?
  rw [h]
theorem add_block (a : Addr) (n : Nat) : (a.add n).block = a.block := by unfold Addr.add; split <;> rfl
set_option maxHeartbeats 4000000 in
set_option maxRecDepth 100000 in
theorem step_raw (ad : Addr) (c n N : Nat) (B G cap : Nat) (at_ r nxt : Int) (k len cr : Nat) (adr : Addr) (cur : Array Value) (w : World) (hn : N ≤ w.heap.size)
    (h0 : 0 ≤ at_) (h1 : at_ < (n : Int)) (f1 : w.cell? (ad.add at_.toNat) = some (.slice (some adr) len cr)) (bB : w.heap[B]? = some (.cells #[.slice (some ⟨G, 0, none⟩) n cap, .int .i64 at_] 98 (0, 0)))
    (bG : w.heap[G]? = some (.cells cur 3 (0, 0))) (hcur : cur[at_.toNat]? = some (.int .i64 r)) (f5 : w.cell? (adr.add k) = some (.int .i64 nxt)) (hk : k < len) (hkr : Int.tmod (wrap64 (r + 1)) (len : Int) = (k : Int))
    (hBG : B ≠ G) (hr : adr.block ≠ G) (hNB : N ≤ B) (hNG : N ≤ G) :
    Calls Try.prog 115 #[.agg #[.slice (some ad) n c], .pointer (some ⟨B, 0, none⟩)] w fun e w' => e = .returned (.bool true) ∧ Below N w w' ∧ w'.heap = (((w.alloc (.cells #[.slice (some ad) n c] 30)).setCell ⟨G, at_.toNat, none⟩ (.int .i64 k)).setCell ⟨B, 1, none⟩ (.int .i64 nxt)).heap := by
  have kept : ∀ (p : Addr) (v : Value), w.cell? p = some v → (w.alloc (.cells #[.slice (some ad) n c] 30)).cell? p = some v := fun p v h => (World.cell?_alloc_lt _ _ _ (World.block_lt_of_cell? w _ h)).trans h
  have k0 : (w.alloc (.cells #[.slice (some ad) n c] 30)).cell? ⟨w.heap.size, 0, none⟩ = some (.slice (some ad) n c) := (blk_cell (blk_new _ _) 0).trans rfl
  have k1 := kept _ _ f1
  have k5 := kept _ _ f5
  have qB := blk_alloc bB (.cells #[.slice (some ad) n c] 30)
  have qG := blk_alloc bG (.cells #[.slice (some ad) n c] 30)
  have k2 := (blk_cell qB 0).trans rfl
  have k3 := (blk_cell qB 1).trans rfl
  have k4 := (blk_cell qG at_.toNat).trans hcur
  have y1 := blk_frozen qG at_.toNat
  have HQ := Aside0.mk (And.intro qB qG)
  have HB0 := Aside0.mk ((Below.refl N w).alloc hn (.cells #[.slice (some ad) n c] 30))
  clear f1 f5 kept bB bG qB qG
  go_enter Try.func115, Try.ntmps115
  have hl0 : ¬ ((len : Int) = 0) := by omega
  have hl1 : ¬ (len = 0) := by omega
  have HW : Aside0 ((w.alloc (.cells #[.slice (some ad) n c] 30)).heap = (w.alloc (.cells #[.slice (some ad) n c] 30)).heap) := ⟨rfl⟩
  go_upto_region 1 with (fail)
  replace y1 : (w.alloc (.cells #[.slice (some ad) n c] 30)).drew.frozen? ⟨G, at_.toNat, none⟩ = false := y1
  replace k0 : (w.alloc (.cells #[.slice (some ad) n c] 30)).drew.cell? ⟨w.heap.size, 0, none⟩ = some (.slice (some ad) n c) := k0
  replace k1 : (w.alloc (.cells #[.slice (some ad) n c] 30)).drew.cell? (ad.add at_.toNat) = some (.slice (some adr) len cr) := k1
  replace k2 : (w.alloc (.cells #[.slice (some ad) n c] 30)).drew.cell? ⟨B, 0, none⟩ = some (.slice (some ⟨G, 0, none⟩) n cap) := k2
  replace k3 : (w.alloc (.cells #[.slice (some ad) n c] 30)).drew.cell? ⟨B, 1, none⟩ = some (.int .i64 at_) := k3
  replace k4 : (w.alloc (.cells #[.slice (some ad) n c] 30)).drew.cell? ⟨G, at_.toNat, none⟩ = some (.int .i64 r) := k4
  replace k5 : (w.alloc (.cells #[.slice (some ad) n c] 30)).drew.cell? (adr.add k) = some (.int .i64 nxt) := k5
  replace HB0 : Aside0 (Below N w (w.alloc (.cells #[.slice (some ad) n c] 30)).drew) := ⟨pw_below_drewN HB0.out 1⟩
  replace HQ : Aside0 ((w.alloc (.cells #[.slice (some ad) n c] 30)).drew.heap[B]? = some (.cells #[.slice (some ⟨G, 0, none⟩) n cap, .int .i64 at_] 98 (0, 0)) ∧ (w.alloc (.cells #[.slice (some ad) n c] 30)).drew.heap[G]? = some (.cells cur 3 (0, 0))) := ⟨HQ.out⟩
  replace HW : Aside0 ((w.alloc (.cells #[.slice (some ad) n c] 30)).drew.heap = (w.alloc (.cells #[.slice (some ad) n c] 30)).heap) := ⟨HW.out⟩
  refine start_ (n := 9) (S := fun w' => w'.cell? ⟨w.heap.size, 0, none⟩ = some (.slice (some ad) n c) ∧ w'.cell? ⟨B, 1, none⟩ = some (.int .i64 at_) ∧ w'.cell? (ad.add at_.toNat) = some (.slice (some adr) len cr)) (ds := []) #[false, false, false, false, false, false, false, false, false] (by kernel_rfl) rfl rfl ⟨k0, k3, k1⟩ (fun hHeld => ?_)
  refine with_tabW stab1 sbits1 (fun HT_ HW_ => ?_)
  generalize (w.alloc (.cells #[.slice (some ad) n c] 30)).drew = W1 at *
  refine pure_ (i := 0) (N := some 6) (v := ?_) (a' := ?_) #[true, false, false, false, false, false, false, false, false] rfl rfl (any_of HT_.out (by kernel_rfl)) (fun _ _ _ h => h) (Or.inl ⟨by rfl, ?_⟩) ?_ ?_
  rotate_left
  · intro w'
    go_simp
    with_reducible rfl
  rotate_left
  · simp only [Act.put, List.setIfInBounds_toArray, List.set_cons_zero, List.set_cons_succ, i64_w, i32_w]
    rfl
  refine take_ (i := 1) (N := some 7) (v := ?_) (a' := ?_) #[true, true, false, false, false, false, false, false, false] rfl rfl (take_ofW HT_.out HW_.out (by kernel_rfl)) (fun _ _ _ h => h) (Or.inl ⟨by rfl, ?_⟩) hHeld ?_ ?_
  rotate_left
  · rintro w' ⟨s0, s1, s2⟩
    go_simp
    with_reducible rfl
  rotate_left
  · simp only [Act.put, List.setIfInBounds_toArray, List.set_cons_zero, List.set_cons_succ, i64_w, i32_w]
    rfl
  refine pure_ (i := 2) (N := some 8) (v := ?_) (a' := ?_) #[true, true, true, false, false, false, false, false, false] rfl rfl (any_of HT_.out (by kernel_rfl)) (fun _ _ _ h => h) (Or.inl ⟨by rfl, ?_⟩) ?_ ?_
  rotate_left
  · intro w'
    go_simp
    with_reducible rfl
  rotate_left
  · simp only [Act.put, List.setIfInBounds_toArray, List.set_cons_zero, List.set_cons_succ, i64_w, i32_w]
    rfl
  refine pure_ (i := 3) (N := some 9) (v := ?_) (a' := ?_) #[true, true, true, true, false, false, false, false, false] rfl rfl (any_of HT_.out (by kernel_rfl)) (fun _ _ _ h => h) (Or.inl ⟨by rfl, ?_⟩) ?_ ?_
  rotate_left
  · intro w'
    go_simp
    with_reducible rfl
  rotate_left
  · simp only [Act.put, List.setIfInBounds_toArray, List.set_cons_zero, List.set_cons_succ, i64_w, i32_w]
    rfl
  refine pure_ (i := 4) (N := some 10) (v := ?_) (a' := ?_) #[true, true, true, true, true, false, false, false, false] rfl rfl (any_of HT_.out (by kernel_rfl)) (fun _ _ _ h => h) (Or.inl ⟨by rfl, ?_⟩) ?_ ?_
  rotate_left
  · intro w'
    go_simp
    with_reducible rfl
  rotate_left
  · simp only [Act.put, List.setIfInBounds_toArray, List.set_cons_zero, List.set_cons_succ, i64_w, i32_w]
    rfl
  refine take_ (i := 5) (N := some 11) (v := ?_) (a' := ?_) #[true, true, true, true, true, true, false, false, false] rfl rfl (take_ofW HT_.out HW_.out (by kernel_rfl)) (fun _ _ _ h => h) (Or.inl ⟨by rfl, ?_⟩) hHeld ?_ ?_
  rotate_left
  · rintro w' ⟨s0, s1, s2⟩
    go_simp
    with_reducible rfl
  rotate_left
  · simp only [Act.put, List.setIfInBounds_toArray, List.set_cons_zero, List.set_cons_succ, i64_w, i32_w]
    rfl
  refine pure_ (i := 6) (N := some 12) (v := ?_) (a' := ?_) #[true, true, true, true, true, true, true, false, false] rfl rfl (any_of HT_.out (by kernel_rfl)) (fun _ _ _ h => h) (Or.inl ⟨by rfl, ?_⟩) ?_ ?_
  rotate_left
  · intro w'
    go_simp
    with_reducible rfl
  rotate_left
  · simp only [Act.put, List.setIfInBounds_toArray, List.set_cons_zero, List.set_cons_succ, i64_w, i32_w]
    rfl
  refine take_ (i := 7) (N := some 13) (v := ?_) (a' := ?_) #[true, true, true, true, true, true, true, true, false] rfl rfl (take_ofW HT_.out HW_.out (by kernel_rfl)) (fun _ _ _ h => h) (Or.inl ⟨by rfl, ?_⟩) hHeld ?_ ?_
  rotate_left
  · rintro w' ⟨s0, s1, s2⟩
    go_simp
    with_reducible rfl
  rotate_left
  · simp only [Act.put, List.setIfInBounds_toArray, List.set_cons_zero, List.set_cons_succ, i64_w, i32_w]
    rfl
  refine pure_ (i := 8) (N := some 5) (v := ?_) (a' := ?_) #[true, true, true, true, true, true, true, true, true] rfl rfl (any_of HT_.out (by kernel_rfl)) (fun _ _ _ h => h) (Or.inl ⟨by rfl, ?_⟩) ?_ ?_
  rotate_left
  · intro w'
    go_simp
    with_reducible rfl
  rotate_left
  · simp only [Act.put, List.setIfInBounds_toArray, List.set_cons_zero, List.set_cons_succ, i64_w, i32_w]
    rfl
  refine done_ (done_of HT_.out (by kernel_rfl)) ?_
  clear HT_ HW_ hHeld
  go_upto_region 4 with (fail)
  replace y1 : W1.drew.frozen? ⟨G, at_.toNat, none⟩ = false := y1
  replace k0 : W1.drew.cell? ⟨w.heap.size, 0, none⟩ = some (.slice (some ad) n c) := k0
  replace k1 : W1.drew.cell? (ad.add at_.toNat) = some (.slice (some adr) len cr) := k1
  replace k2 : W1.drew.cell? ⟨B, 0, none⟩ = some (.slice (some ⟨G, 0, none⟩) n cap) := k2
  replace k3 : W1.drew.cell? ⟨B, 1, none⟩ = some (.int .i64 at_) := k3
  replace k4 : W1.drew.cell? ⟨G, at_.toNat, none⟩ = some (.int .i64 r) := k4
  replace k5 : W1.drew.cell? (adr.add k) = some (.int .i64 nxt) := k5
  replace HB0 : Aside0 (Below N w W1.drew) := ⟨pw_below_drewN HB0.out 1⟩
  replace HQ : Aside0 (W1.drew.heap[B]? = some (.cells #[.slice (some ⟨G, 0, none⟩) n cap, .int .i64 at_] 98 (0, 0)) ∧ W1.drew.heap[G]? = some (.cells cur 3 (0, 0))) := ⟨HQ.out⟩
  replace HW : Aside0 (W1.drew.heap = (w.alloc (.cells #[.slice (some ad) n c] 30)).heap) := ⟨HW.out⟩
  refine start_ (n := 24) (S := fun w' => w'.cell? ⟨B, 0, none⟩ = some (.slice (some ⟨G, 0, none⟩) n cap) ∧ w'.cell? ⟨B, 1, none⟩ = some (.int .i64 at_) ∧ w'.cell? ⟨G, at_.toNat, none⟩ = some (.int .i64 r)) (ds := [23]) #[false, false, false, false, false, false, false, false, false, false, false, false, false, false, false, false, false, false, false, false, false, false, false, false] (by kernel_rfl) rfl rfl ⟨k2, k3, k4⟩ (fun hHeld => ?_)
  refine with_tabW stab4 sbits4 (fun HT_ HW_ => ?_)
  generalize W1.drew = W2 at *
  refine pure_ (i := 0) (N := some 17) (v := ?_) (a' := ?_) #[true, false, false, false, false, false, false, false, false, false, false, false, false, false, false, false, false, false, false, false, false, false, false, false] rfl rfl (any_of HT_.out (by kernel_rfl)) (fun _ _ _ h => h) (Or.inl ⟨by rfl, ?_⟩) ?_ ?_
  rotate_left
  · intro w'
    go_simp
    with_reducible rfl
  rotate_left
  · simp only [Act.put, List.setIfInBounds_toArray, List.set_cons_zero, List.set_cons_succ, i64_w, i32_w]
    rfl
  refine pure_ (i := 1) (N := some 18) (v := ?_) (a' := ?_) #[true, true, false, false, false, false, false, false, false, false, false, false, false, false, false, false, false, false, false, false, false, false, false, false] rfl rfl (any_of HT_.out (by kernel_rfl)) (fun _ _ _ h => h) (Or.inl ⟨by rfl, ?_⟩) ?_ ?_
  rotate_left
  · intro w'
    go_simp
    with_reducible rfl
  rotate_left
  · simp only [Act.put, List.setIfInBounds_toArray, List.set_cons_zero, List.set_cons_succ, i64_w, i32_w]
    rfl
  refine pure_ (i := 2) (N := some 19) (v := ?_) (a' := ?_) #[true, true, true, false, false, false, false, false, false, false, false, false, false, false, false, false, false, false, false, false, false, false, false, false] rfl rfl (any_of HT_.out (by kernel_rfl)) (fun _ _ _ h => h) (Or.inl ⟨by rfl, ?_⟩) ?_ ?_
  rotate_left
  · intro w'
    go_simp
    with_reducible rfl
  rotate_left
  · simp only [Act.put, List.setIfInBounds_toArray, List.set_cons_zero, List.set_cons_succ, i64_w, i32_w]
    rfl
  refine take_ (i := 3) (N := some 20) (v := ?_) (a' := ?_) #[true, true, true, true, false, false, false, false, false, false, false, false, false, false, false, false, false, false, false, false, false, false, false, false] rfl rfl (take_ofW HT_.out HW_.out (by kernel_rfl)) (fun _ _ _ h => h) (Or.inl ⟨by rfl, ?_⟩) hHeld ?_ ?_
  rotate_left
  · rintro w' ⟨s0, s1, s2⟩
    go_simp
    with_reducible rfl
  rotate_left
  · simp only [Act.put, List.setIfInBounds_toArray, List.set_cons_zero, List.set_cons_succ, i64_w, i32_w]
    rfl
  refine pure_ (i := 4) (N := some 21) (v := ?_) (a' := ?_) #[true, true, true, true, true, false, false, false, false, false, false, false, false, false, false, false, false, false, false, false, false, false, false, false] rfl rfl (any_of HT_.out (by kernel_rfl)) (fun _ _ _ h => h) (Or.inl ⟨by rfl, ?_⟩) ?_ ?_
  rotate_left
  · intro w'
    go_simp
    with_reducible rfl
  rotate_left
  · simp only [Act.put, List.setIfInBounds_toArray, List.set_cons_zero, List.set_cons_succ, i64_w, i32_w]
    rfl
  refine pure_ (i := 5) (N := some 22) (v := ?_) (a' := ?_) #[true, true, true, true, true, true, false, false, false, false, false, false, false, false, false, false, false, false, false, false, false, false, false, false] rfl rfl (any_of HT_.out (by kernel_rfl)) (fun _ _ _ h => h) (Or.inl ⟨by rfl, ?_⟩) ?_ ?_
  rotate_left
  · intro w'
    go_simp
    with_reducible rfl
  rotate_left
  · simp only [Act.put, List.setIfInBounds_toArray, List.set_cons_zero, List.set_cons_succ, i64_w, i32_w]
    rfl
  refine pure_ (i := 6) (N := some 23) (v := ?_) (a' := ?_) #[true, true, true, true, true, true, true, false, false, false, false, false, false, false, false, false, false, false, false, false, false, false, false, false] rfl rfl (any_of HT_.out (by kernel_rfl)) (fun _ _ _ h => h) (Or.inl ⟨by rfl, ?_⟩) ?_ ?_
  rotate_left
  · intro w'
    go_simp
    with_reducible rfl
  rotate_left
  · simp only [Act.put, List.setIfInBounds_toArray, List.set_cons_zero, List.set_cons_succ, i64_w, i32_w]
    rfl
  refine take_ (i := 7) (N := some 24) (v := ?_) (a' := ?_) #[true, true, true, true, true, true, true, true, false, false, false, false, false, false, false, false, false, false, false, false, false, false, false, false] rfl rfl (take_ofW HT_.out HW_.out (by kernel_rfl)) (fun _ _ _ h => h) (Or.inl ⟨by rfl, ?_⟩) hHeld ?_ ?_
  rotate_left
  · rintro w' ⟨s0, s1, s2⟩
    go_simp
    with_reducible rfl
  rotate_left
  · simp only [Act.put, List.setIfInBounds_toArray, List.set_cons_zero, List.set_cons_succ, i64_w, i32_w]
    rfl
  refine pure_ (i := 8) (N := some 25) (v := ?_) (a' := ?_) #[true, true, true, true, true, true, true, true, true, false, false, false, false, false, false, false, false, false, false, false, false, false, false, false] rfl rfl (any_of HT_.out (by kernel_rfl)) (fun _ _ _ h => h) (Or.inl ⟨by rfl, ?_⟩) ?_ ?_
  rotate_left
  · intro w'
    go_simp
    with_reducible rfl
  rotate_left
  · simp only [Act.put, List.setIfInBounds_toArray, List.set_cons_zero, List.set_cons_succ, i64_w, i32_w]
    rfl
  refine pure_ (i := 9) (N := some 26) (v := ?_) (a' := ?_) #[true, true, true, true, true, true, true, true, true, true, false, false, false, false, false, false, false, false, false, false, false, false, false, false] rfl rfl (any_of HT_.out (by kernel_rfl)) (fun _ _ _ h => h) (Or.inl ⟨by rfl, ?_⟩) ?_ ?_
  rotate_left
  · intro w'
    go_simp
    with_reducible rfl
  rotate_left
  · simp only [Act.put, List.setIfInBounds_toArray, List.set_cons_zero, List.set_cons_succ, i64_w, i32_w]
    rfl
  refine pure_ (i := 10) (N := some 27) (v := ?_) (a' := ?_) #[true, true, true, true, true, true, true, true, true, true, true, false, false, false, false, false, false, false, false, false, false, false, false, false] rfl rfl (any_of HT_.out (by kernel_rfl)) (fun _ _ _ h => h) (Or.inl ⟨by rfl, ?_⟩) ?_ ?_
  rotate_left
  · intro w'
    go_simp
    with_reducible rfl
  rotate_left
  · simp only [Act.put, List.setIfInBounds_toArray, List.set_cons_zero, List.set_cons_succ, i64_w, i32_w]
    rfl
  refine take_ (i := 11) (N := some 28) (v := ?_) (a' := ?_) #[true, true, true, true, true, true, true, true, true, true, true, true, false, false, false, false, false, false, false, false, false, false, false, false] rfl rfl (take_ofW HT_.out HW_.out (by kernel_rfl)) (fun _ _ _ h => h) (Or.inl ⟨by rfl, ?_⟩) hHeld ?_ ?_
  rotate_left
  · rintro w' ⟨s0, s1, s2⟩
    go_simp
    with_reducible rfl
  rotate_left
  · simp only [Act.put, List.setIfInBounds_toArray, List.set_cons_zero, List.set_cons_succ, i64_w, i32_w]
    rfl
  refine pure_ (i := 12) (N := some 29) (v := ?_) (a' := ?_) #[true, true, true, true, true, true, true, true, true, true, true, true, true, false, false, false, false, false, false, false, false, false, false, false] rfl rfl (any_of HT_.out (by kernel_rfl)) (fun _ _ _ h => h) (Or.inl ⟨by rfl, ?_⟩) ?_ ?_
  rotate_left
  · intro w'
    go_simp
    with_reducible rfl
  rotate_left
  · simp only [Act.put, List.setIfInBounds_toArray, List.set_cons_zero, List.set_cons_succ, i64_w, i32_w]
    rfl
  refine pure_ (i := 13) (N := some 30) (v := ?_) (a' := ?_) #[true, true, true, true, true, true, true, true, true, true, true, true, true, true, false, false, false, false, false, false, false, false, false, false] rfl rfl (any_of HT_.out (by kernel_rfl)) (fun _ _ _ h => h) (Or.inl ⟨by rfl, ?_⟩) ?_ ?_
  rotate_left
  · intro w'
    go_simp
    with_reducible rfl
  rotate_left
  · simp only [Act.put, List.setIfInBounds_toArray, List.set_cons_zero, List.set_cons_succ, i64_w, i32_w]
    rfl
  refine pure_ (i := 14) (N := some 31) (v := ?_) (a' := ?_) #[true, true, true, true, true, true, true, true, true, true, true, true, true, true, true, false, false, false, false, false, false, false, false, false] rfl rfl (any_of HT_.out (by kernel_rfl)) (fun _ _ _ h => h) (Or.inl ⟨by rfl, ?_⟩) ?_ ?_
  rotate_left
  · intro w'
    go_simp
    with_reducible rfl
  rotate_left
  · simp only [Act.put, List.setIfInBounds_toArray, List.set_cons_zero, List.set_cons_succ, i64_w, i32_w]
    rfl
  refine take_ (i := 15) (N := some 32) (v := ?_) (a' := ?_) #[true, true, true, true, true, true, true, true, true, true, true, true, true, true, true, true, false, false, false, false, false, false, false, false] rfl rfl (take_ofW HT_.out HW_.out (by kernel_rfl)) (fun _ _ _ h => h) (Or.inl ⟨by rfl, ?_⟩) hHeld ?_ ?_
  rotate_left
  · rintro w' ⟨s0, s1, s2⟩
    go_simp
    with_reducible rfl
  rotate_left
  · simp only [Act.put, List.setIfInBounds_toArray, List.set_cons_zero, List.set_cons_succ, i64_w, i32_w]
    rfl
  refine pure_ (i := 16) (N := some 33) (v := ?_) (a' := ?_) #[true, true, true, true, true, true, true, true, true, true, true, true, true, true, true, true, true, false, false, false, false, false, false, false] rfl rfl (any_of HT_.out (by kernel_rfl)) (fun _ _ _ h => h) (Or.inl ⟨by rfl, ?_⟩) ?_ ?_
  rotate_left
  · intro w'
    go_simp
    with_reducible rfl
  rotate_left
  · simp only [Act.put, List.setIfInBounds_toArray, List.set_cons_zero, List.set_cons_succ, i64_w, i32_w]
    rfl
  refine take_ (i := 17) (N := some 34) (v := ?_) (a' := ?_) #[true, true, true, true, true, true, true, true, true, true, true, true, true, true, true, true, true, true, false, false, false, false, false, false] rfl rfl (take_ofW HT_.out HW_.out (by kernel_rfl)) (fun _ _ _ h => h) (Or.inl ⟨by rfl, ?_⟩) hHeld ?_ ?_
  rotate_left
  · rintro w' ⟨s0, s1, s2⟩
    go_simp
    with_reducible rfl
  rotate_left
  · simp only [Act.put, List.setIfInBounds_toArray, List.set_cons_zero, List.set_cons_succ, i64_w, i32_w]
    rfl
  refine pure_ (i := 18) (N := some 35) (v := ?_) (a' := ?_) #[true, true, true, true, true, true, true, true, true, true, true, true, true, true, true, true, true, true, true, false, false, false, false, false] rfl rfl (any_of HT_.out (by kernel_rfl)) (fun _ _ _ h => h) (Or.inl ⟨by rfl, ?_⟩) ?_ ?_
  rotate_left
  · intro w'
    go_simp
    with_reducible rfl
  rotate_left
  · simp only [Act.put, List.setIfInBounds_toArray, List.set_cons_zero, List.set_cons_succ, i64_w, i32_w]
    rfl
  refine pure_ (i := 19) (N := some 36) (v := ?_) (a' := ?_) #[true, true, true, true, true, true, true, true, true, true, true, true, true, true, true, true, true, true, true, true, false, false, false, false] rfl rfl (any_of HT_.out (by kernel_rfl)) (fun _ _ _ h => h) (Or.inl ⟨by rfl, ?_⟩) ?_ ?_
  rotate_left
  · intro w'
    go_simp
    with_reducible rfl
  rotate_left
  · simp only [Act.put, List.setIfInBounds_toArray, List.set_cons_zero, List.set_cons_succ, i64_w, i32_w]
    rfl
  refine pure_ (i := 20) (N := some 37) (v := ?_) (a' := ?_) #[true, true, true, true, true, true, true, true, true, true, true, true, true, true, true, true, true, true, true, true, true, false, false, false] rfl rfl (any_of HT_.out (by kernel_rfl)) (fun _ _ _ h => h) (Or.inl ⟨by rfl, ?_⟩) ?_ ?_
  rotate_left
  · intro w'
    go_simp
    with_reducible rfl
  rotate_left
  · simp only [Act.put, List.setIfInBounds_toArray, List.set_cons_zero, List.set_cons_succ, i64_w, i32_w]
    rfl
  refine pure_ (i := 21) (N := some 38) (v := ?_) (a' := ?_) #[true, true, true, true, true, true, true, true, true, true, true, true, true, true, true, true, true, true, true, true, true, true, false, false] rfl rfl (any_of HT_.out (by kernel_rfl)) (fun _ _ _ h => h) (Or.inl ⟨by rfl, ?_⟩) ?_ ?_
  rotate_left
  · intro w'
    go_simp
    with_reducible rfl
  rotate_left
  · simp only [Act.put, List.setIfInBounds_toArray, List.set_cons_zero, List.set_cons_succ, i64_w, i32_w]
    rfl
  refine pure_ (i := 22) (N := some 39) (v := ?_) (a' := ?_) #[true, true, true, true, true, true, true, true, true, true, true, true, true, true, true, true, true, true, true, true, true, true, true, false] rfl rfl (any_of HT_.out (by kernel_rfl)) (fun _ _ _ h => h) (Or.inl ⟨by rfl, ?_⟩) ?_ ?_
  rotate_left
  · intro w'
    go_simp
    with_reducible rfl
  rotate_left
  · simp only [Act.put, List.setIfInBounds_toArray, List.set_cons_zero, List.set_cons_succ, i64_w, i32_w]
    rfl
  refine lastS_ (i := 23) (w1 := W2.setCell ⟨G, at_.toNat, none⟩ (.int .i64 (Int.tmod (wrap64 (r + 1)) (len : Int)))) #[true, true, true, true, true, true, true, true, true, true, true, true, true, true, true, true, true, true, true, true, true, true, true, true] rfl rfl (one_of HT_.out (by kernel_rfl)) (by decide) (by rfl) ?_ ?_
  · go_simp
  (try simp only [Act.put, List.setIfInBounds_toArray, List.set_cons_zero, List.set_cons_succ])
  rw [hkr]
  refine done_ (done_of HT_.out (by kernel_rfl)) ?_
  have pB : (W2.setCell ⟨G, at_.toNat, none⟩ (.int .i64 k)).heap[B]? = _ := blk_far HQ.out.1 (p := ⟨G, at_.toNat, none⟩) hBG (.int .i64 k)
  have pG : (W2.setCell ⟨G, at_.toNat, none⟩ (.int .i64 k)).heap[G]? = _ := blk_set HQ.out.2 at_.toNat (.int .i64 k)
  have hlt : at_.toNat < cur.size := (Array.getElem?_eq_some_iff.1 hcur).1
  have c6 : (W2.setCell ⟨G, at_.toNat, none⟩ (.int .i64 k)).cell? ⟨G, at_.toNat, none⟩ = some (.int .i64 k) := (blk_cell pG at_.toNat).trans (Array.getElem?_setIfInBounds_self_of_lt hlt)
  have c2 := (blk_cell pB 0).trans rfl
  have c3 := (blk_cell pB 1).trans rfl
  have c5 : (W2.setCell ⟨G, at_.toNat, none⟩ (.int .i64 k)).cell? (adr.add k) = some (.int .i64 nxt) := (cell_of (Below.heap_setCell _ _ _ _ (by rw [add_block]; exact hr))).trans k5
  have y2 := blk_frozen pB 1
  have HB2 : Aside0 (Below N w (W2.setCell ⟨G, at_.toNat, none⟩ (.int .i64 k))) := ⟨HB0.out.setCell hNG _⟩
  have HW2 : Aside0 ((W2.setCell ⟨G, at_.toNat, none⟩ (.int .i64 k)).heap = ((w.alloc (.cells #[.slice (some ad) n c] 30)).setCell ⟨G, at_.toNat, none⟩ (.int .i64 k)).heap) := ⟨setCell_heap HW.out _ _⟩
  clear k0 k1 k2 k3 k4 k5 y1 HB0 HW HQ pB pG hHeld HT_ HW_
  have k2 := c2
  have k3 := c3
  have k5 := c5
  have k6 := c6
  have HB0 := HB2
  have HW := HW2
  clear c2 c3 c5 c6 HB2 HW2
  generalize W2.setCell ⟨G, at_.toNat, none⟩ (.int .i64 k) = W3 at *
  go_upto_region 5 with (fail)
  replace k2 : W3.drew.cell? ⟨B, 0, none⟩ = some (.slice (some ⟨G, 0, none⟩) n cap) := k2
  replace k3 : W3.drew.cell? ⟨B, 1, none⟩ = some (.int .i64 at_) := k3
  replace k5 : W3.drew.cell? (adr.add k) = some (.int .i64 nxt) := k5
  replace k6 : W3.drew.cell? ⟨G, at_.toNat, none⟩ = some (.int .i64 k) := k6
  replace y2 : W3.drew.frozen? ⟨B, 1, none⟩ = false := y2
  replace HB0 : Aside0 (Below N w W3.drew) := ⟨pw_below_drewN HB0.out 1⟩
  replace HW : Aside0 (W3.drew.heap = ((w.alloc (.cells #[.slice (some ad) n c] 30)).setCell ⟨G, at_.toNat, none⟩ (.int .i64 k)).heap) := ⟨HW.out⟩
  refine start_ (n := 17) (S := fun w' => w'.cell? ⟨B, 0, none⟩ = some (.slice (some ⟨G, 0, none⟩) n cap) ∧ w'.cell? ⟨B, 1, none⟩ = some (.int .i64 at_) ∧ w'.cell? (adr.add k) = some (.int .i64 nxt) ∧ w'.cell? ⟨G, at_.toNat, none⟩ = some (.int .i64 k)) (ds := [16]) #[false, false, false, false, false, false, false, false, false, false, false, false, false, false, false, false, false] (by kernel_rfl) rfl rfl ⟨k2, k3, k5, k6⟩ (fun hHeld => ?_)
  refine with_tabW stab5 sbits5 (fun HT_ HW_ => ?_)
  generalize W3.drew = W4 at *
  refine pure_ (i := 0) (N := some 40) (v := ?_) (a' := ?_) #[true, false, false, false, false, false, false, false, false, false, false, false, false, false, false, false, false] rfl rfl (any_of HT_.out (by kernel_rfl)) (fun _ _ _ h => h) (Or.inl ⟨by rfl, ?_⟩) ?_ ?_
  rotate_left
  · intro w'
    go_simp
    with_reducible rfl
  rotate_left
  · simp only [Act.put, List.setIfInBounds_toArray, List.set_cons_zero, List.set_cons_succ, i64_w, i32_w]
    rfl
  refine pure_ (i := 1) (N := some 41) (v := ?_) (a' := ?_) #[true, true, false, false, false, false, false, false, false, false, false, false, false, false, false, false, false] rfl rfl (any_of HT_.out (by kernel_rfl)) (fun _ _ _ h => h) (Or.inl ⟨by rfl, ?_⟩) ?_ ?_
  rotate_left
  · intro w'
    go_simp
    with_reducible rfl
  rotate_left
  · simp only [Act.put, List.setIfInBounds_toArray, List.set_cons_zero, List.set_cons_succ, i64_w, i32_w]
    rfl
  refine pure_ (i := 2) (N := some 42) (v := ?_) (a' := ?_) #[true, true, true, false, false, false, false, false, false, false, false, false, false, false, false, false, false] rfl rfl (any_of HT_.out (by kernel_rfl)) (fun _ _ _ h => h) (Or.inl ⟨by rfl, ?_⟩) ?_ ?_
  rotate_left
  · intro w'
    go_simp
    with_reducible rfl
  rotate_left
  · simp only [Act.put, List.setIfInBounds_toArray, List.set_cons_zero, List.set_cons_succ, i64_w, i32_w]
    rfl
  refine pure_ (i := 3) (N := some 43) (v := ?_) (a' := ?_) #[true, true, true, true, false, false, false, false, false, false, false, false, false, false, false, false, false] rfl rfl (any_of HT_.out (by kernel_rfl)) (fun _ _ _ h => h) (Or.inl ⟨by rfl, ?_⟩) ?_ ?_
  rotate_left
  · intro w'
    go_simp
    with_reducible rfl
  rotate_left
  · simp only [Act.put, List.setIfInBounds_toArray, List.set_cons_zero, List.set_cons_succ, i64_w, i32_w]
    rfl
  refine pure_ (i := 4) (N := some 44) (v := ?_) (a' := ?_) #[true, true, true, true, true, false, false, false, false, false, false, false, false, false, false, false, false] rfl rfl (any_of HT_.out (by kernel_rfl)) (fun _ _ _ h => h) (Or.inl ⟨by rfl, ?_⟩) ?_ ?_
  rotate_left
  · intro w'
    go_simp
    with_reducible rfl
  rotate_left
  · simp only [Act.put, List.setIfInBounds_toArray, List.set_cons_zero, List.set_cons_succ, i64_w, i32_w]
    rfl
  refine take_ (i := 5) (N := some 45) (v := ?_) (a' := ?_) #[true, true, true, true, true, true, false, false, false, false, false, false, false, false, false, false, false] rfl rfl (take_ofW HT_.out HW_.out (by kernel_rfl)) (fun _ _ _ h => h) (Or.inl ⟨by rfl, ?_⟩) hHeld ?_ ?_
  rotate_left
  · rintro w' ⟨s0, s1, s2, s3⟩
    go_simp
    with_reducible rfl
  rotate_left
  · simp only [Act.put, List.setIfInBounds_toArray, List.set_cons_zero, List.set_cons_succ, i64_w, i32_w]
    rfl
  refine pure_ (i := 6) (N := some 46) (v := ?_) (a' := ?_) #[true, true, true, true, true, true, true, false, false, false, false, false, false, false, false, false, false] rfl rfl (any_of HT_.out (by kernel_rfl)) (fun _ _ _ h => h) (Or.inl ⟨by rfl, ?_⟩) ?_ ?_
  rotate_left
  · intro w'
    go_simp
    with_reducible rfl
  rotate_left
  · simp only [Act.put, List.setIfInBounds_toArray, List.set_cons_zero, List.set_cons_succ, i64_w, i32_w]
    rfl
  refine pure_ (i := 7) (N := some 47) (v := ?_) (a' := ?_) #[true, true, true, true, true, true, true, true, false, false, false, false, false, false, false, false, false] rfl rfl (any_of HT_.out (by kernel_rfl)) (fun _ _ _ h => h) (Or.inl ⟨by rfl, ?_⟩) ?_ ?_
  rotate_left
  · intro w'
    go_simp
    with_reducible rfl
  rotate_left
  · simp only [Act.put, List.setIfInBounds_toArray, List.set_cons_zero, List.set_cons_succ, i64_w, i32_w]
    rfl
  refine pure_ (i := 8) (N := some 48) (v := ?_) (a' := ?_) #[true, true, true, true, true, true, true, true, true, false, false, false, false, false, false, false, false] rfl rfl (any_of HT_.out (by kernel_rfl)) (fun _ _ _ h => h) (Or.inl ⟨by rfl, ?_⟩) ?_ ?_
  rotate_left
  · intro w'
    go_simp
    with_reducible rfl
  rotate_left
  · simp only [Act.put, List.setIfInBounds_toArray, List.set_cons_zero, List.set_cons_succ, i64_w, i32_w]
    rfl
  refine take_ (i := 9) (N := some 49) (v := ?_) (a' := ?_) #[true, true, true, true, true, true, true, true, true, true, false, false, false, false, false, false, false] rfl rfl (take_ofW HT_.out HW_.out (by kernel_rfl)) (fun _ _ _ h => h) (Or.inl ⟨by rfl, ?_⟩) hHeld ?_ ?_
  rotate_left
  · rintro w' ⟨s0, s1, s2, s3⟩
    go_simp
    with_reducible rfl
  rotate_left
  · simp only [Act.put, List.setIfInBounds_toArray, List.set_cons_zero, List.set_cons_succ, i64_w, i32_w]
    rfl
  refine pure_ (i := 10) (N := some 50) (v := ?_) (a' := ?_) #[true, true, true, true, true, true, true, true, true, true, true, false, false, false, false, false, false] rfl rfl (any_of HT_.out (by kernel_rfl)) (fun _ _ _ h => h) (Or.inl ⟨by rfl, ?_⟩) ?_ ?_
  rotate_left
  · intro w'
    go_simp
    with_reducible rfl
  rotate_left
  · simp only [Act.put, List.setIfInBounds_toArray, List.set_cons_zero, List.set_cons_succ, i64_w, i32_w]
    rfl
  refine take_ (i := 11) (N := some 51) (v := ?_) (a' := ?_) #[true, true, true, true, true, true, true, true, true, true, true, true, false, false, false, false, false] rfl rfl (take_ofW HT_.out HW_.out (by kernel_rfl)) (fun _ _ _ h => h) (Or.inl ⟨by rfl, ?_⟩) hHeld ?_ ?_
  rotate_left
  · rintro w' ⟨s0, s1, s2, s3⟩
    go_simp
    with_reducible rfl
  rotate_left
  · simp only [Act.put, List.setIfInBounds_toArray, List.set_cons_zero, List.set_cons_succ, i64_w, i32_w]
    rfl
  refine pure_ (i := 12) (N := some 52) (v := ?_) (a' := ?_) #[true, true, true, true, true, true, true, true, true, true, true, true, true, false, false, false, false] rfl rfl (any_of HT_.out (by kernel_rfl)) (fun _ _ _ h => h) (Or.inl ⟨by rfl, ?_⟩) ?_ ?_
  rotate_left
  · intro w'
    go_simp
    with_reducible rfl
  rotate_left
  · simp only [Act.put, List.setIfInBounds_toArray, List.set_cons_zero, List.set_cons_succ, i64_w, i32_w]
    rfl
  refine take_ (i := 13) (N := some 53) (v := ?_) (a' := ?_) #[true, true, true, true, true, true, true, true, true, true, true, true, true, true, false, false, false] rfl rfl (take_ofW HT_.out HW_.out (by kernel_rfl)) (fun _ _ _ h => h) (Or.inl ⟨by rfl, ?_⟩) hHeld ?_ ?_
  rotate_left
  · rintro w' ⟨s0, s1, s2, s3⟩
    go_simp
    with_reducible rfl
  rotate_left
  · simp only [Act.put, List.setIfInBounds_toArray, List.set_cons_zero, List.set_cons_succ, i64_w, i32_w]
    rfl
  refine pure_ (i := 14) (N := some 54) (v := ?_) (a' := ?_) #[true, true, true, true, true, true, true, true, true, true, true, true, true, true, true, false, false] rfl rfl (any_of HT_.out (by kernel_rfl)) (fun _ _ _ h => h) (Or.inl ⟨by rfl, ?_⟩) ?_ ?_
  rotate_left
  · intro w'
    go_simp
    with_reducible rfl
  rotate_left
  · simp only [Act.put, List.setIfInBounds_toArray, List.set_cons_zero, List.set_cons_succ, i64_w, i32_w]
    rfl
  refine pure_ (i := 15) (N := some 55) (v := ?_) (a' := ?_) #[true, true, true, true, true, true, true, true, true, true, true, true, true, true, true, true, false] rfl rfl (any_of HT_.out (by kernel_rfl)) (fun _ _ _ h => h) (Or.inl ⟨by rfl, ?_⟩) ?_ ?_
  rotate_left
  · intro w'
    go_simp
    with_reducible rfl
  rotate_left
  · simp only [Act.put, List.setIfInBounds_toArray, List.set_cons_zero, List.set_cons_succ, i64_w, i32_w]
    rfl
  refine lastS_ (i := 16) (w1 := W4.setCell ⟨B, 1, none⟩ (.int .i64 nxt)) #[true, true, true, true, true, true, true, true, true, true, true, true, true, true, true, true, true] rfl rfl (one_of HT_.out (by kernel_rfl)) (by decide) (by rfl) ?_ ?_
  · go_simp
  (try simp only [Act.put, List.setIfInBounds_toArray, List.set_cons_zero, List.set_cons_succ])
  refine done_ (done_of HT_.out (by kernel_rfl)) ?_
  have HB5 : Aside0 (Below N w (W4.setCell ⟨B, 1, none⟩ (.int .i64 nxt))) := ⟨HB0.out.setCell hNB _⟩
  have HW5 := Aside0.mk (setCell_heap HW.out ⟨B, 1, none⟩ (.int .i64 nxt))
  clear HB0 HW hHeld HT_ HW_ k2 k3 k5 k6 y2
  go_wp2_with (fail)
  go_ret
  exact ⟨by first | rfl | trivial, HB5.out, HW5.out⟩
end Go.Proofs.Ytnbnalbomflafaa.RA
