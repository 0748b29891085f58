/-
  Texts of the seat, merged (part 3).
-/
import Derived.Test.YtnbnalbomflafaaX12WMore
import Derived.Deep.AppendLies
import Derived.Laws.CopyOwn
import Derived.Deep.RegionLaw
import Derived.Test.YtnbnalbomflafaaProg
import Derived.Below
import Derived.Deep.Draws
import Derived.Maps.AppendAt
import Derived.OwnWalk
import Derived.Laws.BytesArg
import Derived.Laws.MakeOwn
import Derived.Laws.OwnMore
import Derived.Deep.OwnRows
import Derived.Tactics
import Derived.Lib.ConvBytes
import Derived.Laws.Slices
import Derived.WalkKit
import Derived.KernelRfl
import Derived.RowKit3
import Derived.Deep.LoopGhost
import Derived.Deep.QuietTactic
import Derived.BigQuiet
import Derived.WideLaws
import Derived.Deep.DeepCutAuto
import Derived.Deep.CutBlock
import Derived.Deep.RegionHeld3
import Derived.Laws.Rows
import Derived.Lib.AppendStr
import Derived.ArgAppend
import Derived.Laws.IdiomCopy
import Derived.OrdersHeld
import Derived.Laws.BitsLemmas
import Derived.RowKit
import Derived.Test.YtnbnalbomflafaaX12WWords
import Derived.Test.YtnbnalbomflafaaX12WLast
import Derived.Test.YtnbnalbomflafaaX12WTab
import Derived.Test.YtnbnalbomflafaaX12WFour
import Derived.Test.YtnbnalbomflafaaX12WQPut
import Derived.Test.YtnbnalbomflafaaX12WApart
import Derived.Test.YtnbnalbomflafaaX12WArr
import Derived.Test.YtnbnalbomflafaaX12WZeros
import Derived.Test.YtnbnalbomflafaaX12WFoot
import Derived.Test.YtnbnalbomflafaaX12WKept
import Derived.Test.YtnbnalbomflafaaX12WShare
import Derived.Test.YtnbnalbomflafaaX12WN
import Derived.Test.YtnbnalbomflafaaX12WFootNe
import Derived.Test.YtnbnalbomflafaaX12WAt
import Derived.Test.YtnbnalbomflafaaX12WEqStruct
import Derived.Test.YtnbnalbomflafaaX12WRepsOne
import Derived.Test.YtnbnalbomflafaaX12WInv
import Derived.Test.YtnbnalbomflafaaX12WInvWords
import Derived.Test.YtnbnalbomflafaaX12WGuard
import Derived.Test.YtnbnalbomflafaaX12WNEv
import Derived.Test.YtnbnalbomflafaaX122
set_option linter.unusedVariables false
set_option linter.unusedSimpArgs false
namespace Go.Proofs.Ytnbnalbomflafaa.RA
open Go.RowKit YtnbnalbomflafaaW.PrintWords YtnbnalbomflafaaW.PrintLast YtnbnalbomflafaaW.PrintMore
open GA
open GD
theorem wrap_id {x : Int} (h0 : -9223372036854775808 ≤ x) (h1 : x ≤ 9223372036854775807) : wrap64 x = x := by unfold wrap64; omega
theorem rd_at (l : List Int) (i : Nat) (h : i < l.length) : rd l (i : Int) = l[i] := by
 unfold rd
 rw [Int.toNat_natCast, List.getD_eq_getElem?_getD, List.getElem?_eq_getElem h]
 rfl
theorem eqIntS_loop (l : List Int) (hn : l.length ≤ 1000000000000) (d : Nat) : ∀ (k i : Nat), i + d = l.length → d < k → laws_eqIntS.l0 k l l (i : Int) = some true := by
 induction d with
 | zero =>
  intro k i hi hk
  obtain ⟨k, rfl⟩ : ∃ m, k = m + 1 := ⟨k - 1, by omega⟩
  simp only [laws_eqIntS.l0]
  rw [if_neg (by omega)]
 | succ d ih =>
  intro k i hi hk
  obtain ⟨k, rfl⟩ : ∃ m, k = m + 1 := ⟨k - 1, by omega⟩
  simp only [laws_eqIntS.l0]
  have e2 : wrap64 ((i : Int) + 1) = ((i + 1 : Nat) : Int) := by rw [wrap_id (by omega) (by omega)]; omega
  rw [if_pos (by omega), if_pos (by omega), if_pos (by omega), if_pos trivial, e2]
  exact ih k (i + 1) (by omega) (by omega)
theorem eqIntS_refl (l : List Int) (hn : l.length ≤ 1000000000000) (k : Nat) (hk : l.length < k) : laws_eqIntS.f k l l = some true := by
 unfold laws_eqIntS.f
 rw [if_pos rfl]
 exact eqIntS_loop l hn l.length k 0 (by omega) hk
def marks (n : Nat) (m : Int) : List Int := (List.range n).map fun (i : Nat) => m + (i : Int)
abbrev encI (r : List Int) : List Value := r.map (Value.int .i64)
def RowsL (w : World) (base : Nat) (rows : List (List Int)) (L : List Value) : Prop :=
 (∀ (i : Nat) (r : List Int), rows[i]? = some r → ∃ v, L[i]? = some v ∧ w.ownsRow base 3 1 v r.length (encI r)) ∧ ∀ (i j : Nat) (v u : Value) (k : Nat), L[i]? = some v → L[j]? = some u → i ≠ j → v.ownBlock = some k → u.ownBlock ≠ some k
def RowsD (w : World) (base : Nat) (vc : Value) (rows : List (List Int)) : Prop := ∃ L, w.ownsRow base 37 1 vc rows.length L ∧ RowsL w base rows L
section
variable {w w1 : World} {base : Nat} {vc : Value} {rows : List (List Int)} {L : List Value}
theorem RowsL.move (h : RowsL w base rows L) (hn : L.length = rows.length) (e : ∀ (i : Nat) (v : Value) (k : Nat), L[i]? = some v → v.ownBlock = some k → w1.heap[k]? = w.heap[k]?) : RowsL w1 base rows L := by
 refine ⟨fun i r hr => ?_, h.2⟩
 obtain ⟨v, h1, h2⟩ := h.1 i r hr
 exact ⟨v, h1, own_move h2 fun k hk => e i v k h1 hk⟩
theorem own_len {e : TypeId} {size n : Nat} (h : w.ownsRow base e size vc n L) : L.length = n * size := h.1
theorem RowsL.row (h : RowsL w base rows L) (hn : L.length = rows.length) {i : Nat} {v : Value} (hv : L[i]? = some v) : ∃ r, rows[i]? = some r ∧ w.ownsRow base 3 1 v r.length (encI r) := by
 have hi : i < rows.length := by rw [← hn]; exact (List.getElem?_eq_some_iff.1 hv).1
 obtain ⟨u, h1, h2⟩ := h.1 i rows[i] (List.getElem?_eq_getElem hi)
 rw [hv] at h1
 cases h1
 exact ⟨_, List.getElem?_eq_getElem hi, h2⟩
theorem RowsL.blk (h : RowsL w base rows L) (hn : L.length = rows.length) {i k : Nat} {v : Value} (hv : L[i]? = some v) (hk : v.ownBlock = some k) : base ≤ k ∧ k < w.heap.size ∧ ∃ cells, w.heap[k]? = some (.cells cells 3 (0, 0)) := by
 obtain ⟨r, _, ho⟩ := h.row hn hv
 exact ⟨own_base ho k hk, own_lt ho k hk, own_typed ho k hk⟩
theorem RowsD.nil (w : World) (base : Nat) : RowsD w base (.slice none 0 0) [] := ⟨[], own_nil _ _ _ _, fun i r h => by simp at h, fun i j v u k h => by simp at h⟩
theorem RowsD.keep (h : RowsD w base vc rows) (e : ∀ b, b < w.heap.size → w1.heap[b]? = w.heap[b]?) : RowsD w1 base vc rows := by
 obtain ⟨L, h1, h2⟩ := h
 have hn : L.length = rows.length := by have := own_len h1; omega
 exact ⟨L, own_move h1 (fun k hk => e k (own_lt h1 k hk)), h2.move hn fun i v k hv hk => e k (h2.blk hn hv hk).2.1⟩
theorem rowI_reads {v : Value} {r : List Int} (h : w.ownsRow base 3 1 v r.length (encI r)) : ∃ A c, v = .slice A r.length c ∧ r.length ≤ c ∧ Kd.C (Kd.int .i64) w A r.length r :=
 Kd.R_reads (Kd.R_of_own (ok := fun _ => True) h (fun _ _ => trivial))
theorem rows_reads (ho : w.ownsRow base 37 1 vc rows.length L) (h : ∀ (i : Nat) (r : List Int), rows[i]? = some r → ∃ v, L[i]? = some v ∧ ∃ A c, v = .slice A r.length c ∧ r.length ≤ c ∧ Kd.C (Kd.int .i64) w A r.length r) :
  ∃ A c, vc = .slice A rows.length c ∧ rows.length ≤ c ∧ Kd.C (Kd.slice 3 (Kd.int .i64)) w A rows.length rows := by
 have hn : L.length = rows.length := by have := own_len ho; omega
 have hR : Reps (fun p c => (Kd.slice 3 (Kd.int .i64)).K w p c) 1 rows L := ⟨by omega, fun j p hp => by
  obtain ⟨v, h1, A, c, h2, h3, h4⟩ := h j p hp
  refine ⟨A, c, ?_, h3, h4⟩
  have hj := (List.getElem?_eq_some_iff.1 h1).1
  have e : L[j] = v := by rw [List.getElem?_eq_getElem hj] at h1; exact Option.some.inj h1
  rw [Nat.mul_one, List.drop_eq_getElem_cons hj, e, h2]
  rfl⟩
 obtain ⟨A, c, he, hr⟩ := own_reads_row ho hR rfl
 refine ⟨A, c, he, ?_, hr⟩
 rcases ho.2 with ⟨h1, h2⟩ | ⟨g, cap, cur, h1, _, _, h3, _⟩
 ·rw [h1] at he
  injection he with _ e2 e3
  omega
 ·rw [h1] at he
  injection he with _ e2 e3
  omega
theorem RowsD.reads (h : RowsD w base vc rows) : ∃ A c, vc = .slice A rows.length c ∧ rows.length ≤ c ∧ Kd.C (Kd.slice 3 (Kd.int .i64)) w A rows.length rows := by
 obtain ⟨L, h1, h2⟩ := h
 refine rows_reads h1 fun i r hr => ?_
 obtain ⟨v, q1, q2⟩ := h2.1 i r hr
 exact ⟨v, q1, rowI_reads q2⟩
theorem RowsD.app {vc' v : Value} {r : List Int} (h1 : w.ownsRow base 37 1 vc rows.length L) (h2 : RowsL w base rows L) (hv : w1.ownsRow base 3 1 v r.length (encI r)) (hf : ∀ k, v.ownBlock = some k → w.heap.size ≤ k) (ho : w1.ownsRow base 37 1 vc' (rows.length + 1) (L ++ [v])) (e : ∀ b, b < w.heap.size → some b ≠ vc.ownBlock → w1.heap[b]? = w.heap[b]?) : RowsD w1 base vc' (rows ++ [r]) := by
 have hn : L.length = rows.length := by have := own_len h1; omega
 refine ⟨L ++ [v], by rw [List.length_append, List.length_singleton]; exact ho, fun i s hs => ?_, fun i j x y k hx hy hij hk => ?_⟩
 ·rcases Nat.lt_trichotomy i rows.length with hi | hi | hi
  ·rw [List.getElem?_append_left hi] at hs
   obtain ⟨u, q1, q2⟩ := h2.1 i s hs
   refine ⟨u, by rw [List.getElem?_append_left (by omega)]; exact q1, own_move q2 fun k hk => e k (own_lt q2 k hk) (fun c => ?_)⟩
   obtain ⟨cells, hc⟩ := own_typed q2 k hk
   obtain ⟨cells2, hc2⟩ := own_typed h1 k c.symm
   rw [hc] at hc2
   simp at hc2
  ·subst hi
   rw [List.getElem?_append_right (Nat.le_refl _)] at hs
   simp at hs
   subst hs
   exact ⟨v, by rw [List.getElem?_append_right (by omega), hn]; simp, hv⟩
  ·rw [List.getElem?_append_right (by omega)] at hs
   rw [List.getElem?_eq_none (by simp; omega)] at hs
   cases hs
 ·have aux : ∀ (a : Nat) (x : Value), (L ++ [v])[a]? = some x → (a < rows.length ∧ L[a]? = some x) ∨ (a = rows.length ∧ x = v) := fun a x hx => by
   rcases Nat.lt_trichotomy a rows.length with ha | ha | ha
   ·rw [List.getElem?_append_left (by omega)] at hx
    exact .inl ⟨ha, hx⟩
   ·rw [List.getElem?_append_right (by omega), ha, hn] at hx
    simp at hx
    exact .inr ⟨ha, hx.symm⟩
   ·rw [List.getElem?_append_right (by omega), List.getElem?_eq_none (by simp; omega)] at hx
    cases hx
  rcases aux i x hx with ⟨hi, hx2⟩ | ⟨hi, rfl⟩ <;> rcases aux j y hy with ⟨hj, hy2⟩ | ⟨hj, rfl⟩
  ·exact h2.2 i j x y k hx2 hy2 hij hk
  ·intro c
   have := (h2.blk hn hx2 hk).2.1
   have := hf k c
   omega
  ·intro c
   have := (h2.blk hn hy2 c).2.1
   have := hf k hk
   omega
  ·omega
theorem RowsD.at (h : w.ownsRow base 37 1 vc rows.length L) {i : Nat} {v : Value} (hv : L[i]? = some v) : ∃ g cap, vc = .slice (some ⟨g, 0, none⟩) rows.length cap ∧ base ≤ g ∧ w.cell? ⟨g, i, none⟩ = some v ∧ w.frozen? ⟨g, i, none⟩ = false := by
 have hi := (List.getElem?_eq_some_iff.1 hv).1
 have hn := own_len h
 rcases h.2 with ⟨h1, h2⟩ | ⟨g, cap, cur, h1, hb, hh, h3, h4, h5, h6⟩
 ·omega
 ·refine ⟨g, cap, h1, hb, (blk_cell hh i).trans ?_, kF_ hh i⟩
  rw [← h6, List.getElem?_take] at hv
  split at hv
  ·simpa using hv
  ·cases hv
theorem RowsD.put (h1 : w.ownsRow base 37 1 vc rows.length L) (h2 : RowsL w base rows L) {i : Nat} {v : Value} {r : List Int} (hi : L[i]? = some v) (hv : w1.ownsRow base 3 1 v r.length (encI r)) (e : ∀ b, b < w.heap.size → v.ownBlock ≠ some b → w1.heap[b]? = w.heap[b]?) :
  w1.ownsRow base 37 1 vc (rows.set i r).length L ∧ RowsL w1 base (rows.set i r) L := by
 have hn : L.length = rows.length := by have := own_len h1; omega
 have hil : i < rows.length := by rw [← hn]; exact (List.getElem?_eq_some_iff.1 hi).1
 rw [List.length_set]
 refine ⟨own_move h1 (fun k hk => e k (own_lt h1 k hk) (fun c => ?_)), fun j s hs => ?_, h2.2⟩
 ·obtain ⟨_, _, cells, hc⟩ := h2.blk hn hi c
  obtain ⟨cells2, hc2⟩ := own_typed h1 k hk
  rw [hc] at hc2
  simp at hc2
 ·by_cases q : i = j
  ·subst q
   rw [List.getElem?_set_self hil] at hs
   cases hs
   exact ⟨v, hi, hv⟩
  ·rw [List.getElem?_set_ne q] at hs
   obtain ⟨u, q1, q2⟩ := h2.1 j s hs
   exact ⟨u, q1, own_move q2 fun k hk => e k (own_lt q2 k hk) (fun c => h2.2 i j v u k hi q1 q c hk)⟩
end
theorem oneCell_own {w : World} {base n : Nat} {e : TypeId} {size : Nat} {v : Value} {xs : List Value} (h : w.ownsRow base e size v n xs) : v.oneCell' = true := by
 rcases h.2 with ⟨rfl, _⟩ | ⟨g, cap, cur, rfl, _⟩ <;> rfl
theorem markIntS_from (n : Nat) (m : Int) (hm : 0 ≤ m ∧ m + (n : Int) ≤ 1000000000000) (d : Nat) : ∀ (k i : Nat) (l : List Int), l.length = n → i + d = n → d < k → l.take i = marks i m →
  laws_markIntS.l0 k l (m + (i : Int)) (i : Int) = some (m + (n : Int), marks n m) := by
 induction d with
 | zero =>
  intro k i l hl hi hk ht
  obtain ⟨k, rfl⟩ : ∃ m, k = m + 1 := ⟨k - 1, by omega⟩
  simp only [laws_markIntS.l0]
  obtain rfl : i = n := by omega
  rw [if_neg (by omega), ← ht, List.take_of_length_le (by omega)]
 | succ d ih =>
  intro k i l hl hi hk ht
  obtain ⟨k, rfl⟩ : ∃ m, k = m + 1 := ⟨k - 1, by omega⟩
  simp only [laws_markIntS.l0]
  have e1 : wrap64 (m + (i : Int) + 1) = m + ((i + 1 : Nat) : Int) := by rw [wrap_id (by omega) (by omega)]; omega
  have e2 : wrap64 ((i : Int) + 1) = ((i + 1 : Nat) : Int) := by rw [wrap_id (by omega) (by omega)]; omega
  rw [if_pos (by omega), if_pos (by omega), e1, e2, Int.toNat_natCast]
  refine ih k (i + 1) _ (by simpa using hl) (by omega) (by omega) ?_
  have hlt : i < l.length := by omega
  rw [List.take_add_one, List.take_set_of_le (by omega), ht]
  simp [marks, List.range_succ, hlt]
theorem markIntS_m (l : List Int) (m : Int) (hm : 0 ≤ m ∧ m + (l.length : Int) ≤ 1000000000000) (k : Nat) (hk : l.length < k) : laws_markIntS.f k l m = some (m + (l.length : Int), marks l.length m) := by
 unfold laws_markIntS.f
 have := markIntS_from l.length m hm l.length k 0 l rfl (by omega) hk (by simp [marks])
 simpa using this
def tot : List (List Int) → Int
 | [] => 0
 | r :: rs => (r.length : Int) + tot rs
def markRows : List (List Int) → Int → List (List Int)
 | [], _ => []
 | r :: rs, m => marks r.length m :: markRows rs (m + (r.length : Int))
theorem tot_pos : ∀ rs, 0 ≤ tot rs
 | [] => Int.le_refl _
 | r :: rs => by have := tot_pos rs; unfold tot; omega
theorem tot_app : ∀ a b, tot (a ++ b) = tot a + tot b
 | [], b => by simp [tot]
 | r :: a, b => by
  have := tot_app a b
  simp only [List.cons_append, tot, this]
  omega
theorem markRows_len : ∀ rs m, (markRows rs m).length = rs.length
 | [], _ => rfl
 | r :: rs, m => by simp [markRows, markRows_len rs]
theorem markRows_app : ∀ a b m, markRows (a ++ b) m = markRows a m ++ markRows b (m + tot a)
 | [], b, m => by simp [markRows, tot]
 | r :: a, b, m => by
  simp only [List.cons_append, markRows, tot]
  rw [markRows_app a b, Int.add_assoc]
def midRows (rows : List (List Int)) (m : Int) (i : Nat) : List (List Int) := markRows (rows.take i) m ++ rows.drop i
theorem mid_len (rows : List (List Int)) (m : Int) (i : Nat) : (midRows rows m i).length = rows.length := by
 unfold midRows
 rw [List.length_append, markRows_len, List.length_take, List.length_drop]
 omega
theorem mid_get {rows : List (List Int)} {m : Int} {i : Nat} (hi : i < rows.length) : (midRows rows m i)[i]? = some rows[i] := by
 unfold midRows
 rw [List.getElem?_append_right (by rw [markRows_len, List.length_take]; omega), markRows_len, List.length_take, List.getElem?_drop]
 rw [show i + (i - min i rows.length) = i by omega]
 exact List.getElem?_eq_getElem hi
theorem mid_set {rows : List (List Int)} {m : Int} {i : Nat} (hi : i < rows.length) : (midRows rows m i).set i (marks rows[i].length (m + tot (rows.take i))) = midRows rows m (i + 1) := by
 unfold midRows
 have hl : (markRows (rows.take i) m).length = i := by rw [markRows_len, List.length_take]; omega
 rw [List.take_succ_eq_append_getElem hi, markRows_app, List.drop_eq_getElem_cons hi]
 rw [List.set_append, if_neg (by omega), hl, Nat.sub_self, List.set_cons_zero, List.append_assoc]
 rfl
theorem tot_take {rows : List (List Int)} {i : Nat} (hi : i < rows.length) : tot (rows.take (i + 1)) = tot (rows.take i) + (rows[i].length : Int) := by
 rw [List.take_succ_eq_append_getElem hi, tot_app]
 simp [tot]
theorem tot_le (rows : List (List Int)) (i : Nat) : tot (rows.take i) ≤ tot rows := by
 have h := tot_app (rows.take i) (rows.drop i)
 rw [List.take_append_drop] at h
 have := tot_pos (rows.drop i)
 omega
theorem RowsD.slice {w : World} {base : Nat} {vc : Value} {rows : List (List Int)} (h : RowsD w base vc rows) : ∃ A c, vc = .slice A rows.length c ∧ rows.length ≤ c := by
 obtain ⟨A, c, h1, h2, _⟩ := h.reads
 exact ⟨A, c, h1, h2⟩
theorem rdL_at (l : List (List Int)) (i : Nat) (h : i < l.length) : rd_L1 l (i : Int) = l[i] := by
 unfold rd_L1
 rw [Int.toNat_natCast, List.getD_eq_getElem?_getD, List.getElem?_eq_getElem h]
 rfl
theorem eqIntSS_loop (l : List (List Int)) (hn : l.length ≤ 10000000) (N : Nat) (hN : ∀ r ∈ l, r.length ≤ N) (hN2 : N ≤ 10000000) (d : Nat) : ∀ (k i : Nat), i + d = l.length → N + d + 1 < k → laws_eqIntSS.l0 k l l (i : Int) = some true := by
 induction d with
 | zero =>
  intro k i hi hk
  obtain ⟨k, rfl⟩ : ∃ m, k = m + 1 := ⟨k - 1, by omega⟩
  simp only [laws_eqIntSS.l0]
  rw [if_neg (by omega)]
 | succ d ih =>
  intro k i hi hk
  obtain ⟨k, rfl⟩ : ∃ m, k = m + 1 := ⟨k - 1, by omega⟩
  have hin : i < l.length := by omega
  simp only [laws_eqIntSS.l0]
  have e2 : wrap64 ((i : Int) + 1) = ((i + 1 : Nat) : Int) := by rw [wrap_id (by omega) (by omega)]; omega
  have h3 := hN _ (List.getElem_mem hin)
  rw [if_pos (by omega), if_pos (by omega), if_pos (by omega), rdL_at l i hin, eqIntS_refl l[i] (by omega) k (by omega)]
  simp only [Option.bind_some, if_true]
  rw [e2]
  exact ih k (i + 1) (by omega) (by omega)
theorem eqIntSS_refl (l : List (List Int)) (hn : l.length ≤ 10000000) (N : Nat) (hN : ∀ r ∈ l, r.length ≤ N) (hN2 : N ≤ 10000000) : laws_eqIntSS.f (N + l.length + 2) l l = some true := by
 unfold laws_eqIntSS.f
 rw [if_pos rfl]
 exact eqIntSS_loop l hn N hN hN2 l.length _ 0 (by omega) (by omega)
def RowsC (w : World) (vc : Value) (rows : List (List Int)) : Prop := ∃ A c, vc = .slice A rows.length c ∧ rows.length ≤ c ∧ Kd.C (Kd.slice 3 (Kd.int .i64)) w A rows.length rows
theorem RowsC.below {w w1 : World} {vc : Value} {rows : List (List Int)} (h : RowsC w vc rows) (hB : Below w.heap.size w w1) : RowsC w1 vc rows := by
 obtain ⟨A, c, h1, h2, h3⟩ := h
 exact ⟨A, c, h1, h2, Kd.C_below h3 hB⟩
def cutW (w : World) (n : Nat) : World := { w with heap := w.heap.extract 0 n }
theorem cutW_size {w : World} {n : Nat} (h : n ≤ w.heap.size) : (cutW w n).heap.size = n := by unfold cutW; simp; omega
theorem cutW_below {w : World} {n : Nat} (h : n ≤ w.heap.size) : Below (cutW w n).heap.size (cutW w n) w := by
 refine ⟨rfl, rfl, rfl, by rw [cutW_size h]; exact h, fun k hk => ?_⟩
 rw [cutW_size h] at hk
 unfold cutW
 simp only
 rw [Array.getElem?_extract, if_pos (by omega), Nat.zero_add]
theorem RowsD.upto {w w1 : World} {base n : Nat} {vc : Value} {rows : List (List Int)} (h : RowsD w base vc rows) (hB : Below w.heap.size w w1) : ∀ (L : List Value) (i : Nat) (v : Value) (k : Nat), w1.ownsRow n 37 1 vc rows.length L → L[i]? = some v → v.ownBlock = some k → k < w.heap.size := by
 intro L i v k hL hv hk
 obtain ⟨L2, h1, h2⟩ := h
 have e : L = L2 := by
  have h3 : w1.ownsRow base 37 1 vc rows.length L2 := own_move h1 fun b hb => hB.block b (own_lt h1 b hb)
  rcases hL.2 with ⟨q1, q2⟩ | ⟨g, cap, cur, q1, _, q3, _, _, _, q7⟩
  ·have l1 := hL.1
   have l2 := h3.1
   rw [q2] at l1 l2
   simp at l1 l2
   rw [l1, l2]
  ·rcases h3.2 with ⟨p1, _⟩ | ⟨g2, cap2, cur2, p1, _, p3, _, _, _, p7⟩
   ·rw [q1] at p1; cases p1
   ·rw [q1] at p1
    injection p1 with p1 _ _
    injection p1 with p1
    injection p1 with p1
    subst p1
    rw [q3] at p3
    simp at p3
    subst p3
    rw [← q7, ← p7]
 subst e
 have hn : L.length = rows.length := by have := own_len h1; omega
 exact (h2.blk hn hv hk).2.1
theorem rowsD_of_S {w : World} {base : Nat} {ok : Nat → Prop} {v : Value} {rows : List (List Int)} (h : Kd.S (Kd.slice 3 (Kd.int .i64)) 37 w base ok v rows) : RowsD w base v rows := by
 obtain ⟨f, h0, inner, ho, hr⟩ := h
 rw [List.length_zipIdx] at ho
 have hl : inner.length = rows.length := by have h1 : inner.length = rows.length * 1 := ho.1; omega
 have hat : ∀ (i : Nat) (r : List Int), rows[i]? = some r → ∃ u, inner[i]? = some u ∧ w.ownsRow base 3 1 u r.length (encI r) ∧ ∀ k, u.ownBlock = some k → f k = i := fun i r hi => by
  obtain ⟨u, h1, h2⟩ := hr.2 i (r, i) (Kd.zip_at hi)
  have hin : i < inner.length := by rw [hl]; exact (List.getElem?_eq_some_iff.1 hi).1
  have e : inner[i] = u := by
   have h1' : (inner.drop (i * 1)).take 1 = [u] := h1
   rw [Nat.mul_one, List.drop_eq_getElem_cons hin, List.take_succ_cons, List.take_zero] at h1'
   exact (List.cons.inj h1').1
  refine ⟨u, by rw [List.getElem?_eq_getElem hin, e], Kd.own_of_R h2, fun k hk => (h2.1 k hk).2⟩
 refine ⟨inner, ho, fun i r hi => ?_, fun i j x y k hx hy hij hk hk2 => ?_⟩
 ·obtain ⟨u, h1, h2, _⟩ := hat i r hi
  exact ⟨u, h1, h2⟩
 ·have hi : i < rows.length := by rw [← hl]; exact (List.getElem?_eq_some_iff.1 hx).1
  have hj : j < rows.length := by rw [← hl]; exact (List.getElem?_eq_some_iff.1 hy).1
  obtain ⟨u, h1, _, h3⟩ := hat i _ (List.getElem?_eq_getElem hi)
  obtain ⟨u2, h4, _, h5⟩ := hat j _ (List.getElem?_eq_getElem hj)
  rw [hx] at h1
  rw [hy] at h4
  cases h1
  cases h4
  exact hij ((h3 k hk).symm.trans (h5 k hk2))
def szR : List (List Int) → Int → Int
 | [], a => a
 | r :: rs, a => if a - (r.length : Int) < 0 then -1 else szR rs (a - (r.length : Int))
theorem szR_is : ∀ (rs : List (List Int)) (a : Int), 0 ≤ a → szR rs a = -1 ∨ (szR rs a = a - tot rs ∧ tot rs ≤ a)
 | [], a, h => .inr ⟨by simp [szR, tot], by simpa [tot] using h⟩
 | r :: rs, a, h => by
  unfold szR
  split
  ·exact .inl rfl
  ·rcases szR_is rs (a - (r.length : Int)) (by omega) with h1 | ⟨h1, h2⟩
   ·exact .inl h1
   ·exact .inr ⟨by rw [h1]; simp only [tot]; omega, by simp only [tot]; omega⟩
theorem szI_is (r : List Int) (a : Int) (h : 0 ≤ a ∧ a ≤ 1048576) (hl : (r.length : Int) ≤ 9223372036854775807) : laws_szIntS.f r a = some (if a - (r.length : Int) < 0 then -1 else a - (r.length : Int)) := by
 unfold laws_szIntS.f
 rw [wrap_id (x := a - (r.length : Int)) (by omega) (by omega)]
 split <;> rfl
theorem szSS_loop (rows : List (List Int)) (hl : (rows.length : Int) ≤ 1048576) (hr : ∀ r ∈ rows, (r.length : Int) ≤ 9223372036854775807) (d : Nat) : ∀ (k i : Nat) (a : Int), i + d = rows.length → d < k → 0 ≤ a → a ≤ 1048576 → laws_szIntSS.l0 k rows a (i : Int) = some (szR (rows.drop i) a) := by
 induction d with
 | zero =>
  intro k i a hi hk h0 h1
  obtain ⟨k, rfl⟩ : ∃ m, k = m + 1 := ⟨k - 1, by omega⟩
  simp only [laws_szIntSS.l0]
  rw [if_neg (by omega), List.drop_eq_nil_of_le (by omega)]
  rfl
 | succ d ih =>
  intro k i a hi hk h0 h1
  obtain ⟨k, rfl⟩ : ∃ m, k = m + 1 := ⟨k - 1, by omega⟩
  have hin : i < rows.length := by omega
  simp only [laws_szIntSS.l0]
  have e2 : wrap64 ((i : Int) + 1) = ((i + 1 : Nat) : Int) := by rw [wrap_id (by omega) (by omega)]; omega
  have e3 : rd_L1 rows (i : Int) = rows[i] := rdL_at rows i hin
  rw [if_pos (by omega), if_pos (by omega), e3, szI_is _ _ ⟨h0, h1⟩ (hr _ (List.getElem_mem hin)), List.drop_eq_getElem_cons hin]
  simp only [Option.bind_some]
  by_cases q : a - (rows[i].length : Int) < 0
  ·rw [if_pos q, if_pos (by decide)]
   unfold szR
   rw [if_pos q]
  ·rw [if_neg q, if_neg q, e2, ih k (i + 1) _ (by omega) (by omega) (by omega) (by omega)]
   conv => rhs; unfold szR
   rw [if_neg q]
theorem toS_loop (l : List Int) (hn : l.length ≤ 1048576) (d : Nat) : ∀ (k i : Nat) (x : List Int), x.length = l.length → i + d = l.length → d < k → x.take i = l.take i → laws_toIntS.l0 k l x (i : Int) = some l := by
 induction d with
 | zero =>
  intro k i x hx hi hk ht
  obtain ⟨k, rfl⟩ : ∃ m, k = m + 1 := ⟨k - 1, by omega⟩
  simp only [laws_toIntS.l0]
  rw [if_neg (by omega)]
  rw [List.take_of_length_le (by omega), List.take_of_length_le (by omega)] at ht
  rw [ht]
 | succ d ih =>
  intro k i x hx hi hk ht
  obtain ⟨k, rfl⟩ : ∃ m, k = m + 1 := ⟨k - 1, by omega⟩
  have hin : i < l.length := by omega
  simp only [laws_toIntS.l0]
  have e2 : wrap64 ((i : Int) + 1) = ((i + 1 : Nat) : Int) := by rw [wrap_id (by omega) (by omega)]; omega
  rw [if_pos (by omega), if_pos (by omega), if_pos (by omega), e2, rd_at l i hin, Int.toNat_natCast]
  refine ih k (i + 1) _ (by simpa using hx) (by omega) (by omega) ?_
  rw [List.take_succ_eq_append_getElem (by rw [List.length_set]; omega), List.take_set_of_le (by omega), ht, List.take_succ_eq_append_getElem hin]
  simp
theorem toS_is (l : List Int) (hn : l.length ≤ 1048576) (k : Nat) (hk : l.length < k) : laws_toIntS.f k l = some l := by
 unfold laws_toIntS.f
 rw [if_pos (by omega), if_pos (by omega), Int.toNat_natCast]
 exact toS_loop l hn l.length k 0 _ (by simp) (by omega) hk (by simp)
theorem toSS_loop (l : List (List Int)) (hn : l.length ≤ 1048576) (hr : ∀ r ∈ l, r.length ≤ 1048576) (d : Nat) : ∀ (k i : Nat) (x : List (List Int)), x.length = l.length → i + d = l.length → 1048576 + d + 1 < k → x.take i = l.take i → laws_toIntSS.l0 k l x (i : Int) = some l := by
 induction d with
 | zero =>
  intro k i x hx hi hk ht
  obtain ⟨k, rfl⟩ : ∃ m, k = m + 1 := ⟨k - 1, by omega⟩
  simp only [laws_toIntSS.l0]
  rw [if_neg (by omega)]
  rw [List.take_of_length_le (by omega), List.take_of_length_le (by omega)] at ht
  rw [ht]
 | succ d ih =>
  intro k i x hx hi hk ht
  obtain ⟨k, rfl⟩ : ∃ m, k = m + 1 := ⟨k - 1, by omega⟩
  have hin : i < l.length := by omega
  simp only [laws_toIntSS.l0]
  have e2 : wrap64 ((i : Int) + 1) = ((i + 1 : Nat) : Int) := by rw [wrap_id (by omega) (by omega)]; omega
  have e3 : rd_L1 l (i : Int) = l[i] := rdL_at l i hin
  have h1 := hr _ (List.getElem_mem hin)
  rw [if_pos (by omega), if_pos (by omega), e3, toS_is l[i] h1 k (by omega)]
  simp only [Option.bind_some]
  rw [if_pos (by omega), e2, Int.toNat_natCast]
  refine ih k (i + 1) _ (by simpa using hx) (by omega) (by omega) ?_
  rw [List.take_succ_eq_append_getElem (by rw [List.length_set]; omega), List.take_set_of_le (by omega), ht, List.take_succ_eq_append_getElem hin]
  simp
theorem toSS_is (l : List (List Int)) (hn : l.length ≤ 1048576) (hr : ∀ r ∈ l, r.length ≤ 1048576) : laws_toIntSS.f (1048576 + l.length + 2) l = some l := by
 unfold laws_toIntSS.f
 rw [if_pos (by omega), if_pos (by omega), Int.toNat_natCast]
 exact toSS_loop l hn hr l.length _ 0 _ (by simp) (by omega) (by omega) (by simp)
theorem tot_mem {rows : List (List Int)} : ∀ r ∈ rows, (r.length : Int) ≤ tot rows := fun r hr => by
 obtain ⟨i, hi, rfl⟩ := List.mem_iff_getElem.1 hr
 have h1 := tot_take hi
 have h2 := tot_le rows (i + 1)
 have h3 := tot_pos (rows.take i)
 omega
def RowsU (w : World) (base u : Nat) (vc : Value) (rows : List (List Int)) : Prop := RowsD w base vc rows ∧ (∀ k, vc.ownBlock = some k → k < u) ∧ ∀ (L : List Value) (i : Nat) (v : Value) (k : Nat), w.ownsRow base 37 1 vc rows.length L → L[i]? = some v → v.ownBlock = some k → k < u
theorem RowsD.toU {w : World} {base : Nat} {vc : Value} {rows : List (List Int)} (h : RowsD w base vc rows) : RowsU w base w.heap.size vc rows :=
 ⟨h, fun k hk => by obtain ⟨L, h1, _⟩ := h; exact own_lt h1 k hk, h.upto (Below.refl _ _)⟩
theorem RowsU.reads {w : World} {base u : Nat} {vc : Value} {rows : List (List Int)} (h : RowsU w base u vc rows) : RowsC w vc rows := h.1.reads
theorem RowsU.moveIn {w w1 : World} {base u : Nat} {vc : Value} {rows : List (List Int)} (h : RowsU w base u vc rows) (e : ∀ b, base ≤ b → b < u → w1.heap[b]? = w.heap[b]?) : RowsU w1 base u vc rows := by
 obtain ⟨⟨L, h1, h2⟩, h3, h4⟩ := h
 have hn : L.length = rows.length := by have := own_len h1; omega
 refine ⟨⟨L, own_move h1 (fun k hk => e k (own_base h1 k hk) (h3 k hk)), h2.move hn fun i v k hv hk => e k (h2.blk hn hv hk).1 (h4 L i v k h1 hv hk)⟩, h3, fun L2 i v k hL hv hk => ?_⟩
 exact h4 L2 i v k (own_move hL fun k hk => (e k (own_base hL k hk) (h3 k hk)).symm) hv hk
theorem RowsU.below {w w1 : World} {base u : Nat} {vc : Value} {rows : List (List Int)} (h : RowsU w base u vc rows) (hu : u ≤ w.heap.size) (hB : Below w.heap.size w w1) : RowsU w1 base u vc rows := h.moveIn fun b _ hb => hB.block b (by omega)
theorem RowsU.drewN {w : World} {base u : Nat} {vc : Value} {rows : List (List Int)} (h : RowsU w base u vc rows) (n : Nat) : RowsU (w.drewN n) base u vc rows := h.moveIn fun _ _ _ => by simp
def MarkU (w : World) (n u : Nat) (vc : Value) (rows : List (List Int)) (m : Int) (e : Ending) (w' : World) : Prop := e = .returned (.int .i64 (m + tot rows)) ∧ Below n w w' ∧ Aside0 (RowsU w' n u vc (markRows rows m)) ∧ Aside0 (∀ b, u ≤ b → b < w.heap.size → w'.heap[b]? = w.heap[b]?)
theorem own_same {w w1 : World} {base n : Nat} {vc : Value} {L L2 : List Value} (h1 : w.ownsRow base 37 1 vc n L) (h2 : w1.ownsRow base 37 1 vc n L2) (e : ∀ k, vc.ownBlock = some k → w1.heap[k]? = w.heap[k]?) : L = L2 := by
 have h3 : w1.ownsRow base 37 1 vc n L := own_move h1 e
 rcases h3.2 with ⟨q1, q2⟩ | ⟨g, cap, cur, q1, _, q3, _, _, _, q7⟩
 ·have l1 := h3.1
  have l2 := h2.1
  rw [q2] at l1 l2
  simp at l1 l2
  rw [l1, l2]
 ·rcases h2.2 with ⟨p1, _⟩ | ⟨g2, cap2, cur2, p1, _, p3, _, _, _, p7⟩
  ·rw [q1] at p1; cases p1
  ·rw [q1] at p1
   injection p1 with p1 _ _
   injection p1 with p1
   injection p1 with p1
   subst p1
   rw [q3] at p3
   simp at p3
   subst p3
   rw [← q7, ← p7]
set_option maxHeartbeats 4000000 in
set_option maxRecDepth 100000 in
theorem markIntSS_U (n u : Nat) (w : World) (hn : n ≤ w.heap.size) (vc : Value) (rows : List (List Int)) (m : Int) (hh : RowsU w n u vc rows) (hm : 0 ≤ m ∧ m + tot rows ≤ 1000000000) (hl : rows.length ≤ 10000000) : Calls Try.prog 67 #[vc, .int .i64 m] w (MarkU w n u vc rows m) := by
 obtain ⟨h, hvu, hu⟩ := hh
 obtain ⟨A, cap, hvc, hcap⟩ := h.slice
 subst hvc
 obtain ⟨L, hL, hE⟩ := h
 have HU : Aside0 (∀ (i : Nat) (v : Value) (k : Nat), L[i]? = some v → v.ownBlock = some k → k < u) := ⟨fun i v k => hu L i v k hL⟩
 have HVU := Aside0.mk hvu
 have HL := Aside0.mk (And.intro hL hE)
 obtain ⟨w0, hw0⟩ : ∃ w0, w0 = cutW w n := ⟨_, rfl⟩
 have HN : Aside0 (w0.heap.size = n) := ⟨by rw [hw0]; exact cutW_size hn⟩
 have HB0 : Aside0 (Below w0.heap.size w0 w) := ⟨by rw [hw0]; exact cutW_below hn⟩
 clear hL hE hu hvu hw0
 go_enter Try.func67, Try.ntmps67
 go_wp2_with (fail)
 go_loopg [1, 5] rows.length (fun q v1 v5 wr => ∃ (i : Nat), v1 = .int .i64 (m + tot (rows.take i)) ∧ v5 = .int .i64 (i : Int) ∧ Aside0 (i + q = rows.length) ∧ Aside0 (wr.ownsRow n 37 1 (.slice A rows.length cap) rows.length L ∧ RowsL wr n (midRows rows m i) L) ∧ Aside0 (Below n w wr) ∧ Aside0 (∀ b, u ≤ b → b < w.heap.size → wr.heap[b]? = w.heap[b]?))
 case atStart => exact ⟨0, by simp [tot], rfl, ⟨by omega⟩, ⟨by simpa [midRows, markRows] using HL.out⟩, ⟨Below.refl _ _⟩, ⟨fun _ _ _ => rfl⟩⟩
 case round =>
  clear HL
  obtain ⟨i, rfl, rfl, HI, HL, HB, HK⟩ := hrel
  cases gk with
  | zero =>
   have hi : ¬ ((i : Int) < (rows.length : Int)) := by have := HI.out; omega
   have hir : i = rows.length := by have := HI.out; omega
   subst hir
   have e1 : Aside0 (rows.take rows.length = rows ∧ midRows rows m rows.length = markRows rows m) := ⟨by rw [List.take_of_length_le (Nat.le_refl _)]; simp [midRows]⟩
   go_wp2_with (fail)
   go_ret
   refine ⟨by first | rfl | (rw [e1.out.1]; rfl), HB.out, ⟨⟨L, ?_, ?_⟩, HVU.out, fun L2 i v k hL2 hv hk => ?_⟩, HK⟩
   ·rw [markRows_len]; exact HL.out.1
   ·rw [← e1.out.2]; exact HL.out.2
   ·rw [markRows_len] at hL2
    have := own_same HL.out.1 hL2 (fun _ _ => rfl)
    subst this
    exact HU.out i v k hv hk
  | succ q =>
   have hin : i < rows.length := by have := HI.out; omega
   have hi : (i : Int) < (rows.length : Int) := by omega
   have hw := wrap_id (x := (i : Int) + 1) (by omega) (by omega)
   obtain ⟨v, hv, hown⟩ := HL.out.2.1 i rows[i] (mid_get hin)
   have ho1 := HL.out.1
   have ho2 : wr.ownsRow n 37 1 (.slice A rows.length cap) (midRows rows m i).length L := by rw [mid_len]; exact ho1
   obtain ⟨g, cap', hA, _, hcell, _⟩ := RowsD.at ho2 hv
   injection hA with hA hA2 hA3
   clear hA2
   subst hA hA3
   have hmm : 0 ≤ m + tot (rows.take i) ∧ m + tot (rows.take i) + (rows[i].length : Int) ≤ 1000000000000 := by
    have h1 := tot_pos (rows.take i)
    have h2 := tot_le rows (i + 1)
    rw [tot_take hin] at h2
    omega
   have HM := Aside0.mk (markIntS_m rows[i] _ hmm (rows[i].length + 1) (by omega))
   have HT := Aside0.mk (tot_take hin)
   have HS := Aside0.mk (mid_set (m := m) hin)
   have HV := Aside0.mk (And.intro hv hown)
   have hR : Aside0 (Kd.R (Kd.int .i64) 3 wr w0.heap.size (fun k => v.ownBlock = some k) v rows[i]) := ⟨by rw [HN.out]; exact Kd.R_of_own hown (fun _ hk => hk)⟩
   have HBw : Aside0 (Below w0.heap.size w0 wr) := ⟨HB0.out.trans (by rw [HN.out]; exact HB.out)⟩
   clear hv hown ho1 ho2 hmm
   generalize rows[i] = r at *
   generalize hmi : m + tot (rows.take i) = mi at *
   replace hmi := Aside0.mk hmi
   go_wp2_with (first | (go_at_call 36; refine (laws_markIntS.calls (r.length + 1) (fun k => v.ownBlock = some k) v r mi _ _ w0 _ HBw.out hR.out HM.out).mono ?_; rintro e w1 ⟨rfl, ho, hb, hk⟩; have HK1 := Aside0.mk hk; have HO := Aside0.mk (Kd.own_of_R ho); have HB1 := Aside0.mk hb; clear ho hb hk))
   go_roundg q
   case measure => omega
   case rel =>
    have hown1 : w1.ownsRow n 3 1 v (marks r.length mi).length (encI (marks r.length mi)) := by have := HO.out; rw [HN.out] at this; exact this
    have hput := RowsD.put (w1 := w1) (r := marks r.length mi) (by rw [mid_len]; exact HL.out.1) HL.out.2 HV.out.1 hown1 (fun b hb hne => HK1.out.2 b hb (fun c => hne c))
    rw [HS.out] at hput
    rw [mid_len] at hput
    have hb1 : Below n w w1 := by
     have h1 := HB1.out
     rw [HN.out] at h1
     have h0 := HB0.out
     rw [HN.out] at h0
     refine ⟨h1.os.trans h0.os.symm, h1.tape.trans h0.tape.symm, h1.output.trans h0.output.symm, Nat.le_trans HB.out.size HK1.out.1, fun k hk => (h1.block k hk).trans (h0.block k hk).symm⟩
    refine ⟨i + 1, by rw [HT.out, ← Int.add_assoc, hmi.out], by first | rfl | go_num, ⟨by have := HI.out; omega⟩, ⟨hput⟩, ⟨hb1⟩, ⟨fun b h1 h2 => ?_⟩⟩
    exact (HK1.out.2 b (by have := HB.out.size; omega) (fun c => by have := HU.out i v b HV.out.1 c; omega)).trans (HK.out b h1 h2)
def ListD (w : World) (base : Nat) (v : Value) (l : List Int) : Prop := w.ownsRow base 3 1 v l.length (encI l)
def ListC (w : World) (v : Value) (l : List Int) : Prop := ∃ A c, v = .slice A l.length c ∧ l.length ≤ c ∧ Kd.C (Kd.int .i64) w A l.length l
def ListU (w : World) (base u : Nat) (v : Value) (l : List Int) : Prop := ListD w base v l ∧ ∀ k, v.ownBlock = some k → k < u
theorem ListC.below {w w1 : World} {v : Value} {l : List Int} (h : ListC w v l) (hB : Below w.heap.size w w1) : ListC w1 v l := by
 obtain ⟨A, c, h1, h2, h3⟩ := h
 exact ⟨A, c, h1, h2, Kd.C_below h3 hB⟩
theorem ListD.reads {w : World} {base : Nat} {v : Value} {l : List Int} (h : ListD w base v l) : ListC w v l := rowI_reads h
theorem ListU.reads {w : World} {base u : Nat} {v : Value} {l : List Int} (h : ListU w base u v l) : ListC w v l := h.1.reads
def Small (l : List (List Int)) : Prop := l.length ≤ 1048576 ∧ tot l ≤ 1048576 ∧ ∀ r ∈ l, r.length ≤ 1048576
theorem RowsC.maxs {w : World} {vc : Value} {rows : List (List Int)} (h : RowsC w vc rows) : (rows.length : Int) ≤ 9223372036854775807 ∧ ∀ r ∈ rows, (r.length : Int) ≤ 9223372036854775807 := by
 obtain ⟨A, c, rfl, hc, hC⟩ := h
 refine ⟨by have := hC.2.1; omega, fun r hr => ?_⟩
 obtain ⟨i, hi, rfl⟩ := List.mem_iff_getElem.1 hr
 obtain ⟨ad, A0, c0, _, _, _, h4⟩ := at_L1 hC (i : Int) (by omega) (by omega)
 rw [rdL_at rows i hi] at h4
 have := h4.2.1
 omega
def szZ (l : List (List Int)) (x : Int) : Int := if x - (l.length : Int) < 0 then -1 else szR l (x - (l.length : Int))
theorem szZ_is (rows : List (List Int)) (x : Int) (hx : 0 ≤ x ∧ x ≤ 1048576) : szZ rows x = -1 ∨ (0 ≤ szZ rows x ∧ szZ rows x ≤ 1048576 ∧ Small rows) := by
 unfold szZ
 split
 ·exact .inl rfl
 ·rcases szR_is rows (x - (rows.length : Int)) (by omega) with h1 | ⟨h1, h2⟩
  ·exact .inl h1
  ·have h3 := tot_pos rows
   refine .inr ⟨by omega, by omega, by omega, by omega, fun r hr => ?_⟩
   have := tot_mem r hr
   omega
theorem szSS_f (rows : List (List Int)) (x : Int) (hx : 0 ≤ x ∧ x ≤ 1048576) (hl : (rows.length : Int) ≤ 9223372036854775807) (hr : ∀ r ∈ rows, (r.length : Int) ≤ 9223372036854775807) : laws_szIntSS.f (rows.length + 1) rows x = some (szZ rows x) := by
 unfold laws_szIntSS.f szZ
 rw [wrap_id (x := x - (rows.length : Int)) (by omega) (by omega)]
 by_cases q : x - (rows.length : Int) < 0
 ·rw [if_pos q, if_pos q]
 ·rw [if_neg q, if_neg q]
  have := szSS_loop rows (by omega) hr rows.length (rows.length + 1) 0 (x - (rows.length : Int)) (by omega) (by omega) (by omega) (by omega)
  rw [show ((0 : Nat) : Int) = 0 from rfl, List.drop_zero] at this
  exact this
end Go.Proofs.Ytnbnalbomflafaa.RA
namespace Go.Proofs.Ytnbnalbomflafaa.DT
open Go.RowKit YtnbnalbomflafaaW.PrintWords
open GR
open RA (wrap_id rd_at rdL_at)
def matF (rows : List (List Int)) : Nat → Nat → Int := fun r c => rd (GA.rd_L1 rows (r : Int)) (c : Int)
structure Sq (n : Nat) (rows : List (List Int)) : Prop where
 len : rows.length = n
 row : ∀ r ∈ rows, r.length = n
theorem Sq.at {n : Nat} {rows : List (List Int)} (h : Sq n rows) {i : Nat} (hi : i < n) : GA.rd_L1 rows (i : Int) = rows[i]'(by rw [h.len]; exact hi) ∧ (GA.rd_L1 rows (i : Int)).length = n := by
 have hl := h.len
 have e := rdL_at rows i (by omega)
 exact ⟨e, by rw [e]; exact h.row _ (List.getElem_mem _)⟩
def minorL (j : Nat) (rows : List (List Int)) : List (List Int) := (rows.drop 1).map fun r => r.take j ++ r.drop (j + 1)
theorem sq_minor {n j : Nat} {rows : List (List Int)} (h : Sq (n + 1) rows) (hj : j < n + 1) : Sq n (minorL j rows) := by
 refine ⟨by unfold minorL; simp [h.len], fun r hr => ?_⟩
 unfold minorL at hr
 obtain ⟨s, hs, rfl⟩ := List.mem_map.1 hr
 have := h.row s (List.mem_of_mem_drop hs)
 simp [this]
 omega
theorem take_skip (s : List Int) (j c : Nat) (hj : j ≤ s.length) : rd (s.take j ++ s.drop (j + 1)) (c : Int) = rd s (skip j c : Nat) := by
 unfold rd skip
 rw [Int.toNat_natCast, Int.toNat_natCast, List.getD_eq_getElem?_getD, List.getD_eq_getElem?_getD]
 by_cases hcj : c < j
 ·rw [if_pos hcj, List.getElem?_append_left (by simp; omega), List.getElem?_take_of_lt hcj]
 ·rw [if_neg hcj, List.getElem?_append_right (by simp; omega), List.getElem?_drop]
  congr 2
  simp
  omega
theorem minor_at {n j : Nat} {rows : List (List Int)} (h : Sq (n + 1) rows) (hj : j < n + 1) {r c : Nat} (hr : r < n) (hc : c < n) : matF (minorL j rows) r c = matF rows (r + 1) (skip j c) := by
 unfold matF
 have h1 := (sq_minor h hj).at hr
 have h2 := h.at (i := r + 1) (by omega)
 have hl := h.len
 have e1 : GA.rd_L1 (minorL j rows) (r : Int) = (GA.rd_L1 rows ((r + 1 : Nat) : Int)).take j ++ (GA.rd_L1 rows ((r + 1 : Nat) : Int)).drop (j + 1) := by
  rw [h1.1, h2.1]
  unfold minorL
  simp [Nat.add_comm 1 r]
 rw [e1]
 exact take_skip _ j c (by rw [h2.2]; omega)
theorem own_is (l : List Int) (h : l.length ≤ 1000000) : spec_l1Own.f l = some l := by
 unfold spec_l1Own.f
 simp only [Option.bind_some, List.nil_append, List.length_nil, Nat.zero_add]
 rw [if_pos (by omega)]
theorem trDet_l1 {n : Nat} {rows : List (List Int)} (h : Sq (n + 1) rows) (hn : n ≤ 1000) (S sgn a len jj : Int) (row : List Int) {j : Nat} (hj : j < n + 1) (d : Nat) : ∀ (k i : Nat), i + d = n →
  spec_trDet.l1 (k + d + 1) rows S sgn (j : Int) a ((minorL j rows).take i) row len jj (rows.drop 1) (n : Int) (i : Int) = (spec_trDet.f k (minorL j rows)).bind fun t => spec_trDet.l0 k rows (wrap64 (S + (wrap64 ((wrap64 (sgn * a)) * t)))) (wrap64 (-sgn)) row len (wrap64 (jj + 1)) := by
 have hl := h.len
 induction d with
 | zero =>
  intro k i hi
  have hm : (minorL j rows).length = n := (sq_minor h hj).len
  unfold spec_trDet.l1
  rw [if_neg (by omega), List.take_of_length_le (by omega)]
 | succ d ih =>
  intro k i hi
  have hm : (minorL j rows).length = n := (sq_minor h hj).len
  have e0 : rd_L1 (rows.drop 1) (i : Int) = GA.rd_L1 rows ((i + 1 : Nat) : Int) := by
   rw [(h.at (i := i + 1) (by omega)).1]
   have := rdL_at (rows.drop 1) i (by simp; omega)
   show GA.rd_L1 _ _ = _
   rw [this]
   simp [Nat.add_comm 1 i]
  have hr := (h.at (i := i + 1) (by omega)).2
  have e1 : (GA.rd_L1 rows ((i + 1 : Nat) : Int)).take j ++ (GA.rd_L1 rows ((i + 1 : Nat) : Int)).drop (j + 1) = (minorL j rows)[i]'(by omega) := by
   rw [(h.at (i := i + 1) (by omega)).1]
   unfold minorL
   simp [Nat.add_comm 1 i]
  have ew : wrap64 ((j : Int) + 1) = ((j + 1 : Nat) : Int) := by rw [wrap_id (by omega) (by omega)]; omega
  have ei : wrap64 ((i : Int) + 1) = ((i + 1 : Nat) : Int) := by rw [wrap_id (by omega) (by omega)]; omega
  rw [show k + (d + 1) + 1 = (k + d + 1) + 1 by omega]
  unfold spec_trDet.l1
  rw [e0, ew, ei]
  generalize GA.rd_L1 rows ((i + 1 : Nat) : Int) = s at *
  rw [if_pos (by omega), if_pos (by omega), if_pos (by simp; omega), if_pos (by omega), if_pos (by omega), Int.toNat_natCast, own_is _ (by simp; omega), Option.bind_some, if_pos (by omega), if_pos (by omega), Int.toNat_natCast, if_pos (by simp; omega), if_pos (by simp; omega), e1, ← List.take_succ_eq_append_getElem]
  exact ih k (i + 1) (by omega)
theorem fact_pos (n : Nat) : 0 < fact n := by
 induction n with
 | zero => exact Nat.one_pos
 | succ n ih => exact Nat.mul_pos (by omega) ih
def KT : Nat → Nat
 | 0 => 1
 | n + 1 => KT n + (n + 1) * (n + 3) + 3
theorem sg_cases (j : Nat) : sg j = 1 ∨ sg j = -1 := by unfold sg; split <;> simp
def tm (n : Nat) (rows : List (List Int)) (i : Nat) : Int := sg i * matF rows 0 i * D n fun r c => matF rows (r + 1) (skip i c)
theorem wrap_abs {x : Int} {N : Nat} (h : x.natAbs ≤ N) (hN : N ≤ 1000000000000000) : wrap64 x = x := wrap_id (by omega) (by omega)
theorem sg_abs (j : Nat) : (sg j).natAbs = 1 := by rcases sg_cases j with q | q <;> rw [q] <;> rfl
theorem tm_wraps {n e B : Nat} {rows : List (List Int)} (hb : ∀ c, c < n + 1 → (matF rows 0 c).natAbs ≤ e) (hD : ∀ i, i < n + 1 → (D n fun r c => matF rows (r + 1) (skip i c)).natAbs ≤ B) (hM : (n + 1) * (e * B) ≤ 1000000000000000) (he1 : e ≤ 1000000000000000) (j : Nat) (hj : j < n + 1) :
  wrap64 (sg j * matF rows 0 j) = sg j * matF rows 0 j ∧ wrap64 (tm n rows j) = tm n rows j ∧ wrap64 (sumN j (tm n rows) + tm n rows j) = sumN (j + 1) (tm n rows) := by
 have hbt : ∀ i, i < n + 1 → (tm n rows i).natAbs ≤ e * B := fun i hi => by
  unfold tm
  rw [Int.natAbs_mul, Int.natAbs_mul, sg_abs, Nat.one_mul]
  exact Nat.mul_le_mul (hb i hi) (hD i hi)
 have h1 : 1 * (e * B) ≤ (n + 1) * (e * B) := Nat.mul_le_mul_right _ (Nat.succ_le_succ (Nat.zero_le n))
 rw [Nat.one_mul] at h1
 refine ⟨wrap_abs (N := e) ?_ he1, wrap_abs (hbt j hj) (Nat.le_trans h1 hM), ?_⟩
 ·rw [Int.natAbs_mul, sg_abs, Nat.one_mul]
  exact hb j hj
 ·exact wrap_abs (x := sumN (j + 1) (tm n rows)) (sumN_abs (K := e * B) (f := tm n rows) (fun i hi => hbt i (Nat.lt_of_lt_of_le hi hj))) (Nat.le_trans (Nat.mul_le_mul_right _ hj) hM)
theorem nat_up {j n : Nat} (hn : n ≤ 1000) (hj : j < n + 1) : wrap64 ((j : Int) + 1) = ((j + 1 : Nat) : Int) := by
 rw [wrap_id (by omega) (by omega)]
 omega
theorem trDet_l0 {n : Nat} {rows : List (List Int)} (h : Sq (n + 1) rows) (hn : n ≤ 1000)
  (hw : ∀ j, j < n + 1 → wrap64 (sg j * matF rows 0 j) = sg j * matF rows 0 j ∧ wrap64 (tm n rows j) = tm n rows j ∧ wrap64 (sumN j (tm n rows) + tm n rows j) = sumN (j + 1) (tm n rows))
  (ih : ∀ k, KT n ≤ k → ∀ j, j < n + 1 → spec_trDet.f k (minorL j rows) = some (D n (matF (minorL j rows)))) (d : Nat) : ∀ (k j : Nat), j + d = n + 1 → KT n + d * (n + 3) + 1 ≤ k →
  spec_trDet.l0 k rows (sumN j (tm n rows)) (sg j) (GA.rd_L1 rows 0) ((n + 1 : Nat) : Int) (j : Int) = some (D (n + 1) (matF rows)) := by
 have hl := h.len
 have hr0 : (GA.rd_L1 rows 0).length = n + 1 := (h.at (i := 0) (Nat.succ_pos n)).2
 induction d with
 | zero =>
  intro k j hj hk
  obtain rfl : j = n + 1 := by omega
  obtain ⟨k, rfl⟩ : ∃ m, k = m + 1 := ⟨k - 1, by omega⟩
  unfold spec_trDet.l0
  rw [if_neg (by omega)]
  rfl
 | succ d ihd =>
  intro k j hj hk
  have hjn : j < n + 1 := by omega
  rw [Nat.succ_mul] at hk
  generalize hdn : d * (n + 3) = dn at hk ihd
  generalize hKT : KT n = kt at hk ih ihd
  obtain ⟨k, rfl⟩ : ∃ m, k = m + 1 := ⟨k - 1, by omega⟩
  have i1 : (j : Int) < ((n + 1 : Nat) : Int) := by omega
  have i2 : (0 : Int) ≤ (j : Int) := by omega
  have i3 : (j : Int) < ((GA.rd_L1 rows 0).length : Int) := by rw [hr0]; exact i1
  have i4 : (1 : Int) ≤ (rows.length : Int) := by omega
  have g1 : kt + dn + 1 ≤ k := by omega
  obtain ⟨k2, hk2⟩ : ∃ m, k = m + n + 1 := ⟨k - n - 1, by omega⟩
  have g2 : kt ≤ k2 := by omega
  have g3 : kt + dn + 1 ≤ k2 := by omega
  have g4 : j + 1 + d = n + 1 := by omega
  have ej := nat_up hn hjn
  unfold spec_trDet.l0
  rw [if_pos i1, if_pos i2, if_pos i3, show rd (GA.rd_L1 rows 0) (j : Int) = matF rows 0 j from rfl, ej]
  have es : wrap64 (- sg j) = sg (j + 1) := by
   rw [sg_succ]
   rcases sg_cases j with q | q <;> rw [q] <;> exact wrap_id (by decide) (by decide)
  rw [es]
  by_cases hz : matF rows 0 j = 0
  ·rw [if_pos hz]
   have := ihd k (j + 1) g4 g1
   have e0 : tm n rows j = 0 := by unfold tm; rw [hz, Int.mul_zero, Int.zero_mul]
   rw [sumN, e0, Int.add_zero] at this
   exact this
  ·rw [if_neg hz, if_pos i4, Option.bind_some]
   subst hk2
   have hdl : ((rows.drop 1).length : Int) = (n : Int) := by simp [hl]
   have e1 := trDet_l1 h hn (sumN j (tm n rows)) (sg j) (matF rows 0 j) ((n + 1 : Nat) : Int) (j : Int) (GA.rd_L1 rows 0) hjn n k2 0 (Nat.zero_add n)
   rw [List.take_zero] at e1
   rw [hdl]
   rw [show ((0 : Nat) : Int) = 0 from rfl] at e1
   rw [e1, ih k2 g2 j hjn, Option.bind_some, ej, es]
   have e2 : D n (matF (minorL j rows)) = D n fun r c => matF rows (r + 1) (skip j c) := D_congr fun r c hr hc => minor_at h hjn hr hc
   rw [e2, (hw j hjn).1]
   have w3 := ihd k2 (j + 1) g4 g3
   have w2 : wrap64 (sg j * matF rows 0 j * D n fun r c => matF rows (r + 1) (skip j c)) = tm n rows j := (hw j hjn).2.1
   rw [w2, (hw j hjn).2.2]
   exact w3
theorem fe_mono {n e M : Nat} (h : fact (n + 1) * e ^ (n + 1) ≤ M) : fact n * e ^ n ≤ M ∨ e = 0 := by
 by_cases he : e = 0
 ·exact .inr he
 ·left
  have hfe : (n + 1) * (e * (fact n * e ^ n)) = fact (n + 1) * e ^ (n + 1) := by
   rw [fact, Nat.pow_succ]
   simp only [Nat.mul_assoc, Nat.mul_comm, Nat.mul_left_comm]
  have h1 : 1 * (fact n * e ^ n) ≤ e * (fact n * e ^ n) := Nat.mul_le_mul_right _ (by omega)
  have h2 : 1 * (e * (fact n * e ^ n)) ≤ (n + 1) * (e * (fact n * e ^ n)) := Nat.mul_le_mul_right _ (by omega)
  omega
theorem trDet_is (n : Nat) : ∀ (e : Nat) (rows : List (List Int)), 0 < e → Sq n rows → n ≤ 1000 → (∀ r c, r < n → c < n → (matF rows r c).natAbs ≤ e) → fact n * e ^ n ≤ 1000000000000000 → ∀ k, KT n ≤ k → spec_trDet.f k rows = some (D n (matF rows)) := by
 induction n with
 | zero =>
  intro e rows he h _ _ _ k hk
  obtain ⟨k, rfl⟩ : ∃ m, k = m + 1 := ⟨k - 1, by unfold KT at hk; omega⟩
  have := h.len
  unfold spec_trDet.f
  rw [if_pos (by omega)]
  rfl
 | succ n ih =>
  intro e rows he h hn hb hB k hk
  have hl := h.len
  unfold KT at hk
  obtain ⟨k, rfl⟩ : ∃ m, k = m + 1 := ⟨k - 1, by omega⟩
  have h0 : (GA.rd_L1 rows 0).length = n + 1 := (h.at (i := 0) (by omega)).2
  have hfn := (fe_mono hB).resolve_right (by omega)
  unfold spec_trDet.f
  rw [if_neg (by omega), if_pos (by omega)]
  have hfe : (n + 1) * (e * (fact n * e ^ n)) = fact (n + 1) * e ^ (n + 1) := by
   rw [fact, Nat.pow_succ]
   simp only [Nat.mul_assoc, Nat.mul_comm, Nat.mul_left_comm]
  have hD : ∀ i, i < n + 1 → (D n fun r c => matF rows (r + 1) (skip i c)).natAbs ≤ fact n * e ^ n := fun i hi => D_bound fun r c hr hc => hb (r + 1) (skip i c) (by omega) (skip_lt hi hc)
  have hM : (n + 1) * (e * (fact n * e ^ n)) ≤ 1000000000000000 := by rw [hfe]; exact hB
  have hrec : ∀ k, KT n ≤ k → ∀ j, j < n + 1 → spec_trDet.f k (minorL j rows) = some (D n (matF (minorL j rows))) := fun k hk j hj => ih e _ he (sq_minor h hj) (by omega) (fun r c hr hc => by
   rw [minor_at h hj hr hc]
   exact hb _ _ (by omega) (skip_lt hj hc)) hfn k hk
  have h1 : 0 < fact n * e ^ n := Nat.mul_pos (fact_pos n) (Nat.pow_pos he)
  clear hfe hB ih
  generalize fact n * e ^ n = B at *
  have he1 : e ≤ 1000000000000000 := by
   have q1 : e * 1 ≤ e * B := Nat.mul_le_mul_left _ h1
   have q2 : 1 * (e * B) ≤ (n + 1) * (e * B) := Nat.mul_le_mul_right _ (by omega)
   omega
  have := trDet_l0 h (by omega) (tm_wraps (fun c hc => hb 0 c (by omega) hc) hD hM he1) hrec (n + 1) k 0 (by omega) (by omega)
  have h1 : ((rd_L1 rows 0).length : Int) = ((n + 1 : Nat) : Int) := by
   show ((GA.rd_L1 rows 0).length : Int) = _
   rw [h0]
  rw [h1]
  exact this
end Go.Proofs.Ytnbnalbomflafaa.DT
namespace Go.Proofs.Ytnbnalbomflafaa.DT
open Go.RowKit YtnbnalbomflafaaW.PrintWords
open RA
theorem matF_at {rows : List (List Int)} {r c : Nat} (hr : r < rows.length) (hc : c < rows[r].length) : matF rows r c = rows[r][c] := by
 unfold matF
 rw [rdL_at rows r hr, rd_at _ c hc]
theorem rowsD_get {w : World} {N : Nat} {vc : Value} {rows : List (List Int)} (h : RowsD w N vc rows) (hn : 0 < rows.length) : ∃ g cap cur, vc = .slice (some ⟨g, 0, none⟩) rows.length cap ∧ N ≤ g ∧ w.heap[g]? = some (.cells cur 37 (0, 0)) ∧
  ∀ i (hi : i < rows.length), 0 < rows[i].length → ∃ gi ci curi, cur[i]? = some (.slice (some ⟨gi, 0, none⟩) rows[i].length ci) ∧ N ≤ gi ∧ gi ≠ g ∧ w.heap[gi]? = some (.cells curi 3 (0, 0)) ∧ ∀ j (hj : j < rows[i].length), curi[j]? = some (.int .i64 rows[i][j]) := by
 obtain ⟨L, ho, hL⟩ := h
 have hLn : L.length = rows.length := by have := own_len ho; omega
 rcases ho.2 with ⟨h1, h2⟩ | ⟨g, cap, cur, rfl, hb, hh, h3, h4, h5, h6⟩
 ·omega
 ·refine ⟨g, cap, cur, rfl, hb, hh, fun i hi hp => ?_⟩
  obtain ⟨v, hv, hvo⟩ := hL.1 i rows[i] (List.getElem?_eq_getElem hi)
  rcases hvo.2 with ⟨q1, q2⟩ | ⟨gi, ci, curi, rfl, qb, qh, q3, q4, q5, q6⟩
  ·omega
  ·refine ⟨gi, ci, curi, ?_, qb, ?_, qh, fun j hj => ?_⟩
   ·have := congrArg (fun x : List Value => x[i]?) h6
    rw [hv, Nat.mul_one, List.getElem?_take_of_lt hi, Array.getElem?_toList] at this
    exact this
   ·intro c
    rw [c, hh] at qh
    simp at qh
   ·have := congrArg (fun x : List Value => x[j]?) q6
    simp only [encI, List.getElem?_map, List.getElem?_eq_getElem hj, Option.map_some] at this
    rw [Nat.mul_one, List.getElem?_take_of_lt hj, Array.getElem?_toList] at this
    exact this
theorem rowsD_set {w : World} {N g cap : Nat} {n : Nat} {cur : Array Value} {rows : List (List Int)} (h : RowsD w N (.slice (some ⟨g, 0, none⟩) n cap) rows) (hn : n = rows.length) (hh : w.heap[g]? = some (.cells cur 37 (0, 0))) {i gi ci m : Nat} (hi : i < rows.length) (hc : cur[i]? = some (.slice (some ⟨gi, 0, none⟩) m ci)) (hm : m = rows[i].length) (j : Nat) (x : Int) :
  RowsD (w.setCell ⟨gi, j, none⟩ (.int .i64 x)) N (.slice (some ⟨g, 0, none⟩) n cap) (rows.set i (rows[i].set j x)) := by
 subst hn hm
 obtain ⟨L, ho, hL⟩ := h
 have hLn : L.length = rows.length := by have := own_len ho; omega
 rcases ho.2 with ⟨h1, h2⟩ | ⟨g2, cap2, cur2, e, hb, hh2, h3, h4, h5, h6⟩
 ·cases h1
 injection e with e1 _ e3
 injection e1 with e1
 injection e1 with e1
 subst e1
 rw [hh] at hh2
 simp only [Option.some.injEq, Obj.cells.injEq] at hh2
 obtain ⟨rfl, _, _⟩ := hh2
 obtain ⟨v, hv, hvo⟩ := hL.1 i rows[i] (List.getElem?_eq_getElem hi)
 have hve : v = .slice (some ⟨gi, 0, none⟩) rows[i].length ci := by
  have := congrArg (fun x : List Value => x[i]?) h6
  rw [hv, Nat.mul_one, List.getElem?_take_of_lt hi, Array.getElem?_toList, hc] at this
  exact (Option.some.inj this).symm
 subst hve
 have hs := (own_store hvo (j : Int) x).1
 rw [Int.toNat_natCast] at hs
 have hs2 : (w.setCell ⟨gi, j, none⟩ (.int .i64 x)).ownsRow N 3 1 (.slice (some ⟨gi, 0, none⟩) rows[i].length ci) (rows[i].set j x).length (encI (rows[i].set j x)) := by
  rw [List.length_set]
  exact hs
 obtain ⟨p1, p2⟩ := RowsD.put ho hL hv hs2 fun b _ hb => Below.heap_setCell _ _ _ _ fun c => hb (by rw [c]; rfl)
 refine ⟨L, ?_, p2⟩
 exact p1
theorem rowsD_swap {w : World} {N g cap n : Nat} {cur : Array Value} {rows : List (List Int)} (h : RowsD w N (.slice (some ⟨g, 0, none⟩) n cap) rows) (hn : n = rows.length) (hh : w.heap[g]? = some (.cells cur 37 (0, 0))) {k p : Nat} {vk vp : Value} (hk : k < rows.length) (hp : p < rows.length) (hkp : k ≠ p) (ck : cur[k]? = some vk) (cp : cur[p]? = some vp) :
  RowsD ((w.setCell ⟨g, p, none⟩ vk).setCell ⟨g, k, none⟩ vp) N (.slice (some ⟨g, 0, none⟩) n cap) ((rows.set p rows[k]).set k rows[p]) := by
 subst hn
 obtain ⟨L, ho, hL⟩ := h
 have hLn : L.length = rows.length := by have := own_len ho; omega
 rcases ho.2 with ⟨h1, h2⟩ | ⟨g2, cap2, cur2, e, hb, hh2, h3, h4, h5, h6⟩
 ·cases h1
 injection e with e1 _ e3
 injection e1 with e1
 injection e1 with e1
 subst e1 e3
 rw [hh] at hh2
 simp only [Option.some.injEq, Obj.cells.injEq] at hh2
 obtain ⟨rfl, _, _⟩ := hh2
 have hc2 : rows.length ≤ cur.size := by omega
 have atc : ∀ i, i < rows.length → L[i]? = cur[i]? := fun i hi => by
  have := congrArg (fun x : List Value => x[i]?) h6
  rw [Nat.mul_one, List.getElem?_take_of_lt hi, Array.getElem?_toList] at this
  exact this.symm
 have hLk : L[k]? = some vk := (atc k hk).trans ck
 have hLp : L[p]? = some vp := (atc p hp).trans cp
 have hg1 : (w.setCell ⟨g, p, none⟩ vk).heap[g]? = some (.cells (cur.setIfInBounds p vk) 37 (0, 0)) := blk_set hh p vk
 have hg2 := blk_set hg1 k vp
 have far : ∀ b, b ≠ g → ((w.setCell ⟨g, p, none⟩ vk).setCell ⟨g, k, none⟩ vp).heap[b]? = w.heap[b]? := fun b hbg => (Below.heap_setCell _ _ _ _ hbg).trans (Below.heap_setCell _ _ _ _ hbg)
 have move : ∀ {v : Value} {r : List Int}, w.ownsRow N 3 1 v r.length (encI r) → ((w.setCell ⟨g, p, none⟩ vk).setCell ⟨g, k, none⟩ vp).ownsRow N 3 1 v r.length (encI r) := fun {v r} hv => own_move hv fun b hb => far b fun c => by
  obtain ⟨cells, hc⟩ := own_typed hv b hb
  rw [c, hh] at hc
  simp at hc
 let s : Nat → Nat := fun i => if i = k then p else if i = p then k else i
 have hss : ∀ i j, s i = s j → i = j := fun i j e => by
  simp only [s] at e
  grind
 have hsl : ∀ i, i < rows.length → s i < rows.length := fun i hi => by
  simp only [s]
  grind
 have hL2 : ∀ i, i < rows.length → ((L.set p vk).set k vp)[i]? = L[s i]? := fun i hi => by
  simp only [s]
  by_cases h1 : i = k
  ·subst h1
   rw [List.getElem?_set_self (by simp; omega), if_pos rfl, hLp]
  ·rw [List.getElem?_set_ne (fun c => h1 c.symm), if_neg h1]
   by_cases h2 : i = p
   ·subst h2
    rw [List.getElem?_set_self (by omega), if_pos rfl, hLk]
   ·rw [List.getElem?_set_ne (fun c => h2 c.symm), if_neg h2]
 have hR2 : ∀ i, i < rows.length → ((rows.set p rows[k]).set k rows[p])[i]? = rows[s i]? := fun i hi => by
  simp only [s]
  by_cases h1 : i = k
  ·subst h1
   rw [List.getElem?_set_self (by simp; omega), if_pos rfl, List.getElem?_eq_getElem hp]
  ·rw [List.getElem?_set_ne (fun c => h1 c.symm), if_neg h1]
   by_cases h2 : i = p
   ·subst h2
    rw [List.getElem?_set_self (by omega), if_pos rfl, List.getElem?_eq_getElem hk]
   ·rw [List.getElem?_set_ne (fun c => h2 c.symm), if_neg h2]
 refine ⟨(L.set p vk).set k vp, ?_, fun i r hr => ?_, fun i j x y b hx hy hij hb1 => ?_⟩
 ·refine ⟨by simp [hLn], .inr ⟨g, cap, _, by simp, hb, hg2, by simpa using h3, h4, by simpa using h5, ?_⟩⟩
  apply List.ext_getElem?
  intro i
  by_cases hi : i < rows.length
  ·rw [List.getElem?_take_of_lt (by simpa using hi), Array.getElem?_toList, hL2 i hi]
   simp only [s]
   by_cases h1 : i = k
   ·subst h1
    rw [Array.getElem?_setIfInBounds_self_of_lt (by simp; omega), if_pos rfl, hLp]
   ·rw [Array.getElem?_setIfInBounds_ne (fun c => h1 c.symm), if_neg h1]
    by_cases h2 : i = p
    ·subst h2
     rw [Array.getElem?_setIfInBounds_self_of_lt (by omega), if_pos rfl, hLk]
    ·rw [Array.getElem?_setIfInBounds_ne (fun c => h2 c.symm), if_neg h2, atc i hi]
  ·rw [List.getElem?_take_eq_none (by simp; omega), List.getElem?_eq_none (by simp; omega)]
 ·have hi : i < rows.length := by
   have := (List.getElem?_eq_some_iff.1 hr).1
   simpa using this
  rw [hR2 i hi] at hr
  obtain ⟨v, q1, q2⟩ := hL.1 (s i) r hr
  exact ⟨v, (hL2 i hi).trans q1, move q2⟩
 ·have hi : i < rows.length := by
   have := (List.getElem?_eq_some_iff.1 hx).1
   simp at this
   omega
  have hj : j < rows.length := by
   have := (List.getElem?_eq_some_iff.1 hy).1
   simp at this
   omega
  rw [hL2 i hi] at hx
  rw [hL2 j hj] at hy
  exact hL.2 (s i) (s j) x y b hx hy (fun c => hij (hss i j c)) hb1
theorem sq_set {n i j : Nat} {rows : List (List Int)} {x : Int} (h : Sq n rows) (hi : i < rows.length) : Sq n (rows.set i (rows[i].set j x)) := by
 refine ⟨by simp [h.len], fun r hr => ?_⟩
 rcases List.mem_or_eq_of_mem_set hr with q | q
 ·exact h.row r q
 ·rw [q, List.length_set]
  exact h.row _ (List.getElem_mem _)
theorem sq_swap {n k p : Nat} {rows : List (List Int)} (h : Sq n rows) (hk : k < rows.length) (hp : p < rows.length) : Sq n ((rows.set p rows[k]).set k rows[p]) := by
 refine ⟨by simp [h.len], fun r hr => ?_⟩
 rcases List.mem_or_eq_of_mem_set hr with q | q
 ·rcases List.mem_or_eq_of_mem_set q with q | q
  ·exact h.row r q
  ·rw [q]; exact h.row _ (List.getElem_mem _)
 ·rw [q]; exact h.row _ (List.getElem_mem _)
theorem sq_row {n r : Nat} {rows : List (List Int)} (h : Sq n rows) (hr : r < rows.length) : rows[r].length = n := h.row _ (List.getElem_mem _)
theorem matF_set {n i j : Nat} {rows : List (List Int)} {x : Int} (h : Sq n rows) (hi : i < rows.length) (hj : j < n) {r c : Nat} (hr : r < n) (hc : c < n) : matF (rows.set i (rows[i].set j x)) r c = if r = i ∧ c = j then x else matF rows r c := by
 have hl := h.len
 have h2 := sq_set (j := j) (x := x) h hi
 have hl2 := h2.len
 rw [matF_at (by omega) (by rw [sq_row h2 (by omega)]; exact hc), matF_at (by omega) (by rw [sq_row h (by omega)]; exact hc)]
 by_cases hri : r = i
 ·subst hri
  simp only [List.getElem_set_self]
  by_cases hcj : c = j
  ·subst hcj
   simp
  ·rw [if_neg (fun q => hcj q.2), List.getElem_set_ne (fun q => hcj q.symm)]
 ·rw [if_neg (fun q => hri q.1)]
  simp only [List.getElem_set_ne (fun q => hri q.symm)]
theorem matF_swap {n k p : Nat} {rows : List (List Int)} (h : Sq n rows) (hk : k < rows.length) (hp : p < rows.length) {r c : Nat} (hr : r < n) (hc : c < n) : matF ((rows.set p rows[k]).set k rows[p]) r c = matF rows (sw k p r) c := by
 have hl := h.len
 have h2 := sq_swap h hk hp
 have hl2 := h2.len
 have hsr : sw k p r < n := by unfold sw; grind
 rw [matF_at (by omega) (by rw [sq_row h2 (by omega)]; exact hc), matF_at (by omega) (by rw [sq_row h (by omega)]; exact hc)]
 unfold sw
 by_cases h1 : r = k
 ·subst h1
  simp only [List.getElem_set_self, if_true]
 ·simp only [if_neg h1]
  by_cases h3 : r = p
  ·subst h3
   simp only [List.getElem_set_ne (fun q => h1 q.symm), List.getElem_set_self, if_true]
  ·simp only [List.getElem_set_ne (fun q => h1 q.symm), List.getElem_set_ne (fun q => h3 q.symm), if_neg h3]
def setM (rs : List (List Int)) (i j : Nat) (x : Int) : List (List Int) := rs.set i ((GA.rd_L1 rs (i : Int)).set j x)
def swM (rs : List (List Int)) (k p : Nat) : List (List Int) := (rs.set p (GA.rd_L1 rs (k : Int))).set k (GA.rd_L1 rs (p : Int))
theorem sq_setM {n i j : Nat} {rs : List (List Int)} {x : Int} (h : Sq n rs) (hi : i < n) : Sq n (setM rs i j x) := by
 unfold setM
 rw [(h.at hi).1]
 exact sq_set h _
theorem sq_swM {n k p : Nat} {rs : List (List Int)} (h : Sq n rs) (hk : k < n) (hp : p < n) : Sq n (swM rs k p) := by
 unfold swM
 rw [(h.at hk).1, (h.at hp).1]
 exact sq_swap h _ _
theorem matF_setM {n i j : Nat} {rs : List (List Int)} {x : Int} (h : Sq n rs) (hi : i < n) (hj : j < n) {r c : Nat} (hr : r < n) (hc : c < n) : matF (setM rs i j x) r c = if r = i ∧ c = j then x else matF rs r c := by
 unfold setM
 rw [(h.at hi).1]
 exact matF_set h _ hj hr hc
theorem matF_swM {n k p : Nat} {rs : List (List Int)} (h : Sq n rs) (hk : k < n) (hp : p < n) {r c : Nat} (hr : r < n) (hc : c < n) : matF (swM rs k p) r c = matF rs (sw k p r) c := by
 unfold swM
 rw [(h.at hk).1, (h.at hp).1]
 exact matF_swap h _ _ hr hc
theorem cells_of {w : World} {N g cap n : Nat} {rs : List (List Int)} (h : RowsD w N (.slice (some ⟨g, 0, none⟩) n cap) rs) (hs : Sq n rs) {i : Nat} (hi : i < n) : N ≤ g ∧ w.frozen? ⟨g, i, none⟩ = false ∧ ∃ gi ci, w.cell? ⟨g, i, none⟩ = some (.slice (some ⟨gi, 0, none⟩) n ci) ∧ N ≤ gi ∧ gi ≠ g ∧ (∀ j, j < n → w.cell? ⟨gi, j, none⟩ = some (.int .i64 (matF rs i j)) ∧ w.frozen? ⟨gi, j, none⟩ = false) ∧
  ∀ j x, RowsD (w.setCell ⟨gi, j, none⟩ (.int .i64 x)) N (.slice (some ⟨g, 0, none⟩) n cap) (setM rs i j x) := by
 have hl := hs.len
 obtain ⟨g2, cap2, cur, e, hgN, hgh, hget⟩ := rowsD_get h (by omega)
 injection e with e1 _ e3
 injection e1 with e1
 injection e1 with e1
 subst e1 e3
 have hrl := sq_row hs (r := i) (by omega)
 obtain ⟨gi, ci, curi, h1, h2, h3, h4, h5⟩ := hget i (by omega) (by omega)
 refine ⟨hgN, kF_ hgh i, gi, ci, (blk_cell hgh i).trans (by rw [h1, hrl]), h2, h3, fun j hj => ⟨(blk_cell h4 j).trans (by rw [h5 j (by omega), matF_at (by omega) (by omega)]), kF_ h4 j⟩, fun j x => ?_⟩
 unfold setM
 rw [(hs.at hi).1]
 exact rowsD_set h hl.symm hgh (by omega) h1 rfl j x
theorem swap_of {w : World} {N g cap n : Nat} {rs : List (List Int)} (h : RowsD w N (.slice (some ⟨g, 0, none⟩) n cap) rs) (hs : Sq n rs) {k p : Nat} (hk : k < n) (hp : p < n) (hkp : k ≠ p) {vk vp : Value} (ck : w.cell? ⟨g, k, none⟩ = some vk) (cp : w.cell? ⟨g, p, none⟩ = some vp) :
  RowsD ((w.setCell ⟨g, p, none⟩ vk).setCell ⟨g, k, none⟩ vp) N (.slice (some ⟨g, 0, none⟩) n cap) (swM rs k p) := by
 have hl := hs.len
 obtain ⟨g2, cap2, cur, e, hgN, hgh, hget⟩ := rowsD_get h (by omega)
 injection e with e1 _ e3
 injection e1 with e1
 injection e1 with e1
 subst e1 e3
 unfold swM
 rw [(hs.at hk).1, (hs.at hp).1]
 exact rowsD_swap h hl.symm hgh _ _ hkp ((blk_cell hgh k).symm.trans ck) ((blk_cell hgh p).symm.trans cp)
end Go.Proofs.Ytnbnalbomflafaa.DT
namespace Go.Proofs.Ytnbnalbomflafaa.KA
open Go.RowKit YtnbnalbomflafaaW.PrintWords YtnbnalbomflafaaW.PrintLast YtnbnalbomflafaaW.PrintMore
open GA
def filled (k : Int) (N n : Nat) : List Value := List.replicate n (.int .i64 k) ++ List.replicate (N - n) (.int .i64 0)
theorem filled_length {k : Int} {N n : Nat} (h : n ≤ N) : (filled k N n).length = N := by simp [filled]; omega
theorem filled_all (k : Int) (N : Nat) : filled k N N = nums .i64 (List.replicate N k) := by simp [filled, nums]
theorem filled_get {k : Int} {N n j : Nat} (hj : j < n) : (filled k N n)[j]? = some (.int .i64 k) := by
 unfold filled
 rw [List.getElem?_append_left (by simpa using hj)]
 simp [hj]
theorem filled_splice {k : Int} {N n m : Nat} (h : n + m ≤ N) : splice (filled k N n) n (List.replicate m (.int .i64 k)) = filled k N (n + m) := by
 unfold splice filled
 rw [List.take_append_of_le_length (by simp), List.take_of_length_le (by simp), List.drop_append]
 simp only [List.length_replicate, List.drop_replicate]
 rw [show n - (n + m) = 0 by omega, show n + m - n = m by omega, show N - n - m = N - (n + m) by omega]
 simp [List.replicate_append_replicate, ← List.append_assoc]
theorem filled_made (k : Int) (N : Nat) : (madeCells #[.int .i64 0] N).toList = filled k N 0 := by
 simp only [filled, madeCells]
 apply List.ext_getElem
 ·simp
 ·intro i h1 h2
  simp [Nat.mod_one]
theorem filled_own {W : World} {base g N : Nat} {k : Int} (hb : base ≤ g) (hN : N ≤ 100000) (h : W.heap[g]? = some (.cells (filled k N N).toArray 3 (0, 0))) :
  W.ownsRow base 3 1 (.slice (some ⟨g, 0, none⟩) N N) N (nums .i64 (List.replicate N k)) := by
 refine ⟨by simp [nums], .inr ⟨g, N, _, rfl, hb, h, Nat.le_refl _, by unfold maxLen; omega, by simp [filled], ?_⟩⟩
 rw [← filled_all]
 exact List.take_of_length_le (by simp [filled])
def R9.T : Bool × List (List Nat × List Nat) := (true, [([], []), ([], []), ([], []), ([1, 2], [1, 2]), ([], []), ([], []), ([4, 5], [4, 5]), ([3, 6], [3, 6]), ([0, 7], [0, 7]), ([8, 7, 0, 1, 2, 3, 4, 5, 6, 7, 8], [0, 2, 5, 8])])
def R9.B : List Nat := [0, 0, 0, 6, 0, 0, 48, 126, 255, 511]
theorem R9.tab : rtab .any (opsOf Try.f128 9) = R9.T := by kernel_rfl
theorem R9.bits : waitsOk R9.T.2 R9.B = true := by kernel_rfl
set_option maxHeartbeats 1000000 in
set_option maxRecDepth 100000 in
theorem repeat_calls (gx ox c0 : Nat) (k : Int) (N : Nat) (w : World) (h1 : 1 ≤ N) (h2 : N ≤ 130) (hx : w.cell? ⟨gx, ox, none⟩ = some (.int .i64 k)) (hgx : gx < w.heap.size) :
  Calls Try.prog 128 #[.slice (some ⟨gx, ox, none⟩) 1 c0, .int .i64 (N : Int)] w fun e' w' => ∃ v, e' = .returned v ∧ w'.ownsRow w.heap.size 3 1 v N (nums .i64 (List.replicate N k)) ∧ Below w.heap.size w w' := by
 have HM : ∀ W, Calls Try.prog 132 #[.int .u64 1, .int .u64 (N : Int)] W fun e w' => e = .returned (.tuple #[.int .u64 0, .int .u64 (N : Int)]) ∧ w' = W := fun W => by
  have := Try.bits_Mul 1 N (by decide) (by omega) W
  rw [show 1 * N / 18446744073709551616 = 0 by omega, show 1 * N % 18446744073709551616 = N by omega] at this
  exact this
 have HM := Aside0.mk HM
 have hmk := print_make (P := Try.prog) 37 3 .i64 8 Try.underlying37 info3 (by decide) N (by omega)
 have hw1 : IntKind.u64.wrap (N : Int) = (N : Int) := by unfold IntKind.wrap; simp [IntKind.bits, IntKind.signed]; omega
 have hw2 : IntKind.i64.wrap (N : Int) = (N : Int) := IntWalk.i64_in _ (by omega)
 have hM0 : ∀ W : World, (W.alloc (.cells (madeCells #[.int .i64 0] N) 3)).heap[W.heap.size]? = some (.cells (filled k N 0).toArray 3 (0, 0)) := fun W => by
  have h := blk_new W (.cells (madeCells #[.int .i64 0] N) 3)
  rw [← filled_made]
  simpa using h
 have hM0 := Aside0.mk hM0
 have hX := Aside0.mk hx
 have hlen := Aside0.mk (filled_length (k := k) (Nat.zero_le N))
 clear hx
 generalize hF0 : filled k N 0 = F0 at hM0 hlen
 have hF0 := Aside0.mk hF0
 have hP : ∀ j v, [Value.int .i64 (k : Int)][j]? = some v → (w.alloc (.cells (madeCells #[.int .i64 0] N) 3)).cell? ((⟨gx, ox, none⟩ : Addr).add j) = some v := fun j v hj => by
  match j, hj with
  | 0, hj =>
   simp at hj
   subst hj
   exact (World.cell?_alloc_lt _ _ _ hgx).trans hX.out
 have hP := Aside0.mk hP
 go_enter Try.func128, Try.ntmps128
 go_upto_region 7 with (go_at_call 132; refine (HM.out _).mono ?_; rintro e w' ⟨rfl, hw'⟩; subst w')
 go_wp2_with (refine wpList_copy_splice (o := ⟨some 33, _, _, _, _, _⟩) rfl (.tmp 31) (.tmp 32) 37 37 rfl 3 Try.underlying37 (by rfl) _ _ _ _ _ _ rfl rfl w.heap.size 0 F0 3 (hM0.out w) [.int .i64 (k : Int)] (by show 1 = min 1 N; omega) (fun _ => ⟨rfl, _, rfl, hP.out⟩) (by rw [hlen.out]; show 0 + 1 ≤ N; omega) (by intro v hv; simp at hv; subst hv; rfl) w.heap.size w (bA_ (Below.refl _ _) _) (Nat.le_refl _) ?_; intro w1 hG1 hB1)
 have G1 : w1.heap[w.heap.size]? = some (.cells (filled k N 1).toArray 3 (0, 0)) := by
  have := hG1.out
  rw [← hF0.out] at this
  rw [show [Value.int .i64 (k : Int)] = List.replicate 1 (Value.int .i64 k) from rfl, filled_splice (by omega)] at this
  simpa using this
 have G1 := Aside0.mk G1
 have B1 := Aside0.mk hB1
 clear hG1 hB1 hP hM0 hX hlen hF0 HM hmk
 go_loopg [8] N (fun kq v8 wr => ∃ n : Nat, v8 = .int .i64 (n : Int) ∧ Aside0 (1 ≤ n ∧ n ≤ N ∧ N - n ≤ kq) ∧ Aside0 (wr.heap[w.heap.size]? = some (.cells (filled k N n).toArray 3 (0, 0))) ∧ Aside0 (Below w.heap.size w wr))
 case atStart => exact ⟨1, rfl, ⟨by omega⟩, G1, B1⟩
 case round =>
  clear G1 B1
  obtain ⟨n, rfl, hn, hG, hB⟩ := hrel
  have hn0 := hn.out
  clear hn
  obtain ⟨hn1, hn2, hn3⟩ := hn0
  by_cases hlt : n < N
  ·have hc : (n : Int) < (N : Int) := by omega
   obtain ⟨m, hm⟩ : ∃ m, m = min n (N - n) := ⟨_, rfl⟩
   have hS : ∀ j v, (List.replicate m (Value.int .i64 k))[j]? = some v → wr.cell? ((⟨w.heap.size, 0, none⟩ : Addr).add j) = some v := fun j v hj => by
    rw [List.getElem?_replicate] at hj
    split at hj
    ·rename_i hjm
     have h := (blk_cell hG.out j).trans (show _ from (by simpa using filled_get (k := k) (N := N) (n := n) (j := j) (by omega)))
     rw [← Option.some.inj hj]
     unfold Addr.add
     split
     ·rename_i h0; subst h0; exact h
     ·simpa using h
    ·cases hj
   have hS := Aside0.mk hS
   have hNn : ¬ N = n := by omega
   have hfl := Aside0.mk (filled_length (k := k) hn2)
   have hsp := Aside0.mk (filled_splice (k := k) (N := N) (n := n) (m := m) (by omega))
   have hwn : IntKind.i64.wrap ((n : Int) + (m : Int)) = (n : Int) + (m : Int) := IntWalk.i64_in _ (by omega)
   have hmm := Aside0.mk hm
   clear hm
   go_upto_region 9 with (fail)
   refine start_ (n := 10) (S := fun w' => True) (ds := []) #[false, false, false, false, false, false, false, false, false, false] (by kernel_rfl) rfl rfl trivial (fun hHeld => ?_)
   refine with_tabW R9.tab R9.bits (fun HT_ HW_ => ?_)
   generalize hwd : wr.drew = W9
   have hG9 : W9.heap[w.heap.size]? = some (.cells (filled k N n).toArray 3 (0, 0)) := by rw [← hwd]; exact hG.out
   have hB9 : Below w.heap.size w W9 := by rw [← hwd]; exact bN_ hB.out 1
   have hS9 : ∀ j v, (List.replicate m (Value.int .i64 k))[j]? = some v → W9.cell? ((⟨w.heap.size, 0, none⟩ : Addr).add j) = some v := by rw [← hwd]; exact hS.out
   have hG9 := Aside0.mk hG9
   have hB9 := Aside0.mk hB9
   have hS9 := Aside0.mk hS9
   clear hwd hG hB hS
   refine pu_ (i := 0) (N := some 38) (v := ?_) (a' := ?_) HT_.out rfl rfl (Or.inl ⟨by rfl, ?_⟩) ?_ ?_
   rotate_left
   ·intro w'
    go_simp
    with_reducible rfl
   rotate_left
   ·simp only [sp_]
    rfl
   refine pu_ (i := 1) (N := some 39) (v := ?_) (a' := ?_) HT_.out rfl rfl (Or.inl ⟨by rfl, ?_⟩) ?_ ?_
   rotate_left
   ·intro w'
    go_simp
    with_reducible rfl
   rotate_left
   ·simp only [sp_]
    rfl
   refine pu_ (i := 2) (N := some 40) (v := ?_) (a' := ?_) HT_.out rfl rfl (Or.inl ⟨by rfl, ?_⟩) ?_ ?_
   rotate_left
   ·intro w'
    go_simp
    with_reducible rfl
   rotate_left
   ·simp only [sp_]
    rfl
   refine pu_ (i := 3) (N := some 41) (v := ?_) (a' := ?_) HT_.out rfl rfl (Or.inl ⟨by rfl, ?_⟩) ?_ ?_
   rotate_left
   ·intro w'
    go_simp
    with_reducible rfl
   rotate_left
   ·simp only [sp_]
    rfl
   refine pu_ (i := 4) (N := some 42) (v := ?_) (a' := ?_) HT_.out rfl rfl (Or.inl ⟨by rfl, ?_⟩) ?_ ?_
   rotate_left
   ·intro w'
    go_simp
    with_reducible rfl
   rotate_left
   ·simp only [sp_]
    rfl
   refine pu_ (i := 5) (N := some 43) (v := ?_) (a' := ?_) HT_.out rfl rfl (Or.inl ⟨by rfl, ?_⟩) ?_ ?_
   rotate_left
   ·intro w'
    go_simp
    with_reducible rfl
   rotate_left
   ·simp only [sp_]
    rfl
   refine pu_ (i := 6) (N := some 44) (v := ?_) (a' := ?_) HT_.out rfl rfl (Or.inl ⟨by rfl, ?_⟩) ?_ ?_
   rotate_left
   ·intro w'
    go_simp
    with_reducible rfl
   rotate_left
   ·simp only [sp_]
    rfl
   refine one_ (i := 7) (N := some 45) #[true, true, true, true, true, true, true, true, false, false] rfl rfl (one_of HT_.out (by kernel_rfl)) (by decide) (fun K hK => ?_)
   refine step_copy_splice rfl (.tmp 41) (.tmp 44) 37 37 rfl 3 Try.underlying37 (by rfl) _ _ _ _ _ _ rfl rfl w.heap.size n (filled k N n) 3 hG9.out (List.replicate m (.int .i64 k)) (by rw [List.length_replicate]; show m = min n (N - n); exact hmm.out) (fun _ => ⟨rfl, _, rfl, hS9.out⟩) (by have := hmm.out; rw [hfl.out, List.length_replicate]; omega) (by intro v hv; rw [List.eq_of_mem_replicate hv]; rfl) w.heap.size w hB9.out (Nat.le_refl _) ?_
   intro w2 hG2 hB2
   rw [List.length_replicate]
   have hG3 := hG2.out
   rw [hsp.out] at hG3
   have hG3 := Aside0.mk hG3
   have hB3 := Aside0.mk hB2
   clear hG2 hB2 hS9 hG9 hB9
   refine hK.out (Act.put _ (some 45) _) _ trivial (fun hHeld => ?_)
   clear hK K
   (try simp only [Act.put, List.setIfInBounds_toArray, List.set_cons_zero, List.set_cons_succ])
   refine pu_ (i := 8) (N := some 46) (v := ?_) (a' := ?_) HT_.out rfl rfl (Or.inl ⟨by rfl, ?_⟩) ?_ ?_
   rotate_left
   ·intro w'
    go_simp
    first | with_reducible rfl | (trace_state; fail)
   rotate_left
   ·simp only [sp_]
    rfl
   refine pu_ (i := 9) (N := some 8) (v := ?_) (a' := ?_) HT_.out rfl rfl (Or.inl ⟨by rfl, ?_⟩) ?_ ?_
   rotate_left
   ·intro w'
    go_simp
    with_reducible rfl
   rotate_left
   ·simp only [sp_]
    rfl
   refine done_ (done_of HT_.out (by kernel_rfl)) ?_
   try go_wp2_with (fail)
   go_roundg (gk - 1)
   case measure => omega
   case rel => exact ⟨n + m, by go_num, ⟨by have := hmm.out; omega⟩, hG3, hB3⟩
  ·have hc : ¬ ((n : Int) < (N : Int)) := by omega
   obtain rfl : n = N := by omega
   go_wp2_with (fail)
   go_ret
   exact ⟨_, rfl, filled_own (Nat.le_refl _) (by omega) hG.out, hB.out⟩
theorem clone_calls (A : Option Addr) (c : Nat) (l : List Int) (w : World) (hl : l.length ≤ 17592186044415) (hr : Kd.C (Kd.int .i64) w A l.length l) :
  Calls Try.prog 114 #[.slice A l.length c] w fun e w' => ∃ v, e = .returned v ∧ Kd.R (Kd.int .i64) 3 w' w.heap.size (fun _ => True) v l ∧ Below w.heap.size w w' := by
 rcases Nat.eq_zero_or_pos l.length with h0 | h0
 ·obtain rfl : l = [] := List.eq_nil_of_length_eq_zero h0
  cases A with
  | none =>
   refine (Try.slices_Clone_int_nil 0 c w).mono ?_
   rintro e w' ⟨rfl, rfl⟩
   exact ⟨_, rfl, Kd.R_nil _ _ _ _ _, Below.refl _ _⟩
  | some a =>
   refine (Try.slices_Clone_int_zero a c w).mono ?_
   rintro e w' ⟨v, rfl, ho, _, hB⟩
   exact ⟨v, rfl, Kd.R_of_own ho (fun _ _ => trivial), hB⟩
 ·have hcell : ∀ j, j < l.length → ∃ ad, A = some ad ∧ w.cell? (ad.add j) = some (.int .i64 (l.getD j 0)) := fun j hj => by
   obtain ⟨ad, e, hc⟩ := Kd.at_int hr (j : Int) (by omega) (by omega)
   rw [Int.toNat_natCast] at hc
   exact ⟨ad, e, by simpa [rd] using hc⟩
  obtain ⟨ad, rfl, hc0⟩ := hcell 0 h0
  have hpl : ad = ⟨ad.block, ad.off, none⟩ := addr_plain (by simpa [Addr.add] using hc0)
  have hc : ∀ j, j < l.length → w.cell? ⟨ad.block, ad.off + j, none⟩ = some (.int .i64 (l.getD j 0)) := fun j hj => by
   obtain ⟨ad', e, hc⟩ := hcell j hj
   injection e with e
   subst e
   rw [← hc]
   congr 1
   unfold Addr.add
   split
   ·rename_i h; subst h; exact hpl.symm
   ·rfl
  rw [hpl]
  refine (Try.slices_Clone_int ad.block ad.off l.length c l w (Nat.le_refl _) (by omega) hc).mono ?_
  rintro e w' ⟨v, rfl, ho, _, hB⟩
  rw [List.take_of_length_le (Nat.le_refl _)] at ho
  exact ⟨v, rfl, Kd.R_of_own ho (fun _ _ => trivial), hB⟩
def slices_Repeat_int_int.f : List Int → Int → Option (List Int)
 | [v], n => if 1 ≤ n ∧ n ≤ 130 then some (List.replicate n.toNat v) else none
 | _, _ => none
theorem slices_Repeat_int_int.calls (A0 : Option Addr) (c0 : Nat) (l0 : List Int) (a1 : Int) (r : List Int) (w : World) (hr0 : Kd.C (Kd.int .i64) w A0 l0.length l0) (hc0 : l0.length ≤ c0) (h : slices_Repeat_int_int.f l0 a1 = some r) :
  Calls Try.prog 128 #[.slice A0 l0.length c0, .int .i64 a1] w fun e w' => ∃ v0_ : Value, e = .returned (v0_) ∧ Kd.R (Kd.int .i64) 3 w' w.heap.size (fun _ => True) v0_ r ∧ Below w.heap.size w w' := by
 unfold slices_Repeat_int_int.f at h
 split at h
 ·rename_i v0 v
  split at h
  ·rename_i hn
   obtain rfl := Option.some.inj h
   obtain ⟨ad, rfl, hc⟩ := Kd.at_int hr0 0 (by decide) (by simp)
   have hc' : w.cell? ad = some (.int .i64 v) := by simpa [Addr.add, rd] using hc
   obtain ⟨gb, go, hpl⟩ : ∃ b o, ad = ⟨b, o, none⟩ := ⟨_, _, addr_plain hc'⟩
   subst hpl
   obtain ⟨N, rfl⟩ := Int.eq_ofNat_of_zero_le (show 0 ≤ a1 by omega)
   refine (repeat_calls gb go c0 v N w (by omega) (by omega) hc' (World.block_lt_of_cell? w _ hc')).mono ?_
   rintro e w' ⟨u, rfl, ho, hB⟩
   have hl : N = (List.replicate N v).length := by simp
   rw [Int.toNat_natCast]
   exact ⟨u, rfl, Kd.R_of_own (by rw [← hl]; exact ho) (fun _ _ => trivial), hB⟩
  ·cases h
 ·cases h
end Go.Proofs.Ytnbnalbomflafaa.KA
namespace Go.Proofs.Ytnbnalbomflafaa.HB
open Go.RowKit YtnbnalbomflafaaW.PrintWords YtnbnalbomflafaaW.PrintLast YtnbnalbomflafaaW.PrintMore
open GA GB KA
attribute [local go_sem] max2_int min2_int max_two min_two max_three min_three max_four min_four
def errW : Option Int → Value
 | none => .nilIface
 | some c => .iface 0 (.int .i64 c)
theorem errW_none : errW none = .nilIface := rfl
theorem errW_some (c : Int) : errW (some c) = .iface 0 (.int .i64 c) := rfl
theorem info3 : (Try.prog.info? 3).map (fun i => (i.zero, i.size, i.bytes)) = some (some (.int .i64 0), 1, 8) := by kernel_rfl
def rd_L1 (xs : List (List Int)) (i : Int) : (List Int) := xs.getD i.toNat ([] : List Int)
theorem at_L1 {w : World} {A : Option Addr} {n : Nat} {xs : List (List Int)} (h : Kd.C (Kd.slice 3 (Kd.int .i64)) w A n xs) (i : Int) (h0 : 0 ≤ i) (h1 : i < n) : ∃ ad A0 c0, A = some ad ∧ w.cell? (ad.add i.toNat) = some (.slice A0 (rd_L1 xs i).length c0) ∧ (rd_L1 xs i).length ≤ c0 ∧ (Kd.int .i64).C w A0 (rd_L1 xs i).length (rd_L1 xs i) := by
 obtain ⟨ad, c, e, _, hK, hc0⟩ := Kd.C_get h ([] : List Int) i h0 h1
 have hc : ∀ j u, c[j]? = some u → w.cell? (ad.add (i.toNat * 1 + j)) = some u := hc0
 obtain ⟨A0, c0, rfl, l0, g0⟩ := hK
 exact ⟨ad, A0, c0, e, by have hq := hc 0 _ rfl; rwa [Nat.mul_one, Nat.add_zero] at hq, l0, g0⟩
end Go.Proofs.Ytnbnalbomflafaa.HB
namespace Go.Proofs.Ytnbnalbomflafaa.HB
open Go.RowKit YtnbnalbomflafaaW.PrintWords YtnbnalbomflafaaW.PrintLast YtnbnalbomflafaaW.PrintMore
open GA GB KA
attribute [local go_sem] max2_int min2_int max_two min_two max_three min_three max_four min_four
mutual
def impl_Graph_lengths.l0 : Nat → List Int → List Int → List (List Int) → Option (List Int)
 | 0, _, _, _ => none
 | k + 1, x5, x6, x176000 => if (x6.length : Int) > 0 then (if 0 < (x6.length : Int) then (if 0 ≤ (rd x6 0) then (if (rd x6 0) < (x176000.length : Int) then (impl_Graph_lengths.l1 k x5 x6 (rd_L1 x176000 (rd x6 0)) ((rd_L1 x176000 (rd x6 0)).length : Int) 0 x176000) else (none)) else (none)) else (none)) else (some x5)
def impl_Graph_lengths.l1 : Nat → List Int → List Int → List Int → Int → Int → List (List Int) → Option (List Int)
 | 0, _, _, _, _, _, _ => none
 | k + 1, x5, x6, x30, x31, x32, x176000 => if x32 < x31 then (if 0 ≤ x32 then (if x32 < (x30.length : Int) then (if 0 ≤ (rd x30 x32) then (if (rd x30 x32) < (x5.length : Int) then (if (rd x5 (rd x30 x32)) < 0 then (if 0 < (x6.length : Int) then (if 0 ≤ (rd x6 0) then (if (rd x6 0) < (x5.length : Int) then (if x6.length < 17592186044416 then (impl_Graph_lengths.l1 k (x5.set ((rd x30 x32) : Int).toNat (wrap64 ((rd x5 (rd x6 0)) + 1))) (x6 ++ [rd x30 x32]) x30 x31 (wrap64 (x32 + 1)) x176000) else (none)) else (none)) else (none)) else (none)) else (impl_Graph_lengths.l1 k x5 x6 x30 x31 (wrap64 (x32 + 1)) x176000)) else (none)) else (none)) else (none)) else (none)) else (if 1 ≤ (x6.length : Int) then (impl_Graph_lengths.l0 k x5 (x6.drop (1 : Int).toNat) x176000) else (none))
end
def impl_Graph_lengths.f (k : Nat) (l0_0 : List (List Int)) (a1 : Int) : Option (List Int) := (slices_Repeat_int_int.f (([(-1)] : List Int)) (l0_0.length : Int)).bind fun t179 => (if 0 ≤ a1 then (if a1 < (t179.length : Int) then (impl_Graph_lengths.l0 k (t179.set (a1 : Int).toNat 0) (([a1] : List Int)) l0_0) else (none)) else (none))
set_option maxHeartbeats 8000000 in
set_option maxRecDepth 100000 in
theorem impl_Graph_lengths.calls (k : Nat) (A0_0 : Option Addr) (c0_0 : Nat) (l0_0 : List (List Int)) (a1 : Int) (r : List Int) (w : World) (hr0_0 : Kd.C (Kd.slice 3 (Kd.int .i64)) w A0_0 l0_0.length l0_0) (hc0_0 : l0_0.length ≤ c0_0) (h : impl_Graph_lengths.f k l0_0 a1 = some r) :
  Calls Try.prog 112 #[.agg #[.slice A0_0 l0_0.length c0_0], .int .i64 a1] w fun e w' => ∃ v0_ : Value, e = .returned (v0_) ∧ Kd.R (Kd.int .i64) 3 w' w.heap.size (fun _ => True) v0_ r ∧ Below w.heap.size w w' := by
 have hu30 := Try.underlying30
 have HR0_0 := Aside0.mk hr0_0
 have HC0_0 := Aside0.mk hc0_0
 clear hr0_0 hc0_0
 have HB := Aside0.mk (Below.refl w.heap.size w)
 have H : ((slices_Repeat_int_int.f (([(-1)] : List Int)) (l0_0.length : Int)).bind fun t179 => (if 0 ≤ a1 then (if a1 < (t179.length : Int) then (impl_Graph_lengths.l0 k (t179.set (a1 : Int).toNat 0) (([a1] : List Int)) l0_0) else (none)) else (none))) = some r := h
 clear h
 obtain ⟨y176, hy176⟩ : ∃ y_ : List Int, y_ = (([(-1)] : List Int)) := ⟨_, rfl⟩
 replace H : ((slices_Repeat_int_int.f y176 (l0_0.length : Int)).bind fun t179 => (if 0 ≤ a1 then (if a1 < (t179.length : Int) then (impl_Graph_lengths.l0 k (t179.set (a1 : Int).toNat 0) (([a1] : List Int)) l0_0) else (none)) else (none))) = some r := by first | (rw [hy176]; with_reducible exact H) | (have H2_ := (Option.bind_some _ _).symm.trans H; rw [hy176]; with_reducible exact H2_) | (have H2_ := (Option.bind_some _ _).symm.trans H; with_reducible exact H2_) | with_reducible exact H | (rw [hy176]; exact H) | exact H
 have Ny176 := Aside0.mk hy176
 clear hy176
 replace H := Option.bind_eq_some_iff.mp H
 obtain ⟨t179, A30, H⟩ := H
 replace H : (if 0 ≤ a1 then (if a1 < (t179.length : Int) then (impl_Graph_lengths.l0 k (t179.set (a1 : Int).toNat 0) (([a1] : List Int)) l0_0) else (none)) else (none)) = some r := H
 have A3 := Aside0.mk A30
 clear A30
 by_cases c4 : 0 ≤ a1
 ·rw [if_pos c4] at H
  have c4b0 : decide (0 ≤ a1) = true := decide_eq_true c4
  clear c4
  by_cases c5 : a1 < (t179.length : Int)
  ·rw [if_pos c5] at H
   have c5b0 : decide (a1 < (t179.length : Int)) = true := decide_eq_true c5
   clear c5
   obtain ⟨y182, hy182⟩ : ∃ y_ : List Int, y_ = (t179.set (a1 : Int).toNat 0) := ⟨_, rfl⟩
   replace H : (impl_Graph_lengths.l0 k y182 (([a1] : List Int)) l0_0) = some r := by first | (rw [hy182]; with_reducible exact H) | (have H2_ := (Option.bind_some _ _).symm.trans H; rw [hy182]; with_reducible exact H2_) | (have H2_ := (Option.bind_some _ _).symm.trans H; with_reducible exact H2_) | with_reducible exact H | (rw [hy182]; exact H) | exact H
   have Ny182 := Aside0.mk hy182
   clear hy182
   obtain ⟨y183, hy183⟩ : ∃ y_ : List Int, y_ = (([a1] : List Int)) := ⟨_, rfl⟩
   replace H : (impl_Graph_lengths.l0 k y182 y183 l0_0) = some r := by first | (rw [hy183]; with_reducible exact H) | (have H2_ := (Option.bind_some _ _).symm.trans H; rw [hy183]; with_reducible exact H2_) | (have H2_ := (Option.bind_some _ _).symm.trans H; with_reducible exact H2_) | with_reducible exact H | (rw [hy183]; exact H) | exact H
   have Ny183 := Aside0.mk hy183
   clear hy183
   have H' := Aside0.mk H
   clear H
   go_enter Try.func112, Try.ntmps112
   go_wp2_with (first | ((with_reducible refine gate_dst (N := 2) rfl ?_); refine box_event ?hg (N := 2) ?hd (cs := #[.slice A0_0 l0_0.length c0_0]) (t := 30) ?hr ?_; (case hd => rfl); (case hg => rfl); (case hr => first | (go_simp; done) | (go_simp; rfl)); intro gb175 hg w7 hbox hb; have n0_ := Aside0.mk (bP_ (by repeat (first | (with_reducible first | exact HB.out | apply bA_ | apply bN_ | apply bD_) | exact HB.out)) hb); have n1_ := Aside0.mk (hbox); have n2_ := Aside0.mk ((by rw [hg]; exact (bZ_ (by repeat (first | (with_reducible first | exact HB.out | apply bA_ | apply bN_ | apply bD_) | exact HB.out))) : w.heap.size ≤ gb175)); have n3_ := Aside0.mk ((by rw [hg]; exact (bZ_ (by repeat (first | (with_reducible first | exact HB.out | apply bA_ | apply bN_ | apply bD_) | exact HB.out))) : w.heap.size ≤ gb175)); clear HB; have HB := n0_; have BK175 := n1_; have GW175 := n2_; have GE175 := n3_; clear n0_ n1_ n2_ n3_; clear hb hbox hg) | ((with_reducible refine gate_dst (N := 9) rfl ?_); refine Kd.R_lit (Kd.int .i64) _ 3 ?hg (N := 9) ?hd (xs := ([(-1)] : List Int)) (inner := [.int .i64 (-1)]) (ok := fun _ => True) (okp := fun _ => True) ?hr ?hp (fun _ hk => hk) trivial (Below.refl _ _) (Nat.le_refl _) (by simp) ?_; (case hd => rfl); (case hg => rfl); (case hr => first | (go_simp; done) | (go_simp; rfl)); (case hp => exact (Reps.one (show Kd.M (Kd.int .i64) _ _ _ (-1) [.int .i64 (-1)] from rfl) (Reps.none _ _))); intro v177 w8 ho9 hb hg_ hnew_; clear hg_ hnew_; (first | rw [← Ny176.out] at ho9 | (simp only [Int.reduceToNat] at ho9; rw [← Ny176.out] at ho9)); have n0_ := Aside0.mk (Kd.R_lower ho9 (bZ_ (by repeat (first | (with_reducible first | exact HB.out | apply bA_ | apply bN_ | apply bD_ | refine bS_ ?_ GE175.out) | exact HB.out)))); have n1_ := Aside0.mk (blk_below (g := gb175) (o := .cells #[.slice A0_0 l0_0.length c0_0] 30 (0, 0)) (by (with_reducible repeat (first | refine kN_ ?_ _ | refine kD_ ?_ | refine kA_ ?_ _)); exact BK175.out) hb); have n2_ := Aside0.mk (bP_ (by repeat (first | (with_reducible first | exact HB.out | apply bA_ | apply bN_ | apply bD_ | refine bS_ ?_ GE175.out) | exact HB.out)) hb); clear BK175; clear HB; have HO178 := n0_; have BK175 := n1_; have HB := n2_; clear n0_ n1_ n2_; clear hb ho9; have hcz10_0 : w8.cell? ⟨gb175, 0, none⟩ = some (.slice A0_0 l0_0.length c0_0) := (blk_cell BK175.out 0).trans rfl; have hfz10_0 := kF_ BK175.out 0; obtain ⟨Ao11, co11, eo11⟩ := Kd.R_slice HO178.out; subst eo11) | (go_at_call 128; (with_reducible refine (slices_Repeat_int_int.calls _ _ y176 (l0_0.length : Int) t179 _ ?side1 ?side2 A3.out).mono ?_); (case side1 => repeat (first | exact (Kd.R_reads' HO178.out).2.2 | (with_reducible refine Kd.C_alloc ?_ _) | (with_reducible refine Kd.C_drewN ?_ _) | (with_reducible refine Kd.C_drew ?_))); (case side2 => exact (Kd.R_reads' HO178.out).2.1); rintro e w12 ⟨v180, rfl, ho0, hb⟩; have n0_ := Aside0.mk (Kd.R_elder' (by (with_reducible repeat (first | apply Kd.R_alloc | apply Kd.R_drewN | apply Kd.R_drew)); exact HO178.out) (Kd.R_base ho0) hb); have n1_ := Aside0.mk (Kd.R_lower (Kd.R_new' ho0 (Kd.R_lt (by (with_reducible repeat (first | apply Kd.R_alloc | apply Kd.R_drewN | apply Kd.R_drew)); exact HO178.out))) (bZ_ (by repeat (first | (with_reducible first | exact HB.out | apply bA_ | apply bN_ | apply bD_ | refine bS_ ?_ GE175.out) | exact HB.out)))); have n2_ := Aside0.mk (blk_below (g := gb175) (o := .cells #[.slice A0_0 l0_0.length c0_0] 30 (0, 0)) (by (with_reducible repeat (first | refine kN_ ?_ _ | refine kD_ ?_ | refine kA_ ?_ _)); exact BK175.out) hb); have n3_ := Aside0.mk (bP_ (by repeat (first | (with_reducible first | exact HB.out | apply bA_ | apply bN_ | apply bD_ | refine bS_ ?_ GE175.out) | exact HB.out)) hb); clear HO178; clear BK175; clear HB; have HO178 := n0_; have HO181 := n1_; have BK175 := n2_; have HB := n3_; clear n0_ n1_ n2_ n3_; (try clear hb); (try clear hb2); (try clear hk); (try clear hi); (try clear ho0); have p6 : 0 ≤ (a1 : Int) := of_decide_eq_true (by first | (with_reducible assumption) | assumption); have q6 : (a1 : Int) < ((t179.length : Int) : Int) := of_decide_eq_true (by first | (with_reducible assumption) | assumption); obtain ⟨go6, co6, eo6, gb6, gl6, cl6, HG6⟩ := Kd.R_form HO181.out (by omega); (first | cases eo6 | (injection eo6 with ea_ en_ ec_; (first | subst ea_ | (injection ea_ with ea_; subst ea_)); subst ec_; clear en_)); have GB6 := Aside0.mk gb6; have GG6 := Aside0.mk HG6; clear gb6 gl6 HG6; obtain ⟨hx6_0, hf6_0⟩ := Kd.R_celln 0 HO181.out (a1 : Int) p6 q6; replace p6 := eq_true p6; replace q6 := eq_true q6; have n_ := Aside0.mk (Kd.R_mono (ok' := (fun k_ => some k_ ≠ (.slice Ao11 y176.length co11 : Value).ownBlock)) HO181.out (fun k_ hk => hk.2)); clear HO181; have HO181 := n_; clear n_; obtain ⟨hy13_, hz13_⟩ := Kd.R_celln 0 HO181.out (a1 : Int) (of_decide_eq_true (by first | (with_reducible assumption) | assumption)) (of_decide_eq_true (by first | (with_reducible assumption) | assumption)); have HP13 := Kd.R_putg HO181.out (a1 : Int) 0) | ((with_reducible refine gate_store (t := 3) (p := 16) rfl ?_); (try (rw [drewN_self w12]; generalize hq_ : World.drewN w12 _ = w12; have n0_ := Aside0.mk (Kd.R_at hq_ HO178.out); have n1_ := Aside0.mk (Kd.R_at hq_ HO181.out); have n2_ := Aside0.mk (blk_at hq_ BK175.out); have n3_ := Aside0.mk (below_at hq_ HB.out); clear hq_ HO178 HO181 BK175 HB; have HO178 := n0_; have HO181 := n1_; have BK175 := n2_; have HB := n3_; clear n0_ n1_ n2_ n3_; (try (have n_ := Aside0.mk (Kd.R_mono (ok' := (fun k_ => some k_ ≠ (.slice Ao11 y176.length co11 : Value).ownBlock)) HO181.out (fun k_ hk => hk.2)); clear HO181; have HO181 := n_; clear n_)); (try (obtain ⟨hy13_, hz13_⟩ := Kd.R_celln 0 HO181.out (a1 : Int) (of_decide_eq_true (by first | (with_reducible assumption) | assumption)) (of_decide_eq_true (by first | (with_reducible assumption) | assumption)))); (try (have HP13 := Kd.R_putg HO181.out (a1 : Int) 0)))); refine store_event (t := 3) (p := 16) (v := ?vo_w14) (w1 := (w12.setCell ⟨go6, (a1 : Int).toNat, none⟩ (.int .i64 0))) ?hg ?ho ?hn ?hr ?_; (case ho => rfl); (case hg => rfl); (case hn => rfl); (case hr => first | (go_simp; done) | (go_simp; rfl)); intro w14 hw; have hg : w12.grownBy w14 (some go6) := (by rw [hw]; exact HP13.2); have hp_ : Kd.R (Kd.int .i64) 3 w14 w.heap.size (fun k_ => some k_ ≠ (.slice Ao11 y176.length co11 : Value).ownBlock) (.slice (some ⟨go6, 0, none⟩) t179.length co6) y182 := (by rw [hw, Ny182.out]; exact HP13.1); clear HP13; have n0_ := Aside0.mk (blk_grown (g := gb175) (o := .cells #[.slice A0_0 l0_0.length c0_0] 30 (0, 0)) (by (with_reducible repeat (first | refine kN_ ?_ _ | refine kD_ ?_ | refine kA_ ?_ _)); exact BK175.out) hg (Kd.R_ne HO181.out BK175.out (by decide))); have n1_ := Aside0.mk (Kd.R_after (v := (.slice (some ⟨go6, 0, none⟩) t179.length co6)) (v1 := (.slice (some ⟨go6, 0, none⟩) t179.length co6)) (ok := (fun _ => True)) (by (with_reducible repeat (first | apply Kd.R_alloc | apply Kd.R_drewN | apply Kd.R_drew)); exact HO178.out) hg (.inl rfl)); have n2_ := Aside0.mk (hp_); have n3_ := Aside0.mk ((by rw [hw]; exact bS_ (HB.out) GB6.out : Below w.heap.size w w14)); clear BK175; clear HO178; clear HO181; clear HB; have BK175 := n0_; have HO178 := n1_; have HO181 := n2_; have HB := n3_; clear n0_ n1_ n2_ n3_; clear hg hw hp_) | ((with_reducible refine gate_dst (N := 18) rfl ?_); refine Kd.R_lit (Kd.int .i64) _ 3 ?hg (N := 18) ?hd (xs := ([a1] : List Int)) (inner := [.int .i64 a1]) (ok := fun _ => True) (okp := fun _ => True) ?hr ?hp (fun _ hk => hk) trivial (Below.refl _ _) (Nat.le_refl _) (by simp) ?_; (case hd => rfl); (case hg => rfl); (case hr => first | (go_simp; done) | (go_simp; rfl)); (case hp => exact (Reps.one (show Kd.M (Kd.int .i64) _ _ _ a1 [.int .i64 a1] from rfl) (Reps.none _ _))); intro v184 w15 ho16 hb hg_ hnew_; clear hg_ hnew_; (first | rw [← Ny183.out] at ho16 | (simp only [Int.reduceToNat] at ho16; rw [← Ny183.out] at ho16)); have n0_ := Aside0.mk (Kd.R_elder' (by (with_reducible repeat (first | apply Kd.R_alloc | apply Kd.R_drewN | apply Kd.R_drew)); exact HO178.out) (Kd.R_base ho16) hb); have n1_ := Aside0.mk (Kd.R_elder' (by (with_reducible repeat (first | apply Kd.R_alloc | apply Kd.R_drewN | apply Kd.R_drew)); exact HO181.out) (Kd.R_base ho16) hb); have n2_ := Aside0.mk (Kd.R_lower (Kd.R_new' (Kd.R_new' ho16 (Kd.R_lt (by (with_reducible repeat (first | apply Kd.R_alloc | apply Kd.R_drewN | apply Kd.R_drew)); exact HO178.out))) (Kd.R_lt (by (with_reducible repeat (first | apply Kd.R_alloc | apply Kd.R_drewN | apply Kd.R_drew)); exact HO181.out))) (bZ_ (by repeat (first | (with_reducible first | exact HB.out | apply bA_ | apply bN_ | apply bD_ | refine bS_ ?_ GE175.out) | exact HB.out)))); have n3_ := Aside0.mk (blk_below (g := gb175) (o := .cells #[.slice A0_0 l0_0.length c0_0] 30 (0, 0)) (by (with_reducible repeat (first | refine kN_ ?_ _ | refine kD_ ?_ | refine kA_ ?_ _)); exact BK175.out) hb); have n4_ := Aside0.mk (bP_ (by repeat (first | (with_reducible first | exact HB.out | apply bA_ | apply bN_ | apply bD_ | refine bS_ ?_ GE175.out) | exact HB.out)) hb); clear HO178; clear HO181; clear BK175; clear HB; have HO178 := n0_; have HO181 := n1_; have HO185 := n2_; have BK175 := n3_; have HB := n4_; clear n0_ n1_ n2_ n3_ n4_; clear hb ho16))
   repeat (go_quiet (first | ((with_reducible refine gate_dst (N := 2) rfl ?_); refine box_event ?hg (N := 2) ?hd (cs := #[.slice A0_0 l0_0.length c0_0]) (t := 30) ?hr ?_; (case hd => rfl); (case hg => rfl); (case hr => first | (go_simp; done) | (go_simp; rfl)); intro gb175 hg w7 hbox hb; have n0_ := Aside0.mk (bP_ (by repeat (first | (with_reducible first | exact HB.out | apply bA_ | apply bN_ | apply bD_) | exact HB.out)) hb); have n1_ := Aside0.mk (hbox); have n2_ := Aside0.mk ((by rw [hg]; exact (bZ_ (by repeat (first | (with_reducible first | exact HB.out | apply bA_ | apply bN_ | apply bD_) | exact HB.out))) : w.heap.size ≤ gb175)); have n3_ := Aside0.mk ((by rw [hg]; exact (bZ_ (by repeat (first | (with_reducible first | exact HB.out | apply bA_ | apply bN_ | apply bD_) | exact HB.out))) : w.heap.size ≤ gb175)); clear HB; have HB := n0_; have BK175 := n1_; have GW175 := n2_; have GE175 := n3_; clear n0_ n1_ n2_ n3_; clear hb hbox hg) | ((with_reducible refine gate_dst (N := 9) rfl ?_); refine Kd.R_lit (Kd.int .i64) _ 3 ?hg (N := 9) ?hd (xs := ([(-1)] : List Int)) (inner := [.int .i64 (-1)]) (ok := fun _ => True) (okp := fun _ => True) ?hr ?hp (fun _ hk => hk) trivial (Below.refl _ _) (Nat.le_refl _) (by simp) ?_; (case hd => rfl); (case hg => rfl); (case hr => first | (go_simp; done) | (go_simp; rfl)); (case hp => exact (Reps.one (show Kd.M (Kd.int .i64) _ _ _ (-1) [.int .i64 (-1)] from rfl) (Reps.none _ _))); intro v177 w8 ho9 hb hg_ hnew_; clear hg_ hnew_; (first | rw [← Ny176.out] at ho9 | (simp only [Int.reduceToNat] at ho9; rw [← Ny176.out] at ho9)); have n0_ := Aside0.mk (Kd.R_lower ho9 (bZ_ (by repeat (first | (with_reducible first | exact HB.out | apply bA_ | apply bN_ | apply bD_ | refine bS_ ?_ GE175.out) | exact HB.out)))); have n1_ := Aside0.mk (blk_below (g := gb175) (o := .cells #[.slice A0_0 l0_0.length c0_0] 30 (0, 0)) (by (with_reducible repeat (first | refine kN_ ?_ _ | refine kD_ ?_ | refine kA_ ?_ _)); exact BK175.out) hb); have n2_ := Aside0.mk (bP_ (by repeat (first | (with_reducible first | exact HB.out | apply bA_ | apply bN_ | apply bD_ | refine bS_ ?_ GE175.out) | exact HB.out)) hb); clear BK175; clear HB; have HO178 := n0_; have BK175 := n1_; have HB := n2_; clear n0_ n1_ n2_; clear hb ho9; have hcz10_0 : w8.cell? ⟨gb175, 0, none⟩ = some (.slice A0_0 l0_0.length c0_0) := (blk_cell BK175.out 0).trans rfl; have hfz10_0 := kF_ BK175.out 0; obtain ⟨Ao11, co11, eo11⟩ := Kd.R_slice HO178.out; subst eo11) | (go_at_call 128; (with_reducible refine (slices_Repeat_int_int.calls _ _ y176 (l0_0.length : Int) t179 _ ?side1 ?side2 A3.out).mono ?_); (case side1 => repeat (first | exact (Kd.R_reads' HO178.out).2.2 | (with_reducible refine Kd.C_alloc ?_ _) | (with_reducible refine Kd.C_drewN ?_ _) | (with_reducible refine Kd.C_drew ?_))); (case side2 => exact (Kd.R_reads' HO178.out).2.1); rintro e w12 ⟨v180, rfl, ho0, hb⟩; have n0_ := Aside0.mk (Kd.R_elder' (by (with_reducible repeat (first | apply Kd.R_alloc | apply Kd.R_drewN | apply Kd.R_drew)); exact HO178.out) (Kd.R_base ho0) hb); have n1_ := Aside0.mk (Kd.R_lower (Kd.R_new' ho0 (Kd.R_lt (by (with_reducible repeat (first | apply Kd.R_alloc | apply Kd.R_drewN | apply Kd.R_drew)); exact HO178.out))) (bZ_ (by repeat (first | (with_reducible first | exact HB.out | apply bA_ | apply bN_ | apply bD_ | refine bS_ ?_ GE175.out) | exact HB.out)))); have n2_ := Aside0.mk (blk_below (g := gb175) (o := .cells #[.slice A0_0 l0_0.length c0_0] 30 (0, 0)) (by (with_reducible repeat (first | refine kN_ ?_ _ | refine kD_ ?_ | refine kA_ ?_ _)); exact BK175.out) hb); have n3_ := Aside0.mk (bP_ (by repeat (first | (with_reducible first | exact HB.out | apply bA_ | apply bN_ | apply bD_ | refine bS_ ?_ GE175.out) | exact HB.out)) hb); clear HO178; clear BK175; clear HB; have HO178 := n0_; have HO181 := n1_; have BK175 := n2_; have HB := n3_; clear n0_ n1_ n2_ n3_; (try clear hb); (try clear hb2); (try clear hk); (try clear hi); (try clear ho0); have p6 : 0 ≤ (a1 : Int) := of_decide_eq_true (by first | (with_reducible assumption) | assumption); have q6 : (a1 : Int) < ((t179.length : Int) : Int) := of_decide_eq_true (by first | (with_reducible assumption) | assumption); obtain ⟨go6, co6, eo6, gb6, gl6, cl6, HG6⟩ := Kd.R_form HO181.out (by omega); (first | cases eo6 | (injection eo6 with ea_ en_ ec_; (first | subst ea_ | (injection ea_ with ea_; subst ea_)); subst ec_; clear en_)); have GB6 := Aside0.mk gb6; have GG6 := Aside0.mk HG6; clear gb6 gl6 HG6; obtain ⟨hx6_0, hf6_0⟩ := Kd.R_celln 0 HO181.out (a1 : Int) p6 q6; replace p6 := eq_true p6; replace q6 := eq_true q6; have n_ := Aside0.mk (Kd.R_mono (ok' := (fun k_ => some k_ ≠ (.slice Ao11 y176.length co11 : Value).ownBlock)) HO181.out (fun k_ hk => hk.2)); clear HO181; have HO181 := n_; clear n_; obtain ⟨hy13_, hz13_⟩ := Kd.R_celln 0 HO181.out (a1 : Int) (of_decide_eq_true (by first | (with_reducible assumption) | assumption)) (of_decide_eq_true (by first | (with_reducible assumption) | assumption)); have HP13 := Kd.R_putg HO181.out (a1 : Int) 0) | ((with_reducible refine gate_store (t := 3) (p := 16) rfl ?_); (try (rw [drewN_self w12]; generalize hq_ : World.drewN w12 _ = w12; have n0_ := Aside0.mk (Kd.R_at hq_ HO178.out); have n1_ := Aside0.mk (Kd.R_at hq_ HO181.out); have n2_ := Aside0.mk (blk_at hq_ BK175.out); have n3_ := Aside0.mk (below_at hq_ HB.out); clear hq_ HO178 HO181 BK175 HB; have HO178 := n0_; have HO181 := n1_; have BK175 := n2_; have HB := n3_; clear n0_ n1_ n2_ n3_; (try (have n_ := Aside0.mk (Kd.R_mono (ok' := (fun k_ => some k_ ≠ (.slice Ao11 y176.length co11 : Value).ownBlock)) HO181.out (fun k_ hk => hk.2)); clear HO181; have HO181 := n_; clear n_)); (try (obtain ⟨hy13_, hz13_⟩ := Kd.R_celln 0 HO181.out (a1 : Int) (of_decide_eq_true (by first | (with_reducible assumption) | assumption)) (of_decide_eq_true (by first | (with_reducible assumption) | assumption)))); (try (have HP13 := Kd.R_putg HO181.out (a1 : Int) 0)))); refine store_event (t := 3) (p := 16) (v := ?vo_w14) (w1 := (w12.setCell ⟨go6, (a1 : Int).toNat, none⟩ (.int .i64 0))) ?hg ?ho ?hn ?hr ?_; (case ho => rfl); (case hg => rfl); (case hn => rfl); (case hr => first | (go_simp; done) | (go_simp; rfl)); intro w14 hw; have hg : w12.grownBy w14 (some go6) := (by rw [hw]; exact HP13.2); have hp_ : Kd.R (Kd.int .i64) 3 w14 w.heap.size (fun k_ => some k_ ≠ (.slice Ao11 y176.length co11 : Value).ownBlock) (.slice (some ⟨go6, 0, none⟩) t179.length co6) y182 := (by rw [hw, Ny182.out]; exact HP13.1); clear HP13; have n0_ := Aside0.mk (blk_grown (g := gb175) (o := .cells #[.slice A0_0 l0_0.length c0_0] 30 (0, 0)) (by (with_reducible repeat (first | refine kN_ ?_ _ | refine kD_ ?_ | refine kA_ ?_ _)); exact BK175.out) hg (Kd.R_ne HO181.out BK175.out (by decide))); have n1_ := Aside0.mk (Kd.R_after (v := (.slice (some ⟨go6, 0, none⟩) t179.length co6)) (v1 := (.slice (some ⟨go6, 0, none⟩) t179.length co6)) (ok := (fun _ => True)) (by (with_reducible repeat (first | apply Kd.R_alloc | apply Kd.R_drewN | apply Kd.R_drew)); exact HO178.out) hg (.inl rfl)); have n2_ := Aside0.mk (hp_); have n3_ := Aside0.mk ((by rw [hw]; exact bS_ (HB.out) GB6.out : Below w.heap.size w w14)); clear BK175; clear HO178; clear HO181; clear HB; have BK175 := n0_; have HO178 := n1_; have HO181 := n2_; have HB := n3_; clear n0_ n1_ n2_ n3_; clear hg hw hp_) | ((with_reducible refine gate_dst (N := 18) rfl ?_); refine Kd.R_lit (Kd.int .i64) _ 3 ?hg (N := 18) ?hd (xs := ([a1] : List Int)) (inner := [.int .i64 a1]) (ok := fun _ => True) (okp := fun _ => True) ?hr ?hp (fun _ hk => hk) trivial (Below.refl _ _) (Nat.le_refl _) (by simp) ?_; (case hd => rfl); (case hg => rfl); (case hr => first | (go_simp; done) | (go_simp; rfl)); (case hp => exact (Reps.one (show Kd.M (Kd.int .i64) _ _ _ a1 [.int .i64 a1] from rfl) (Reps.none _ _))); intro v184 w15 ho16 hb hg_ hnew_; clear hg_ hnew_; (first | rw [← Ny183.out] at ho16 | (simp only [Int.reduceToNat] at ho16; rw [← Ny183.out] at ho16)); have n0_ := Aside0.mk (Kd.R_elder' (by (with_reducible repeat (first | apply Kd.R_alloc | apply Kd.R_drewN | apply Kd.R_drew)); exact HO178.out) (Kd.R_base ho16) hb); have n1_ := Aside0.mk (Kd.R_elder' (by (with_reducible repeat (first | apply Kd.R_alloc | apply Kd.R_drewN | apply Kd.R_drew)); exact HO181.out) (Kd.R_base ho16) hb); have n2_ := Aside0.mk (Kd.R_lower (Kd.R_new' (Kd.R_new' ho16 (Kd.R_lt (by (with_reducible repeat (first | apply Kd.R_alloc | apply Kd.R_drewN | apply Kd.R_drew)); exact HO178.out))) (Kd.R_lt (by (with_reducible repeat (first | apply Kd.R_alloc | apply Kd.R_drewN | apply Kd.R_drew)); exact HO181.out))) (bZ_ (by repeat (first | (with_reducible first | exact HB.out | apply bA_ | apply bN_ | apply bD_ | refine bS_ ?_ GE175.out) | exact HB.out)))); have n3_ := Aside0.mk (blk_below (g := gb175) (o := .cells #[.slice A0_0 l0_0.length c0_0] 30 (0, 0)) (by (with_reducible repeat (first | refine kN_ ?_ _ | refine kD_ ?_ | refine kA_ ?_ _)); exact BK175.out) hb); have n4_ := Aside0.mk (bP_ (by repeat (first | (with_reducible first | exact HB.out | apply bA_ | apply bN_ | apply bD_ | refine bS_ ?_ GE175.out) | exact HB.out)) hb); clear HO178; clear HO181; clear BK175; clear HB; have HO178 := n0_; have HO181 := n1_; have HO185 := n2_; have BK175 := n3_; have HB := n4_; clear n0_ n1_ n2_ n3_ n4_; clear hb ho16)); try go_wp2_with (first | ((with_reducible refine gate_dst (N := 2) rfl ?_); refine box_event ?hg (N := 2) ?hd (cs := #[.slice A0_0 l0_0.length c0_0]) (t := 30) ?hr ?_; (case hd => rfl); (case hg => rfl); (case hr => first | (go_simp; done) | (go_simp; rfl)); intro gb175 hg w7 hbox hb; have n0_ := Aside0.mk (bP_ (by repeat (first | (with_reducible first | exact HB.out | apply bA_ | apply bN_ | apply bD_) | exact HB.out)) hb); have n1_ := Aside0.mk (hbox); have n2_ := Aside0.mk ((by rw [hg]; exact (bZ_ (by repeat (first | (with_reducible first | exact HB.out | apply bA_ | apply bN_ | apply bD_) | exact HB.out))) : w.heap.size ≤ gb175)); have n3_ := Aside0.mk ((by rw [hg]; exact (bZ_ (by repeat (first | (with_reducible first | exact HB.out | apply bA_ | apply bN_ | apply bD_) | exact HB.out))) : w.heap.size ≤ gb175)); clear HB; have HB := n0_; have BK175 := n1_; have GW175 := n2_; have GE175 := n3_; clear n0_ n1_ n2_ n3_; clear hb hbox hg) | ((with_reducible refine gate_dst (N := 9) rfl ?_); refine Kd.R_lit (Kd.int .i64) _ 3 ?hg (N := 9) ?hd (xs := ([(-1)] : List Int)) (inner := [.int .i64 (-1)]) (ok := fun _ => True) (okp := fun _ => True) ?hr ?hp (fun _ hk => hk) trivial (Below.refl _ _) (Nat.le_refl _) (by simp) ?_; (case hd => rfl); (case hg => rfl); (case hr => first | (go_simp; done) | (go_simp; rfl)); (case hp => exact (Reps.one (show Kd.M (Kd.int .i64) _ _ _ (-1) [.int .i64 (-1)] from rfl) (Reps.none _ _))); intro v177 w8 ho9 hb hg_ hnew_; clear hg_ hnew_; (first | rw [← Ny176.out] at ho9 | (simp only [Int.reduceToNat] at ho9; rw [← Ny176.out] at ho9)); have n0_ := Aside0.mk (Kd.R_lower ho9 (bZ_ (by repeat (first | (with_reducible first | exact HB.out | apply bA_ | apply bN_ | apply bD_ | refine bS_ ?_ GE175.out) | exact HB.out)))); have n1_ := Aside0.mk (blk_below (g := gb175) (o := .cells #[.slice A0_0 l0_0.length c0_0] 30 (0, 0)) (by (with_reducible repeat (first | refine kN_ ?_ _ | refine kD_ ?_ | refine kA_ ?_ _)); exact BK175.out) hb); have n2_ := Aside0.mk (bP_ (by repeat (first | (with_reducible first | exact HB.out | apply bA_ | apply bN_ | apply bD_ | refine bS_ ?_ GE175.out) | exact HB.out)) hb); clear BK175; clear HB; have HO178 := n0_; have BK175 := n1_; have HB := n2_; clear n0_ n1_ n2_; clear hb ho9; have hcz10_0 : w8.cell? ⟨gb175, 0, none⟩ = some (.slice A0_0 l0_0.length c0_0) := (blk_cell BK175.out 0).trans rfl; have hfz10_0 := kF_ BK175.out 0; obtain ⟨Ao11, co11, eo11⟩ := Kd.R_slice HO178.out; subst eo11) | (go_at_call 128; (with_reducible refine (slices_Repeat_int_int.calls _ _ y176 (l0_0.length : Int) t179 _ ?side1 ?side2 A3.out).mono ?_); (case side1 => repeat (first | exact (Kd.R_reads' HO178.out).2.2 | (with_reducible refine Kd.C_alloc ?_ _) | (with_reducible refine Kd.C_drewN ?_ _) | (with_reducible refine Kd.C_drew ?_))); (case side2 => exact (Kd.R_reads' HO178.out).2.1); rintro e w12 ⟨v180, rfl, ho0, hb⟩; have n0_ := Aside0.mk (Kd.R_elder' (by (with_reducible repeat (first | apply Kd.R_alloc | apply Kd.R_drewN | apply Kd.R_drew)); exact HO178.out) (Kd.R_base ho0) hb); have n1_ := Aside0.mk (Kd.R_lower (Kd.R_new' ho0 (Kd.R_lt (by (with_reducible repeat (first | apply Kd.R_alloc | apply Kd.R_drewN | apply Kd.R_drew)); exact HO178.out))) (bZ_ (by repeat (first | (with_reducible first | exact HB.out | apply bA_ | apply bN_ | apply bD_ | refine bS_ ?_ GE175.out) | exact HB.out)))); have n2_ := Aside0.mk (blk_below (g := gb175) (o := .cells #[.slice A0_0 l0_0.length c0_0] 30 (0, 0)) (by (with_reducible repeat (first | refine kN_ ?_ _ | refine kD_ ?_ | refine kA_ ?_ _)); exact BK175.out) hb); have n3_ := Aside0.mk (bP_ (by repeat (first | (with_reducible first | exact HB.out | apply bA_ | apply bN_ | apply bD_ | refine bS_ ?_ GE175.out) | exact HB.out)) hb); clear HO178; clear BK175; clear HB; have HO178 := n0_; have HO181 := n1_; have BK175 := n2_; have HB := n3_; clear n0_ n1_ n2_ n3_; (try clear hb); (try clear hb2); (try clear hk); (try clear hi); (try clear ho0); have p6 : 0 ≤ (a1 : Int) := of_decide_eq_true (by first | (with_reducible assumption) | assumption); have q6 : (a1 : Int) < ((t179.length : Int) : Int) := of_decide_eq_true (by first | (with_reducible assumption) | assumption); obtain ⟨go6, co6, eo6, gb6, gl6, cl6, HG6⟩ := Kd.R_form HO181.out (by omega); (first | cases eo6 | (injection eo6 with ea_ en_ ec_; (first | subst ea_ | (injection ea_ with ea_; subst ea_)); subst ec_; clear en_)); have GB6 := Aside0.mk gb6; have GG6 := Aside0.mk HG6; clear gb6 gl6 HG6; obtain ⟨hx6_0, hf6_0⟩ := Kd.R_celln 0 HO181.out (a1 : Int) p6 q6; replace p6 := eq_true p6; replace q6 := eq_true q6; have n_ := Aside0.mk (Kd.R_mono (ok' := (fun k_ => some k_ ≠ (.slice Ao11 y176.length co11 : Value).ownBlock)) HO181.out (fun k_ hk => hk.2)); clear HO181; have HO181 := n_; clear n_; obtain ⟨hy13_, hz13_⟩ := Kd.R_celln 0 HO181.out (a1 : Int) (of_decide_eq_true (by first | (with_reducible assumption) | assumption)) (of_decide_eq_true (by first | (with_reducible assumption) | assumption)); have HP13 := Kd.R_putg HO181.out (a1 : Int) 0) | ((with_reducible refine gate_store (t := 3) (p := 16) rfl ?_); (try (rw [drewN_self w12]; generalize hq_ : World.drewN w12 _ = w12; have n0_ := Aside0.mk (Kd.R_at hq_ HO178.out); have n1_ := Aside0.mk (Kd.R_at hq_ HO181.out); have n2_ := Aside0.mk (blk_at hq_ BK175.out); have n3_ := Aside0.mk (below_at hq_ HB.out); clear hq_ HO178 HO181 BK175 HB; have HO178 := n0_; have HO181 := n1_; have BK175 := n2_; have HB := n3_; clear n0_ n1_ n2_ n3_; (try (have n_ := Aside0.mk (Kd.R_mono (ok' := (fun k_ => some k_ ≠ (.slice Ao11 y176.length co11 : Value).ownBlock)) HO181.out (fun k_ hk => hk.2)); clear HO181; have HO181 := n_; clear n_)); (try (obtain ⟨hy13_, hz13_⟩ := Kd.R_celln 0 HO181.out (a1 : Int) (of_decide_eq_true (by first | (with_reducible assumption) | assumption)) (of_decide_eq_true (by first | (with_reducible assumption) | assumption)))); (try (have HP13 := Kd.R_putg HO181.out (a1 : Int) 0)))); refine store_event (t := 3) (p := 16) (v := ?vo_w14) (w1 := (w12.setCell ⟨go6, (a1 : Int).toNat, none⟩ (.int .i64 0))) ?hg ?ho ?hn ?hr ?_; (case ho => rfl); (case hg => rfl); (case hn => rfl); (case hr => first | (go_simp; done) | (go_simp; rfl)); intro w14 hw; have hg : w12.grownBy w14 (some go6) := (by rw [hw]; exact HP13.2); have hp_ : Kd.R (Kd.int .i64) 3 w14 w.heap.size (fun k_ => some k_ ≠ (.slice Ao11 y176.length co11 : Value).ownBlock) (.slice (some ⟨go6, 0, none⟩) t179.length co6) y182 := (by rw [hw, Ny182.out]; exact HP13.1); clear HP13; have n0_ := Aside0.mk (blk_grown (g := gb175) (o := .cells #[.slice A0_0 l0_0.length c0_0] 30 (0, 0)) (by (with_reducible repeat (first | refine kN_ ?_ _ | refine kD_ ?_ | refine kA_ ?_ _)); exact BK175.out) hg (Kd.R_ne HO181.out BK175.out (by decide))); have n1_ := Aside0.mk (Kd.R_after (v := (.slice (some ⟨go6, 0, none⟩) t179.length co6)) (v1 := (.slice (some ⟨go6, 0, none⟩) t179.length co6)) (ok := (fun _ => True)) (by (with_reducible repeat (first | apply Kd.R_alloc | apply Kd.R_drewN | apply Kd.R_drew)); exact HO178.out) hg (.inl rfl)); have n2_ := Aside0.mk (hp_); have n3_ := Aside0.mk ((by rw [hw]; exact bS_ (HB.out) GB6.out : Below w.heap.size w w14)); clear BK175; clear HO178; clear HO181; clear HB; have BK175 := n0_; have HO178 := n1_; have HO181 := n2_; have HB := n3_; clear n0_ n1_ n2_ n3_; clear hg hw hp_) | ((with_reducible refine gate_dst (N := 18) rfl ?_); refine Kd.R_lit (Kd.int .i64) _ 3 ?hg (N := 18) ?hd (xs := ([a1] : List Int)) (inner := [.int .i64 a1]) (ok := fun _ => True) (okp := fun _ => True) ?hr ?hp (fun _ hk => hk) trivial (Below.refl _ _) (Nat.le_refl _) (by simp) ?_; (case hd => rfl); (case hg => rfl); (case hr => first | (go_simp; done) | (go_simp; rfl)); (case hp => exact (Reps.one (show Kd.M (Kd.int .i64) _ _ _ a1 [.int .i64 a1] from rfl) (Reps.none _ _))); intro v184 w15 ho16 hb hg_ hnew_; clear hg_ hnew_; (first | rw [← Ny183.out] at ho16 | (simp only [Int.reduceToNat] at ho16; rw [← Ny183.out] at ho16)); have n0_ := Aside0.mk (Kd.R_elder' (by (with_reducible repeat (first | apply Kd.R_alloc | apply Kd.R_drewN | apply Kd.R_drew)); exact HO178.out) (Kd.R_base ho16) hb); have n1_ := Aside0.mk (Kd.R_elder' (by (with_reducible repeat (first | apply Kd.R_alloc | apply Kd.R_drewN | apply Kd.R_drew)); exact HO181.out) (Kd.R_base ho16) hb); have n2_ := Aside0.mk (Kd.R_lower (Kd.R_new' (Kd.R_new' ho16 (Kd.R_lt (by (with_reducible repeat (first | apply Kd.R_alloc | apply Kd.R_drewN | apply Kd.R_drew)); exact HO178.out))) (Kd.R_lt (by (with_reducible repeat (first | apply Kd.R_alloc | apply Kd.R_drewN | apply Kd.R_drew)); exact HO181.out))) (bZ_ (by repeat (first | (with_reducible first | exact HB.out | apply bA_ | apply bN_ | apply bD_ | refine bS_ ?_ GE175.out) | exact HB.out)))); have n3_ := Aside0.mk (blk_below (g := gb175) (o := .cells #[.slice A0_0 l0_0.length c0_0] 30 (0, 0)) (by (with_reducible repeat (first | refine kN_ ?_ _ | refine kD_ ?_ | refine kA_ ?_ _)); exact BK175.out) hb); have n4_ := Aside0.mk (bP_ (by repeat (first | (with_reducible first | exact HB.out | apply bA_ | apply bN_ | apply bD_ | refine bS_ ?_ GE175.out) | exact HB.out)) hb); clear HO178; clear HO181; clear BK175; clear HB; have HO178 := n0_; have HO181 := n1_; have HO185 := n2_; have BK175 := n3_; have HB := n4_; clear n0_ n1_ n2_ n3_ n4_; clear hb ho16)))
   go_loopg [6] k (fun kq v6 w' => ∃ (x5_1 : List Int) (x6_1 : List Int), Aside0 (impl_Graph_lengths.l0 kq x5_1 x6_1 l0_0 = some r) ∧ Aside0 (kq ≤ k) ∧ Aside0 (Kd.R (Kd.int .i64) 3 w' w.heap.size (fun k_ => some k_ ≠ (v6 : Value).ownBlock) (.slice (some ⟨go6, 0, none⟩) t179.length co6) x5_1) ∧ Aside0 (Kd.Q (Kd.int .i64) 3 w' w.heap.size (fun k_ => some k_ ≠ ((.slice (some ⟨go6, 0, none⟩) t179.length co6) : Value).ownBlock) v6 x6_1) ∧ Aside0 (w'.heap[gb175]? = some (.cells #[(.slice A0_0 l0_0.length c0_0)] 30 (0, 0))) ∧ Aside0 (Below w.heap.size w w'))
   case atStart => exact ⟨(y182), (y183), H', ⟨Nat.le_refl _⟩, ⟨by (with_reducible repeat (first | apply Kd.R_alloc | apply Kd.R_drewN | apply Kd.R_drew)); exact Kd.R_mono HO181.out (fun _ hk => hk.2)⟩, ⟨Kd.Q_of_R (by (with_reducible repeat (first | apply Kd.R_alloc | apply Kd.R_drewN | apply Kd.R_drew)); exact Kd.R_mono HO185.out (fun _ hk => hk.2))⟩, ⟨by (with_reducible repeat (first | refine kN_ ?_ _ | refine kD_ ?_ | refine kA_ ?_ _)); exact BK175.out⟩, ⟨by repeat (first | (with_reducible first | exact HB.out | apply bA_ | apply bN_ | apply bD_ | refine bS_ ?_ GE175.out) | exact HB.out)⟩⟩
   case round =>
    clear H'
    try clear c1
    try clear p2
    try clear c4
    try clear c4b0
    try clear c5
    try clear c5b0
    try clear p6
    try clear q6
    try clear hx6
    try clear hf6
    try clear c11
    try clear hcz10_0
    try clear hfz10_0
    try clear hx6_0
    try clear p6
    try clear q6
    obtain ⟨x5_1, x6_1, HA, HK1, HO_5, HO_6, BK175, HB⟩ := hrel
    have hl5_1 := (Kd.R_reads' HO_5.out).1
    rw [hl5_1] at HO_5
    (try simp only [hl5_1])
    (try simp only [hl5_1] at BK175)
    (try simp only [hl5_1] at HO_6)
    cases gk with
    | zero => exact absurd HA.out (by simp [impl_Graph_lengths.l0])
    | succ k1 =>
     have H := HA.out
     clear HA
     simp only [impl_Graph_lengths.l0] at H
     by_cases c17 : (x6_1.length : Int) > 0
     ·rw [if_pos c17] at H
      have c17b0 : decide (0 < (x6_1.length : Int)) = true := decide_eq_true c17
      have c17b1 : decide (0 < x6_1.length) = true := decide_eq_true (by omega)
      clear c17
      by_cases c18 : 0 < (x6_1.length : Int)
      ·rw [if_pos c18] at H
       have c18b0 : decide (0 < (x6_1.length : Int)) = true := decide_eq_true c18
       have c18b1 : decide (0 < x6_1.length) = true := decide_eq_true (by omega)
       clear c18
       by_cases c19 : 0 ≤ (rd x6_1 0)
       ·rw [if_pos c19] at H
        have c19b0 : decide (0 ≤ (rd x6_1 0)) = true := decide_eq_true c19
        clear c19
        by_cases c20 : (rd x6_1 0) < (l0_0.length : Int)
        ·rw [if_pos c20] at H
         have c20b0 : decide ((rd x6_1 0) < (l0_0.length : Int)) = true := decide_eq_true c20
         clear c20
         have H' := Aside0.mk H
         clear H
         obtain ⟨Ao21, co21, eo21, _⟩ := Kd.Q_slice HO_6.out
         subst eo21
         have hcz22_0 : wr.cell? ⟨gb175, 0, none⟩ = some (.slice A0_0 l0_0.length c0_0) := (blk_cell BK175.out 0).trans rfl
         have hfz22_0 := kF_ BK175.out 0
         have p186 : 0 ≤ (0 : Int) := (by omega)
         have q186 : 0 < (x6_1.length : Int) := of_decide_eq_true (by first | (with_reducible assumption) | assumption)
         obtain ⟨ad186, e186, hx186_0⟩ := Kd.at_int (Kd.Q_reads' HO_6.out).2.2 0 p186 q186
         cases e186
         have qi186 : (0 < x6_1.length) = True := eq_true (by omega)
         (try rw [show ((0 : Int)).toNat = 0 from rfl] at hx186_0)
         (try rw [Addr.add_zero'] at hx186_0)
         replace p186 := eq_true p186
         replace q186 := eq_true q186
         have p187 : 0 ≤ ((rd x6_1 0) : Int) := of_decide_eq_true (by first | (with_reducible assumption) | assumption)
         have q187 : (rd x6_1 0) < (l0_0.length : Int) := of_decide_eq_true (by first | (with_reducible assumption) | assumption)
         obtain ⟨ad187, A187_0, c187_0, e187, hx187_0, hl187_0, hi187_0⟩ := at_L1 HR0_0.out (rd x6_1 0) p187 q187
         cases e187
         replace hx187_0 := (HB.out.cell (World.block_lt_of_cell? w _ hx187_0)).trans hx187_0
         have HR187_0 := Aside0.mk hi187_0
         have HC187_0 := Aside0.mk hl187_0
         clear hi187_0 hl187_0
         replace p187 := eq_true p187
         replace q187 := eq_true q187
         go_wp2
         repeat (go_quiet (fail); try go_wp2)
         go_loopg [6, 32] k1 (fun kq v6 v32 w' => ∃ (x5_2 : List Int) (x6_2 : List Int) (x32_2 : Int), v32 = .int .i64 x32_2 ∧ Aside0 (impl_Graph_lengths.l1 kq x5_2 x6_2 (rd_L1 l0_0 (rd x6_1 0)) ((rd_L1 l0_0 (rd x6_1 0)).length : Int) x32_2 l0_0 = some r) ∧ Aside0 (kq ≤ k1) ∧ Aside0 (Kd.R (Kd.int .i64) 3 w' w.heap.size (fun k_ => some k_ ≠ (v6 : Value).ownBlock) (.slice (some ⟨go6, 0, none⟩) x5_1.length co6) x5_2) ∧ Aside0 (Kd.Q (Kd.int .i64) 3 w' w.heap.size (fun k_ => some k_ ≠ ((.slice (some ⟨go6, 0, none⟩) x5_1.length co6) : Value).ownBlock) v6 x6_2) ∧ Aside0 (w'.heap[gb175]? = some (.cells #[(.slice (some ad187) l0_0.length c0_0)] 30 (0, 0))) ∧ Aside0 (Below w.heap.size w w'))
         case atStart => exact ⟨(x5_1), (x6_1), (0), (by first | rfl | (simp; done) | (simp [*]; done)), H', ⟨Nat.le_refl _⟩, ⟨by (try simp only [hl5_1]); (with_reducible repeat (first | apply Kd.R_alloc | apply Kd.R_drewN | apply Kd.R_drew)); exact HO_5.out⟩, ⟨by (try simp only [hl5_1]); (with_reducible repeat (first | apply Kd.Q_alloc | apply Kd.Q_drewN | apply Kd.Q_drew)); exact HO_6.out⟩, ⟨by (try simp only [hl5_1]); (with_reducible repeat (first | refine kN_ ?_ _ | refine kD_ ?_ | refine kA_ ?_ _)); exact BK175.out⟩, ⟨by repeat (first | (with_reducible first | exact HB.out | apply bA_ | apply bN_ | apply bD_ | refine bS_ ?_ GE175.out) | exact HB.out)⟩⟩
         case round =>
          clear H'
          try clear c1
          try clear p1
          try clear q1
          try clear hx1
          try clear qi1
          try clear c2
          try clear p2
          try clear c4
          try clear c4b0
          try clear c5
          try clear c5b0
          try clear p6
          try clear q6
          try clear hx6
          try clear hf6
          try clear c11
          try clear c17
          try clear c17b0
          try clear c17b1
          try clear c18
          try clear c18b0
          try clear c18b1
          try clear p18
          try clear q18
          try clear hx18
          try clear qi18
          try clear c19
          try clear c19b0
          try clear c20
          try clear c20b0
          try clear hcz10_0
          try clear hcz22_0
          try clear hfz10_0
          try clear hfz22_0
          try clear hx186_0
          try clear hx187_0
          try clear hx6_0
          try clear p186
          try clear p187
          try clear p2
          try clear p6
          try clear q186
          try clear q187
          try clear q6
          obtain ⟨x5_2, x6_2, x32_2, rfl, HA, HK2, HO_5, HO_6, BK175, HB⟩ := hrel
          have hl5_2 := (Kd.R_reads' HO_5.out).1
          rw [hl5_2] at HO_5
          (try simp only [hl5_2])
          (try simp only [hl5_2] at BK175)
          (try simp only [hl5_2] at HO_6)
          cases gk with
          | zero => exact absurd HA.out (by simp [impl_Graph_lengths.l1])
          | succ k2 =>
           have H := HA.out
           clear HA
           simp only [impl_Graph_lengths.l1] at H
           by_cases c23 : x32_2 < ((rd_L1 l0_0 (rd x6_1 0)).length : Int)
           ·rw [if_pos c23] at H
            have c23b0 : decide (x32_2 < ((rd_L1 l0_0 (rd x6_1 0)).length : Int)) = true := decide_eq_true c23
            clear c23
            by_cases c24 : 0 ≤ x32_2
            ·rw [if_pos c24] at H
             have c24b0 : decide (0 ≤ x32_2) = true := decide_eq_true c24
             clear c24
             by_cases c25 : x32_2 < ((rd_L1 l0_0 (rd x6_1 0)).length : Int)
             ·rw [if_pos c25] at H
              have c25b0 : decide (x32_2 < ((rd_L1 l0_0 (rd x6_1 0)).length : Int)) = true := decide_eq_true c25
              clear c25
              by_cases c26 : 0 ≤ (rd (rd_L1 l0_0 (rd x6_1 0)) x32_2)
              ·rw [if_pos c26] at H
               have c26b0 : decide (0 ≤ (rd (rd_L1 l0_0 (rd x6_1 0)) x32_2)) = true := decide_eq_true c26
               clear c26
               by_cases c27 : (rd (rd_L1 l0_0 (rd x6_1 0)) x32_2) < (x5_2.length : Int)
               ·rw [if_pos c27] at H
                have c27b0 : decide ((rd (rd_L1 l0_0 (rd x6_1 0)) x32_2) < (x5_2.length : Int)) = true := decide_eq_true c27
                clear c27
                by_cases c28 : (rd x5_2 (rd (rd_L1 l0_0 (rd x6_1 0)) x32_2)) < 0
                ·rw [if_pos c28] at H
                 have c28b0 : decide ((rd x5_2 (rd (rd_L1 l0_0 (rd x6_1 0)) x32_2)) < 0) = true := decide_eq_true c28
                 clear c28
                 by_cases c29 : 0 < (x6_2.length : Int)
                 ·rw [if_pos c29] at H
                  have c29b0 : decide (0 < (x6_2.length : Int)) = true := decide_eq_true c29
                  have c29b1 : decide (0 < x6_2.length) = true := decide_eq_true (by omega)
                  clear c29
                  by_cases c30 : 0 ≤ (rd x6_2 0)
                  ·rw [if_pos c30] at H
                   have c30b0 : decide (0 ≤ (rd x6_2 0)) = true := decide_eq_true c30
                   clear c30
                   by_cases c31 : (rd x6_2 0) < (x5_2.length : Int)
                   ·rw [if_pos c31] at H
                    have c31b0 : decide ((rd x6_2 0) < (x5_2.length : Int)) = true := decide_eq_true c31
                    clear c31
                    obtain ⟨y192, hy192⟩ : ∃ y_ : List Int, y_ = (x5_2.set ((rd (rd_L1 l0_0 (rd x6_1 0)) x32_2) : Int).toNat (wrap64 ((rd x5_2 (rd x6_2 0)) + 1))) := ⟨_, rfl⟩
                    replace H : (if x6_2.length < 17592186044416 then (impl_Graph_lengths.l1 k2 y192 (x6_2 ++ [rd (rd_L1 l0_0 (rd x6_1 0)) x32_2]) (rd_L1 l0_0 (rd x6_1 0)) ((rd_L1 l0_0 (rd x6_1 0)).length : Int) (wrap64 (x32_2 + 1)) l0_0) else (none)) = some r := by first | (rw [hy192]; with_reducible exact H) | (have H2_ := (Option.bind_some _ _).symm.trans H; rw [hy192]; with_reducible exact H2_) | (have H2_ := (Option.bind_some _ _).symm.trans H; with_reducible exact H2_) | with_reducible exact H | (rw [hy192]; exact H) | exact H
                    have Ny192 := Aside0.mk hy192
                    clear hy192
                    by_cases c33 : x6_2.length < 17592186044416
                    ·rw [if_pos c33] at H
                     have LMc33 := Aside0.mk c33
                     clear c33
                     obtain ⟨y193, hy193⟩ : ∃ y_ : List Int, y_ = (x6_2 ++ [rd (rd_L1 l0_0 (rd x6_1 0)) x32_2]) := ⟨_, rfl⟩
                     replace H : (impl_Graph_lengths.l1 k2 y192 y193 (rd_L1 l0_0 (rd x6_1 0)) ((rd_L1 l0_0 (rd x6_1 0)).length : Int) (wrap64 (x32_2 + 1)) l0_0) = some r := by first | (rw [hy193]; with_reducible exact H) | (have H2_ := (Option.bind_some _ _).symm.trans H; rw [hy193]; with_reducible exact H2_) | (have H2_ := (Option.bind_some _ _).symm.trans H; with_reducible exact H2_) | with_reducible exact H | (rw [hy193]; exact H) | exact H
                     have Ny193 := Aside0.mk hy193
                     clear hy193
                     have H' := Aside0.mk H
                     clear H
                     have p188 : 0 ≤ (x32_2 : Int) := of_decide_eq_true (by first | (with_reducible assumption) | assumption)
                     have q188 : x32_2 < ((rd_L1 l0_0 (rd x6_1 0)).length : Int) := of_decide_eq_true (by first | (with_reducible assumption) | assumption)
                     obtain ⟨ad188, e188, hx188_0⟩ := Kd.at_int HR187_0.out x32_2 p188 q188
                     cases e188
                     replace hx188_0 := (HB.out.cell (World.block_lt_of_cell? w _ hx188_0)).trans hx188_0
                     replace p188 := eq_true p188
                     replace q188 := eq_true q188
                     have p189 : 0 ≤ ((rd (rd_L1 l0_0 (rd x6_1 0)) x32_2) : Int) := of_decide_eq_true (by first | (with_reducible assumption) | assumption)
                     have q189 : (rd (rd_L1 l0_0 (rd x6_1 0)) x32_2) < (x5_2.length : Int) := of_decide_eq_true (by first | (with_reducible assumption) | assumption)
                     obtain ⟨ad189, e189, hx189_0⟩ := Kd.at_int (Kd.R_reads' HO_5.out).2.2 (rd (rd_L1 l0_0 (rd x6_1 0)) x32_2) p189 q189
                     obtain rfl : (⟨go6, 0, none⟩ : Addr) = ad189 := (by injection e189)
                     (first | simp only [add_plain] at hx189_0 | simp only [add_at] at hx189_0 | simp only [Addr.add, Nat.zero_add] at hx189_0 | skip)
                     replace p189 := eq_true p189
                     replace q189 := eq_true q189
                     obtain ⟨Ao34, co34, eo34, _⟩ := Kd.Q_slice HO_6.out
                     subst eo34
                     have p190 : 0 ≤ (0 : Int) := (by omega)
                     have q190 : 0 < (x6_2.length : Int) := of_decide_eq_true (by first | (with_reducible assumption) | assumption)
                     obtain ⟨ad190, e190, hx190_0⟩ := Kd.at_int (Kd.Q_reads' HO_6.out).2.2 0 p190 q190
                     cases e190
                     have qi190 : (0 < x6_2.length) = True := eq_true (by omega)
                     (try rw [show ((0 : Int)).toNat = 0 from rfl] at hx190_0)
                     (try rw [Addr.add_zero'] at hx190_0)
                     replace p190 := eq_true p190
                     replace q190 := eq_true q190
                     have p191 : 0 ≤ ((rd x6_2 0) : Int) := of_decide_eq_true (by first | (with_reducible assumption) | assumption)
                     have q191 : (rd x6_2 0) < (x5_2.length : Int) := of_decide_eq_true (by first | (with_reducible assumption) | assumption)
                     obtain ⟨ad191, e191, hx191_0⟩ := Kd.at_int (Kd.R_reads' HO_5.out).2.2 (rd x6_2 0) p191 q191
                     obtain rfl : (⟨go6, 0, none⟩ : Addr) = ad191 := (by injection e191)
                     (first | simp only [add_plain] at hx191_0 | simp only [add_at] at hx191_0 | simp only [Addr.add, Nat.zero_add] at hx191_0 | skip)
                     replace p191 := eq_true p191
                     replace q191 := eq_true q191
                     have p32 : 0 ≤ ((rd (rd_L1 l0_0 (rd x6_1 0)) x32_2) : Int) := of_decide_eq_true (by first | (with_reducible assumption) | assumption)
                     have q32 : ((rd (rd_L1 l0_0 (rd x6_1 0)) x32_2) : Int) < ((x5_2.length : Int) : Int) := of_decide_eq_true (by first | (with_reducible assumption) | assumption)
                     obtain ⟨hx32_0, hf32_0⟩ := Kd.R_celln 0 HO_5.out ((rd (rd_L1 l0_0 (rd x6_1 0)) x32_2) : Int) p32 q32
                     replace p32 := eq_true p32
                     replace q32 := eq_true q32
                     have HP35 := Kd.R_putg HO_5.out ((rd (rd_L1 l0_0 (rd x6_1 0)) x32_2) : Int) (wrap64 ((rd x5_2 (rd x6_2 0)) + 1))
                     go_wp2_with (first | ((with_reducible refine gate_store (t := 3) (p := 50) rfl ?_); (try (rw [drewN_self wr]; generalize hq_ : World.drewN wr _ = wr; have n0_ := Aside0.mk (Kd.R_at hq_ HO_5.out); have n1_ := Aside0.mk (Kd.Q_at hq_ HO_6.out); have n2_ := Aside0.mk (blk_at hq_ BK175.out); have n3_ := Aside0.mk (below_at hq_ HB.out); clear hq_ HO_5 HO_6 BK175 HB; have HO_5 := n0_; have HO_6 := n1_; have BK175 := n2_; have HB := n3_; clear n0_ n1_ n2_ n3_; (try (have HP35 := Kd.R_putg HO_5.out ((rd (rd_L1 l0_0 (rd x6_1 0)) x32_2) : Int) (wrap64 ((rd x5_2 (rd x6_2 0)) + 1)))))); refine store_event (t := 3) (p := 50) (v := ?vo_w36) (w1 := (wr.setCell ⟨go6, ((rd (rd_L1 l0_0 (rd x6_1 0)) x32_2) : Int).toNat, none⟩ (.int .i64 (wrap64 ((rd x5_2 (rd x6_2 0)) + 1))))) ?hg ?ho ?hn ?hr ?_; (case ho => rfl); (case hg => rfl); (case hn => rfl); (case hr => first | (go_simp; done) | (go_simp; rfl)); intro w36 hw; have hg : wr.grownBy w36 (some go6) := (by rw [hw]; exact HP35.2); have hp_ : Kd.R (Kd.int .i64) 3 w36 w.heap.size (fun k_ => some k_ ≠ (.slice (some ad190) x6_2.length co34 : Value).ownBlock) (.slice (some ⟨go6, 0, none⟩) x5_2.length co6) y192 := (by rw [hw, Ny192.out]; exact HP35.1); clear HP35; have n0_ := Aside0.mk (hp_); have n1_ := Aside0.mk (Kd.Q_after (v := (.slice (some ⟨go6, 0, none⟩) x5_2.length co6)) (v1 := (.slice (some ⟨go6, 0, none⟩) x5_2.length co6)) (ok := (fun _ => True)) (by (with_reducible repeat (first | apply Kd.Q_alloc | apply Kd.Q_drewN | apply Kd.Q_drew)); exact Kd.Q_mono HO_6.out (fun _ hk => ⟨trivial, hk⟩)) hg (.inl rfl)); have n2_ := Aside0.mk (blk_grown (g := gb175) (o := .cells #[.slice (some ad187) l0_0.length c0_0] 30 (0, 0)) (by (with_reducible repeat (first | refine kN_ ?_ _ | refine kD_ ?_ | refine kA_ ?_ _)); exact BK175.out) hg (Kd.R_ne HO_5.out BK175.out (by decide))); have n3_ := Aside0.mk ((by rw [hw]; exact bS_ (HB.out) GB6.out : Below w.heap.size w w36)); clear HO_5; clear HO_6; clear BK175; clear HB; have HO_5 := n0_; have HO_6 := n1_; have BK175 := n2_; have HB := n3_; clear n0_ n1_ n2_ n3_; clear hg hw hp_) | ((with_reducible refine gate_builtin (b := .append) (xs := #[.tmp 51, .tmp 53]) rfl ?_); at_builtin; refine Kd.Q_append (Kd.int .i64) (w0 := w) w.heap.size rfl (.tmp 51) (.tmp 53) 37 3 (.int .i64 0) 8 rfl Try.underlying37 info3 rfl (by decide) (by omega) (.slice (some ad190) x6_2.length co34) x6_2 (rd (rd_L1 l0_0 (rd x6_1 0)) x32_2) [.int .i64 (rd (rd_L1 l0_0 (rd x6_1 0)) x32_2)] (fun k_ => some k_ ≠ (.slice (some ⟨go6, 0, none⟩) x5_2.length co6 : Value).ownBlock) (fun _ => False) rfl rfl ?aP (fun _ hk => hk.elim) ?aF ?aO ?aB ?aS ?aL ?_; (case aP => exact rfl); (case aB => exact (by repeat (first | (with_reducible first | exact HB.out | apply bA_ | apply bN_ | apply bD_ | refine bS_ ?_ GE175.out) | exact HB.out))); (case aF => exact (fun k_ hk => Kd.fresh' (Kd.R_lt (by (with_reducible repeat (first | apply Kd.R_alloc | apply Kd.R_drewN | apply Kd.R_drew)); exact HO_5.out)) k_ hk)); (case aO => exact (by (with_reducible repeat (first | apply Kd.Q_alloc | apply Kd.Q_drewN | apply Kd.Q_drew)); exact Kd.Q_mono HO_6.out (fun _ hk => hk.2))); (case aS => exact (bZ_ (by repeat (first | (with_reducible first | exact HB.out | apply bA_ | apply bN_ | apply bD_ | refine bS_ ?_ GE175.out) | exact HB.out)))); (case aL => have := LMc33.out; omega); intro v194 w37 ho hb hg hat; rw [← Ny193.out] at ho; have n0_ := Aside0.mk (Kd.R_after (ok := (fun _ => True)) (by (with_reducible repeat (first | apply Kd.R_alloc | apply Kd.R_drewN | apply Kd.R_drew)); exact Kd.R_mono HO_5.out (fun _ hk => ⟨trivial, hk⟩)) hg hat); have n1_ := Aside0.mk (blk_grown (g := gb175) (o := .cells #[.slice (some ad187) l0_0.length c0_0] 30 (0, 0)) (by (with_reducible repeat (first | refine kN_ ?_ _ | refine kD_ ?_ | refine kA_ ?_ _)); exact BK175.out) hg (Kd.Q_ne HO_6.out BK175.out (by decide))); have n2_ := Aside0.mk (hb); have n3_ := Aside0.mk (ho); clear HO_5; clear BK175; clear HB; clear HO_6; have HO_5 := n0_; have BK175 := n1_; have HB := n2_; have HO195 := n3_; clear n0_ n1_ n2_ n3_; clear ho hb hg hat))
                     repeat (go_quiet (first | ((with_reducible refine gate_store (t := 3) (p := 50) rfl ?_); (try (rw [drewN_self wr]; generalize hq_ : World.drewN wr _ = wr; have n0_ := Aside0.mk (Kd.R_at hq_ HO_5.out); have n1_ := Aside0.mk (Kd.Q_at hq_ HO_6.out); have n2_ := Aside0.mk (blk_at hq_ BK175.out); have n3_ := Aside0.mk (below_at hq_ HB.out); clear hq_ HO_5 HO_6 BK175 HB; have HO_5 := n0_; have HO_6 := n1_; have BK175 := n2_; have HB := n3_; clear n0_ n1_ n2_ n3_; (try (have HP35 := Kd.R_putg HO_5.out ((rd (rd_L1 l0_0 (rd x6_1 0)) x32_2) : Int) (wrap64 ((rd x5_2 (rd x6_2 0)) + 1)))))); refine store_event (t := 3) (p := 50) (v := ?vo_w36) (w1 := (wr.setCell ⟨go6, ((rd (rd_L1 l0_0 (rd x6_1 0)) x32_2) : Int).toNat, none⟩ (.int .i64 (wrap64 ((rd x5_2 (rd x6_2 0)) + 1))))) ?hg ?ho ?hn ?hr ?_; (case ho => rfl); (case hg => rfl); (case hn => rfl); (case hr => first | (go_simp; done) | (go_simp; rfl)); intro w36 hw; have hg : wr.grownBy w36 (some go6) := (by rw [hw]; exact HP35.2); have hp_ : Kd.R (Kd.int .i64) 3 w36 w.heap.size (fun k_ => some k_ ≠ (.slice (some ad190) x6_2.length co34 : Value).ownBlock) (.slice (some ⟨go6, 0, none⟩) x5_2.length co6) y192 := (by rw [hw, Ny192.out]; exact HP35.1); clear HP35; have n0_ := Aside0.mk (hp_); have n1_ := Aside0.mk (Kd.Q_after (v := (.slice (some ⟨go6, 0, none⟩) x5_2.length co6)) (v1 := (.slice (some ⟨go6, 0, none⟩) x5_2.length co6)) (ok := (fun _ => True)) (by (with_reducible repeat (first | apply Kd.Q_alloc | apply Kd.Q_drewN | apply Kd.Q_drew)); exact Kd.Q_mono HO_6.out (fun _ hk => ⟨trivial, hk⟩)) hg (.inl rfl)); have n2_ := Aside0.mk (blk_grown (g := gb175) (o := .cells #[.slice (some ad187) l0_0.length c0_0] 30 (0, 0)) (by (with_reducible repeat (first | refine kN_ ?_ _ | refine kD_ ?_ | refine kA_ ?_ _)); exact BK175.out) hg (Kd.R_ne HO_5.out BK175.out (by decide))); have n3_ := Aside0.mk ((by rw [hw]; exact bS_ (HB.out) GB6.out : Below w.heap.size w w36)); clear HO_5; clear HO_6; clear BK175; clear HB; have HO_5 := n0_; have HO_6 := n1_; have BK175 := n2_; have HB := n3_; clear n0_ n1_ n2_ n3_; clear hg hw hp_) | ((with_reducible refine gate_builtin (b := .append) (xs := #[.tmp 51, .tmp 53]) rfl ?_); at_builtin; refine Kd.Q_append (Kd.int .i64) (w0 := w) w.heap.size rfl (.tmp 51) (.tmp 53) 37 3 (.int .i64 0) 8 rfl Try.underlying37 info3 rfl (by decide) (by omega) (.slice (some ad190) x6_2.length co34) x6_2 (rd (rd_L1 l0_0 (rd x6_1 0)) x32_2) [.int .i64 (rd (rd_L1 l0_0 (rd x6_1 0)) x32_2)] (fun k_ => some k_ ≠ (.slice (some ⟨go6, 0, none⟩) x5_2.length co6 : Value).ownBlock) (fun _ => False) rfl rfl ?aP (fun _ hk => hk.elim) ?aF ?aO ?aB ?aS ?aL ?_; (case aP => exact rfl); (case aB => exact (by repeat (first | (with_reducible first | exact HB.out | apply bA_ | apply bN_ | apply bD_ | refine bS_ ?_ GE175.out) | exact HB.out))); (case aF => exact (fun k_ hk => Kd.fresh' (Kd.R_lt (by (with_reducible repeat (first | apply Kd.R_alloc | apply Kd.R_drewN | apply Kd.R_drew)); exact HO_5.out)) k_ hk)); (case aO => exact (by (with_reducible repeat (first | apply Kd.Q_alloc | apply Kd.Q_drewN | apply Kd.Q_drew)); exact Kd.Q_mono HO_6.out (fun _ hk => hk.2))); (case aS => exact (bZ_ (by repeat (first | (with_reducible first | exact HB.out | apply bA_ | apply bN_ | apply bD_ | refine bS_ ?_ GE175.out) | exact HB.out)))); (case aL => have := LMc33.out; omega); intro v194 w37 ho hb hg hat; rw [← Ny193.out] at ho; have n0_ := Aside0.mk (Kd.R_after (ok := (fun _ => True)) (by (with_reducible repeat (first | apply Kd.R_alloc | apply Kd.R_drewN | apply Kd.R_drew)); exact Kd.R_mono HO_5.out (fun _ hk => ⟨trivial, hk⟩)) hg hat); have n1_ := Aside0.mk (blk_grown (g := gb175) (o := .cells #[.slice (some ad187) l0_0.length c0_0] 30 (0, 0)) (by (with_reducible repeat (first | refine kN_ ?_ _ | refine kD_ ?_ | refine kA_ ?_ _)); exact BK175.out) hg (Kd.Q_ne HO_6.out BK175.out (by decide))); have n2_ := Aside0.mk (hb); have n3_ := Aside0.mk (ho); clear HO_5; clear BK175; clear HB; clear HO_6; have HO_5 := n0_; have BK175 := n1_; have HB := n2_; have HO195 := n3_; clear n0_ n1_ n2_ n3_; clear ho hb hg hat)); try go_wp2_with (first | ((with_reducible refine gate_store (t := 3) (p := 50) rfl ?_); (try (rw [drewN_self wr]; generalize hq_ : World.drewN wr _ = wr; have n0_ := Aside0.mk (Kd.R_at hq_ HO_5.out); have n1_ := Aside0.mk (Kd.Q_at hq_ HO_6.out); have n2_ := Aside0.mk (blk_at hq_ BK175.out); have n3_ := Aside0.mk (below_at hq_ HB.out); clear hq_ HO_5 HO_6 BK175 HB; have HO_5 := n0_; have HO_6 := n1_; have BK175 := n2_; have HB := n3_; clear n0_ n1_ n2_ n3_; (try (have HP35 := Kd.R_putg HO_5.out ((rd (rd_L1 l0_0 (rd x6_1 0)) x32_2) : Int) (wrap64 ((rd x5_2 (rd x6_2 0)) + 1)))))); refine store_event (t := 3) (p := 50) (v := ?vo_w36) (w1 := (wr.setCell ⟨go6, ((rd (rd_L1 l0_0 (rd x6_1 0)) x32_2) : Int).toNat, none⟩ (.int .i64 (wrap64 ((rd x5_2 (rd x6_2 0)) + 1))))) ?hg ?ho ?hn ?hr ?_; (case ho => rfl); (case hg => rfl); (case hn => rfl); (case hr => first | (go_simp; done) | (go_simp; rfl)); intro w36 hw; have hg : wr.grownBy w36 (some go6) := (by rw [hw]; exact HP35.2); have hp_ : Kd.R (Kd.int .i64) 3 w36 w.heap.size (fun k_ => some k_ ≠ (.slice (some ad190) x6_2.length co34 : Value).ownBlock) (.slice (some ⟨go6, 0, none⟩) x5_2.length co6) y192 := (by rw [hw, Ny192.out]; exact HP35.1); clear HP35; have n0_ := Aside0.mk (hp_); have n1_ := Aside0.mk (Kd.Q_after (v := (.slice (some ⟨go6, 0, none⟩) x5_2.length co6)) (v1 := (.slice (some ⟨go6, 0, none⟩) x5_2.length co6)) (ok := (fun _ => True)) (by (with_reducible repeat (first | apply Kd.Q_alloc | apply Kd.Q_drewN | apply Kd.Q_drew)); exact Kd.Q_mono HO_6.out (fun _ hk => ⟨trivial, hk⟩)) hg (.inl rfl)); have n2_ := Aside0.mk (blk_grown (g := gb175) (o := .cells #[.slice (some ad187) l0_0.length c0_0] 30 (0, 0)) (by (with_reducible repeat (first | refine kN_ ?_ _ | refine kD_ ?_ | refine kA_ ?_ _)); exact BK175.out) hg (Kd.R_ne HO_5.out BK175.out (by decide))); have n3_ := Aside0.mk ((by rw [hw]; exact bS_ (HB.out) GB6.out : Below w.heap.size w w36)); clear HO_5; clear HO_6; clear BK175; clear HB; have HO_5 := n0_; have HO_6 := n1_; have BK175 := n2_; have HB := n3_; clear n0_ n1_ n2_ n3_; clear hg hw hp_) | ((with_reducible refine gate_builtin (b := .append) (xs := #[.tmp 51, .tmp 53]) rfl ?_); at_builtin; refine Kd.Q_append (Kd.int .i64) (w0 := w) w.heap.size rfl (.tmp 51) (.tmp 53) 37 3 (.int .i64 0) 8 rfl Try.underlying37 info3 rfl (by decide) (by omega) (.slice (some ad190) x6_2.length co34) x6_2 (rd (rd_L1 l0_0 (rd x6_1 0)) x32_2) [.int .i64 (rd (rd_L1 l0_0 (rd x6_1 0)) x32_2)] (fun k_ => some k_ ≠ (.slice (some ⟨go6, 0, none⟩) x5_2.length co6 : Value).ownBlock) (fun _ => False) rfl rfl ?aP (fun _ hk => hk.elim) ?aF ?aO ?aB ?aS ?aL ?_; (case aP => exact rfl); (case aB => exact (by repeat (first | (with_reducible first | exact HB.out | apply bA_ | apply bN_ | apply bD_ | refine bS_ ?_ GE175.out) | exact HB.out))); (case aF => exact (fun k_ hk => Kd.fresh' (Kd.R_lt (by (with_reducible repeat (first | apply Kd.R_alloc | apply Kd.R_drewN | apply Kd.R_drew)); exact HO_5.out)) k_ hk)); (case aO => exact (by (with_reducible repeat (first | apply Kd.Q_alloc | apply Kd.Q_drewN | apply Kd.Q_drew)); exact Kd.Q_mono HO_6.out (fun _ hk => hk.2))); (case aS => exact (bZ_ (by repeat (first | (with_reducible first | exact HB.out | apply bA_ | apply bN_ | apply bD_ | refine bS_ ?_ GE175.out) | exact HB.out)))); (case aL => have := LMc33.out; omega); intro v194 w37 ho hb hg hat; rw [← Ny193.out] at ho; have n0_ := Aside0.mk (Kd.R_after (ok := (fun _ => True)) (by (with_reducible repeat (first | apply Kd.R_alloc | apply Kd.R_drewN | apply Kd.R_drew)); exact Kd.R_mono HO_5.out (fun _ hk => ⟨trivial, hk⟩)) hg hat); have n1_ := Aside0.mk (blk_grown (g := gb175) (o := .cells #[.slice (some ad187) l0_0.length c0_0] 30 (0, 0)) (by (with_reducible repeat (first | refine kN_ ?_ _ | refine kD_ ?_ | refine kA_ ?_ _)); exact BK175.out) hg (Kd.Q_ne HO_6.out BK175.out (by decide))); have n2_ := Aside0.mk (hb); have n3_ := Aside0.mk (ho); clear HO_5; clear BK175; clear HB; clear HO_6; have HO_5 := n0_; have BK175 := n1_; have HB := n2_; have HO195 := n3_; clear n0_ n1_ n2_ n3_; clear ho hb hg hat)))
                     (try simp only [← hl5_2])
                     go_roundg k2
                     case measure => have := HK1.out; have := HK2.out; omega
                     case rel => exact ⟨(y192), (y193), (wrap64 (x32_2 + 1)), (by first | rfl | (simp; done) | (simp [*]; done)), H', ⟨by have := HK1.out; have := HK2.out; omega⟩, ⟨by (try simp only [hl5_1]); (try simp only [hl5_2]); (with_reducible repeat (first | apply Kd.R_alloc | apply Kd.R_drewN | apply Kd.R_drew)); exact Kd.R_mono HO_5.out (fun _ hk => hk.2)⟩, ⟨by (try simp only [hl5_1]); (try simp only [hl5_2]); (with_reducible repeat (first | apply Kd.Q_alloc | apply Kd.Q_drewN | apply Kd.Q_drew)); exact HO195.out⟩, ⟨by (try simp only [hl5_1]); (try simp only [hl5_2]); (with_reducible repeat (first | refine kN_ ?_ _ | refine kD_ ?_ | refine kA_ ?_ _)); exact BK175.out⟩, ⟨by repeat (first | (with_reducible first | exact HB.out | apply bA_ | apply bN_ | apply bD_ | refine bS_ ?_ GE175.out) | exact HB.out)⟩⟩
                    ·rw [if_neg c33] at H
                     exact absurd H (by simp)
                   ·rw [if_neg c31] at H
                    exact absurd H (by simp)
                  ·rw [if_neg c30] at H
                   exact absurd H (by simp)
                 ·rw [if_neg c29] at H
                  exact absurd H (by simp)
                ·rw [if_neg c28] at H
                 have c28b0 : decide ((rd x5_2 (rd (rd_L1 l0_0 (rd x6_1 0)) x32_2)) < 0) = false := decide_eq_false c28
                 clear c28
                 have H' := Aside0.mk H
                 clear H
                 have p188 : 0 ≤ (x32_2 : Int) := of_decide_eq_true (by first | (with_reducible assumption) | assumption)
                 have q188 : x32_2 < ((rd_L1 l0_0 (rd x6_1 0)).length : Int) := of_decide_eq_true (by first | (with_reducible assumption) | assumption)
                 obtain ⟨ad188, e188, hx188_0⟩ := Kd.at_int HR187_0.out x32_2 p188 q188
                 cases e188
                 replace hx188_0 := (HB.out.cell (World.block_lt_of_cell? w _ hx188_0)).trans hx188_0
                 replace p188 := eq_true p188
                 replace q188 := eq_true q188
                 have p189 : 0 ≤ ((rd (rd_L1 l0_0 (rd x6_1 0)) x32_2) : Int) := of_decide_eq_true (by first | (with_reducible assumption) | assumption)
                 have q189 : (rd (rd_L1 l0_0 (rd x6_1 0)) x32_2) < (x5_2.length : Int) := of_decide_eq_true (by first | (with_reducible assumption) | assumption)
                 obtain ⟨ad189, e189, hx189_0⟩ := Kd.at_int (Kd.R_reads' HO_5.out).2.2 (rd (rd_L1 l0_0 (rd x6_1 0)) x32_2) p189 q189
                 obtain rfl : (⟨go6, 0, none⟩ : Addr) = ad189 := (by injection e189)
                 (first | simp only [add_plain] at hx189_0 | simp only [add_at] at hx189_0 | simp only [Addr.add, Nat.zero_add] at hx189_0 | skip)
                 replace p189 := eq_true p189
                 replace q189 := eq_true q189
                 go_wp2
                 repeat (go_quiet (fail); try go_wp2)
                 (try simp only [← hl5_2])
                 go_roundg k2
                 case measure => have := HK1.out; have := HK2.out; omega
                 case rel => exact ⟨(x5_2), (x6_2), (wrap64 (x32_2 + 1)), (by first | rfl | (simp; done) | (simp [*]; done)), H', ⟨by have := HK1.out; have := HK2.out; omega⟩, ⟨by (try simp only [hl5_1]); (try simp only [hl5_2]); (with_reducible repeat (first | apply Kd.R_alloc | apply Kd.R_drewN | apply Kd.R_drew)); exact HO_5.out⟩, ⟨by (try simp only [hl5_1]); (try simp only [hl5_2]); (with_reducible repeat (first | apply Kd.Q_alloc | apply Kd.Q_drewN | apply Kd.Q_drew)); exact HO_6.out⟩, ⟨by (try simp only [hl5_1]); (try simp only [hl5_2]); (with_reducible repeat (first | refine kN_ ?_ _ | refine kD_ ?_ | refine kA_ ?_ _)); exact BK175.out⟩, ⟨by repeat (first | (with_reducible first | exact HB.out | apply bA_ | apply bN_ | apply bD_ | refine bS_ ?_ GE175.out) | exact HB.out)⟩⟩
               ·rw [if_neg c27] at H
                exact absurd H (by simp)
              ·rw [if_neg c26] at H
               exact absurd H (by simp)
             ·rw [if_neg c25] at H
              exact absurd H (by simp)
            ·rw [if_neg c24] at H
             exact absurd H (by simp)
           ·rw [if_neg c23] at H
            have c23b0 : decide (x32_2 < ((rd_L1 l0_0 (rd x6_1 0)).length : Int)) = false := decide_eq_false c23
            clear c23
            by_cases c38 : 1 ≤ (x6_2.length : Int)
            ·rw [if_pos c38] at H
             have c38b0 := eq_true c38
             have c38b1 : decide (1 ≤ (x6_2.length : Int)) = true := decide_eq_true c38
             clear c38
             obtain ⟨y196, hy196⟩ : ∃ y_ : List Int, y_ = (x6_2.drop (1 : Int).toNat) := ⟨_, rfl⟩
             replace H : (impl_Graph_lengths.l0 k2 x5_2 y196 l0_0) = some r := by first | (rw [hy196]; with_reducible exact H) | (have H2_ := (Option.bind_some _ _).symm.trans H; rw [hy196]; with_reducible exact H2_) | (have H2_ := (Option.bind_some _ _).symm.trans H; with_reducible exact H2_) | with_reducible exact H | (rw [hy196]; exact H) | exact H
             have Ny196 := Aside0.mk hy196
             clear hy196
             have H' := Aside0.mk H
             clear H
             obtain ⟨Ao39, co39, eo39, _⟩ := Kd.Q_slice HO_6.out
             subst eo39
             have q40 : (1 : Int) ≤ ((x6_2.length : Int) : Int) := of_decide_eq_true (by first | (with_reducible assumption) | assumption)
             obtain ⟨i040, hi040, _, hsz40, _⟩ := info_parts info3
             have hcut40 := cut_from (P := Try.prog) 37 3 .i64 Try.underlying37 hi040 1 hsz40 Ao39 x6_2.length co39 1 (by omega) q40
             have hr40 := Kd.Q_drop (k := (1 : Int).toNat) HO_6.out (by omega)
             obtain ⟨A40, hA40⟩ : ∃ A1, A1 = (if co39 = (1 : Int).toNat then Ao39 else (Ao39 : Option Addr).map (·.add ((1 : Int).toNat * 1))) := ⟨_, rfl⟩
             obtain ⟨c40, hc40⟩ : ∃ c1, c1 = co39 - (1 : Int).toNat := ⟨_, rfl⟩
             have hy40 : y196.length = x6_2.length - (1 : Int).toNat := (by rw [Ny196.out, List.length_drop])
             rw [← Ny196.out] at hr40
             rw [← hy40, ← hA40, ← hc40] at hcut40
             replace hr40 : Kd.Q (Kd.int .i64) 3 wr w.heap.size (fun k_ => some k_ ≠ (.slice (some ⟨go6, 0, none⟩) x5_2.length co6 : Value).ownBlock) (.slice A40 y196.length c40) y196 := (by rw [hA40, hc40, hy40]; exact hr40)
             have HE40 : Aside0 ((Value.slice A40 y196.length c40).ownBlock = (.slice Ao39 x6_2.length co39 : Value).ownBlock) := ⟨by rw [hA40]; split <;> (cases (Ao39 : Option Addr) <;> rfl)⟩
             clear hy40 hi040 hsz40 HO_6 hA40 hc40
             have HO198 := Aside0.mk hr40
             clear hr40
             replace q40 := eq_true q40
             have n_ := Aside0.mk (Kd.R_mono (ok' := fun k_ => some k_ ≠ (.slice A40 y196.length c40 : Value).ownBlock) HO_5.out (fun k_ hk => (by rw [HE40.out]; exact hk)))
             clear HO_5
             have HO_5 := n_
             clear n_
             go_wp2
             repeat (go_quiet (fail); try go_wp2)
             (try simp only [← hl5_1, ← hl5_2])
             go_roundg k2
             case measure => have := HK1.out; have := HK2.out; omega
             case rel => exact ⟨(x5_2), (y196), H', ⟨by have := HK1.out; have := HK2.out; omega⟩, ⟨by (try simp only [hl5_1]); (try simp only [hl5_2]); (with_reducible repeat (first | apply Kd.R_alloc | apply Kd.R_drewN | apply Kd.R_drew)); exact HO_5.out⟩, ⟨by (try simp only [hl5_1]); (try simp only [hl5_2]); (with_reducible repeat (first | apply Kd.Q_alloc | apply Kd.Q_drewN | apply Kd.Q_drew)); exact HO198.out⟩, ⟨by (try simp only [hl5_1]); (try simp only [hl5_2]); (with_reducible repeat (first | refine kN_ ?_ _ | refine kD_ ?_ | refine kA_ ?_ _)); exact BK175.out⟩, ⟨by repeat (first | (with_reducible first | exact HB.out | apply bA_ | apply bN_ | apply bD_ | refine bS_ ?_ GE175.out) | exact HB.out)⟩⟩
            ·rw [if_neg c38] at H
             exact absurd H (by simp)
        ·rw [if_neg c20] at H
         exact absurd H (by simp)
       ·rw [if_neg c19] at H
        exact absurd H (by simp)
      ·rw [if_neg c18] at H
       exact absurd H (by simp)
     ·rw [if_neg c17] at H
      have c17b0 : decide (0 < (x6_1.length : Int)) = false := decide_eq_false c17
      have c17b1 : decide (0 < x6_1.length) = false := decide_eq_false (by omega)
      clear c17
      obtain rfl := Option.some.inj H
      obtain ⟨Ao41, co41, eo41, _⟩ := Kd.Q_slice HO_6.out
      subst eo41
      go_wp2
      repeat (go_quiet (fail); try go_wp2)
      go_ret
      exact ⟨_, by first | rfl | (simp [errW_none, errW_some] <;> rfl) | (simp [*, errW_none, errW_some] <;> rfl), by (with_reducible repeat (first | apply Kd.R_alloc | apply Kd.R_drewN | apply Kd.R_drew)); exact Kd.R_mono HO_5.out (fun _ hk => trivial), by repeat (first | (with_reducible first | exact HB.out | apply bA_ | apply bN_ | apply bD_ | refine bS_ ?_ GE175.out) | exact HB.out)⟩
  ·rw [if_neg c5] at H
   exact absurd H (by simp)
 ·rw [if_neg c4] at H
  exact absurd H (by simp)
mutual
def impl_canEnd.j0 : Nat → Int → Int → Bool → List (List Int) → Option (Bool)
 | 0, _, _, _, _ => none
 | k + 1, x1, x2, x20, x200000 => if x20 = true then (some false) else (impl_canEnd.l0 k x1 x2 x200000 (x200000.length : Int) 0 x200000)
def impl_canEnd.l0 : Nat → Int → Int → List (List Int) → Int → Int → List (List Int) → Option (Bool)
 | 0, _, _, _, _, _, _ => none
 | k + 1, x1, x2, x22, x23, x24, x200000 => if x24 < x23 then (if 0 ≤ x24 then (if x24 < (x22.length : Int) then ((impl_Graph_lengths.f k x200000 x24).bind fun t205 => (if 0 ≤ x1 then (if x1 < (t205.length : Int) then (if (rd t205 x1) < 0 then (if 0 ≤ x2 then (if x2 < (t205.length : Int) then (if (rd t205 x2) < 0 then (some false) else (if x24 = x1 then (impl_canEnd.l0 k x1 x2 x22 x23 (wrap64 (x24 + 1)) x200000) else (if x24 = x2 then (impl_canEnd.l0 k x1 x2 x22 x23 (wrap64 (x24 + 1)) x200000) else (if ((rd_L1 x22 x24).length : Int) = 0 then (some false) else (impl_canEnd.l0 k x1 x2 x22 x23 (wrap64 (x24 + 1)) x200000))))) else (none)) else (none)) else (if x24 = x1 then (impl_canEnd.l0 k x1 x2 x22 x23 (wrap64 (x24 + 1)) x200000) else (if x24 = x2 then (impl_canEnd.l0 k x1 x2 x22 x23 (wrap64 (x24 + 1)) x200000) else (if ((rd_L1 x22 x24).length : Int) = 0 then (some false) else (impl_canEnd.l0 k x1 x2 x22 x23 (wrap64 (x24 + 1)) x200000))))) else (none)) else (none))) else (none)) else (none)) else (some true)
end
def impl_canEnd.f (k : Nat) (l0_0 : List (List Int)) (a1 : Int) (a2 : Int) : Option (Bool) := (impl_has.f l0_0 (([a1, a2] : List Int))).bind fun t203 => (if t203 = true then (impl_canEnd.j0 k a1 a2 (a1 == a2) l0_0) else (impl_canEnd.j0 k a1 a2 true l0_0))
set_option maxHeartbeats 8000000 in
set_option maxRecDepth 100000 in
theorem impl_canEnd.calls (k : Nat) (A0_0 : Option Addr) (c0_0 : Nat) (l0_0 : List (List Int)) (a1 : Int) (a2 : Int) (r : Bool) (w : World) (hr0_0 : Kd.C (Kd.slice 3 (Kd.int .i64)) w A0_0 l0_0.length l0_0) (hc0_0 : l0_0.length ≤ c0_0) (h : impl_canEnd.f k l0_0 a1 a2 = some r) :
  Calls Try.prog 81 #[.agg #[.slice A0_0 l0_0.length c0_0], .int .i64 a1, .int .i64 a2] w fun e w' => e = .returned (.bool r) ∧ Below w.heap.size w w' := by
 have hu30 := Try.underlying30
 have HR0_0 := Aside0.mk hr0_0
 have HC0_0 := Aside0.mk hc0_0
 clear hr0_0 hc0_0
 have HB := Aside0.mk (Below.refl w.heap.size w)
 have H : ((impl_has.f l0_0 (([a1, a2] : List Int))).bind fun t203 => (if t203 = true then (impl_canEnd.j0 k a1 a2 (a1 == a2) l0_0) else (impl_canEnd.j0 k a1 a2 true l0_0))) = some r := h
 clear h
 have HC4 := Aside0.mk H
 clear H
 go_enter Try.func81, Try.ntmps81
 go_upto_region 1 with (first | ((with_reducible refine gate_dst (N := 3) rfl ?_); (try (refine gate_guard (by rfl) ?_; dsimp only)); refine box_event ?hg (N := 3) ?hd (cs := #[.slice A0_0 l0_0.length c0_0]) (t := 30) ?hr ?_; (case hd => rfl); (case hg => rfl); (case hr => first | (go_simp; done) | (go_simp; rfl)); intro gb199 hg w5 hbox hb; have n0_ := Aside0.mk (bP_ (by repeat (first | (with_reducible first | exact HB.out | apply bA_ | apply bN_ | apply bD_) | exact HB.out)) hb); have n1_ := Aside0.mk (hbox); have n2_ := Aside0.mk ((by rw [hg]; exact (bZ_ (by repeat (first | (with_reducible first | exact HB.out | apply bA_ | apply bN_ | apply bD_) | exact HB.out))) : w.heap.size ≤ gb199)); have n3_ := Aside0.mk ((by rw [hg]; exact (bZ_ (by repeat (first | (with_reducible first | exact HB.out | apply bA_ | apply bN_ | apply bD_) | exact HB.out))) : w.heap.size ≤ gb199)); clear HB; have HB := n0_; have BK199 := n1_; have GW199 := n2_; have GE199 := n3_; clear n0_ n1_ n2_ n3_; clear hb hbox hg))
 (try simp only [Act.put, List.setIfInBounds_toArray, List.set_cons_zero, List.set_cons_succ])
 go_cut [20] (fun v20 wc => ∃ (kq : Nat) (x20_3 : Bool), v20 = .bool x20_3 ∧ Aside0 (impl_canEnd.j0 kq a1 a2 x20_3 l0_0 = some r) ∧ Aside0 (kq ≤ k) ∧ Aside0 (wc.heap[gb199]? = some (.cells #[(.slice A0_0 l0_0.length c0_0)] 30 (0, 0))) ∧ Aside0 (Below w.heap.size w wc))
 case first =>
  have H := HC4.out
  clear HC4
  obtain ⟨y200, hy200⟩ : ∃ y_ : List Int, y_ = (([a1, a2] : List Int)) := ⟨_, rfl⟩
  replace H : ((impl_has.f l0_0 y200).bind fun t203 => (if t203 = true then (impl_canEnd.j0 k a1 a2 (a1 == a2) l0_0) else (impl_canEnd.j0 k a1 a2 true l0_0))) = some r := by first | (rw [hy200]; with_reducible exact H) | (have H2_ := (Option.bind_some _ _).symm.trans H; rw [hy200]; with_reducible exact H2_) | (have H2_ := (Option.bind_some _ _).symm.trans H; with_reducible exact H2_) | with_reducible exact H | (rw [hy200]; exact H) | exact H
  have Ny200 := Aside0.mk hy200
  clear hy200
  replace H := Option.bind_eq_some_iff.mp H
  obtain ⟨t203, A60, H⟩ := H
  replace H : (if t203 = true then (impl_canEnd.j0 k a1 a2 (a1 == a2) l0_0) else (impl_canEnd.j0 k a1 a2 true l0_0)) = some r := H
  have A6 := Aside0.mk A60
  clear A60
  by_cases c7 : t203 = true
  ·subst c7
   have H1 : (impl_canEnd.j0 k a1 a2 (a1 == a2) l0_0) = some r := by rw [if_pos rfl] at H; exact H
   clear H
   have H := H1
   clear H1
   have H' := Aside0.mk H
   clear H
   have hcz8_0 : w5.cell? ⟨gb199, 0, none⟩ = some (.slice A0_0 l0_0.length c0_0) := (blk_cell BK199.out 0).trans rfl
   have hfz8_0 := kF_ BK199.out 0
   go_wp2_with (first | ((with_reducible refine gate_dst (N := 13) rfl ?_); (try (refine gate_guard (by rfl) ?_; dsimp only)); refine Kd.R_lit (Kd.int .i64) _ 3 ?hg (N := 13) ?hd (xs := ([a1, a2] : List Int)) (inner := [.int .i64 a1, .int .i64 a2]) (ok := fun _ => True) (okp := fun _ => True) ?hr ?hp (fun _ hk => hk) trivial (Below.refl _ _) (Nat.le_refl _) (by simp) ?_; (case hd => rfl); (case hg => rfl); (case hr => first | (go_simp; done) | (go_simp; rfl)); (case hp => exact (Reps.one (show Kd.M (Kd.int .i64) _ _ _ a1 [.int .i64 a1] from rfl) (Reps.one (show Kd.M (Kd.int .i64) _ _ _ a2 [.int .i64 a2] from rfl) (Reps.none _ _)))); intro v201 w9 ho10 hb hg_ hnew_; clear hg_ hnew_; (first | rw [← Ny200.out] at ho10 | (simp only [Int.reduceToNat] at ho10; rw [← Ny200.out] at ho10)); have n0_ := Aside0.mk (Kd.R_lower ho10 (bZ_ (by repeat (first | (with_reducible first | exact HB.out | apply bA_ | apply bN_ | apply bD_ | refine bS_ ?_ GE199.out) | exact HB.out)))); have n1_ := Aside0.mk (blk_below (g := gb199) (o := .cells #[.slice A0_0 l0_0.length c0_0] 30 (0, 0)) (by (with_reducible repeat (first | refine kN_ ?_ _ | refine kD_ ?_ | refine kA_ ?_ _)); exact BK199.out) hb); have n2_ := Aside0.mk (bP_ (by repeat (first | (with_reducible first | exact HB.out | apply bA_ | apply bN_ | apply bD_ | refine bS_ ?_ GE199.out) | exact HB.out)) hb); clear BK199; clear HB; have HO202 := n0_; have BK199 := n1_; have HB := n2_; clear n0_ n1_ n2_; clear hb ho10; obtain ⟨Ao11, co11, eo11⟩ := Kd.R_slice HO202.out; subst eo11) | ((with_reducible refine gate_callee (f := 76) rfl ?_); refine goesL_ (some 14) rfl rfl Try.func76 (by kernel_rfl) rfl #[.agg #[.slice A0_0 l0_0.length c0_0], .slice Ao11 y200.length co11] rfl (by (try simp only [List.map_toArray, List.map_cons, List.map_nil]); first | done | rfl | (simp only [List.length_drop, List.length_take]; rfl)) ?_; (with_reducible refine (impl_has.calls _ _ l0_0 _ _ y200 true _ ?side1 ?side2 ?side3 ?side4 A6.out).mono ?_); (case side1 => repeat (first | exact (Kd.C_below HR0_0.out HB.out) | (with_reducible refine Kd.C_alloc ?_ _) | (with_reducible refine Kd.C_drewN ?_ _) | (with_reducible refine Kd.C_drew ?_))); (case side2 => exact HC0_0.out); (case side3 => repeat (first | exact (Kd.R_reads' HO202.out).2.2 | (with_reducible refine Kd.C_alloc ?_ _) | (with_reducible refine Kd.C_drewN ?_ _) | (with_reducible refine Kd.C_drew ?_))); (case side4 => exact (Kd.R_reads' HO202.out).2.1); rintro e w12 ⟨rfl, hb⟩; refine ⟨_, rfl, ?_⟩; have n0_ := Aside0.mk (Kd.R_below (by (with_reducible repeat (first | apply Kd.R_alloc | apply Kd.R_drewN | apply Kd.R_drew)); exact HO202.out) hb); have n1_ := Aside0.mk (blk_below (g := gb199) (o := .cells #[.slice A0_0 l0_0.length c0_0] 30 (0, 0)) (by (with_reducible repeat (first | refine kN_ ?_ _ | refine kD_ ?_ | refine kA_ ?_ _)); exact BK199.out) hb); have n2_ := Aside0.mk (bP_ (by repeat (first | (with_reducible first | exact HB.out | apply bA_ | apply bN_ | apply bD_ | refine bS_ ?_ GE199.out) | exact HB.out)) hb); clear HO202; clear BK199; clear HB; have HO202 := n0_; have BK199 := n1_; have HB := n2_; clear n0_ n1_ n2_; (try clear hb); (try clear hb2); (try clear hk); (try clear hi)))
   go_meet
   case rel => exact ⟨_, ((a1 == a2)), (by first | rfl | (simp; done) | (simp [*]; done)), H', ⟨by first | omega | exact Nat.le_refl _⟩, ⟨by (with_reducible repeat (first | refine kN_ ?_ _ | refine kD_ ?_ | refine kA_ ?_ _)); exact BK199.out⟩, ⟨by repeat (first | (with_reducible first | exact HB.out | apply bA_ | apply bN_ | apply bD_ | refine bS_ ?_ GE199.out) | exact HB.out)⟩⟩
  ·replace c7 := Bool.eq_false_iff.mpr c7
   subst c7
   have H1 : (impl_canEnd.j0 k a1 a2 true l0_0) = some r := by rw [if_neg (show ¬ (false = true) by decide)] at H; exact H
   clear H
   have H := H1
   clear H1
   have H' := Aside0.mk H
   clear H
   have hcz13_0 : w5.cell? ⟨gb199, 0, none⟩ = some (.slice A0_0 l0_0.length c0_0) := (blk_cell BK199.out 0).trans rfl
   have hfz13_0 := kF_ BK199.out 0
   go_wp2_with (first | ((with_reducible refine gate_dst (N := 13) rfl ?_); (try (refine gate_guard (by rfl) ?_; dsimp only)); refine Kd.R_lit (Kd.int .i64) _ 3 ?hg (N := 13) ?hd (xs := ([a1, a2] : List Int)) (inner := [.int .i64 a1, .int .i64 a2]) (ok := fun _ => True) (okp := fun _ => True) ?hr ?hp (fun _ hk => hk) trivial (Below.refl _ _) (Nat.le_refl _) (by simp) ?_; (case hd => rfl); (case hg => rfl); (case hr => first | (go_simp; done) | (go_simp; rfl)); (case hp => exact (Reps.one (show Kd.M (Kd.int .i64) _ _ _ a1 [.int .i64 a1] from rfl) (Reps.one (show Kd.M (Kd.int .i64) _ _ _ a2 [.int .i64 a2] from rfl) (Reps.none _ _)))); intro v201 w14 ho15 hb hg_ hnew_; clear hg_ hnew_; (first | rw [← Ny200.out] at ho15 | (simp only [Int.reduceToNat] at ho15; rw [← Ny200.out] at ho15)); have n0_ := Aside0.mk (Kd.R_lower ho15 (bZ_ (by repeat (first | (with_reducible first | exact HB.out | apply bA_ | apply bN_ | apply bD_ | refine bS_ ?_ GE199.out) | exact HB.out)))); have n1_ := Aside0.mk (blk_below (g := gb199) (o := .cells #[.slice A0_0 l0_0.length c0_0] 30 (0, 0)) (by (with_reducible repeat (first | refine kN_ ?_ _ | refine kD_ ?_ | refine kA_ ?_ _)); exact BK199.out) hb); have n2_ := Aside0.mk (bP_ (by repeat (first | (with_reducible first | exact HB.out | apply bA_ | apply bN_ | apply bD_ | refine bS_ ?_ GE199.out) | exact HB.out)) hb); clear BK199; clear HB; have HO202 := n0_; have BK199 := n1_; have HB := n2_; clear n0_ n1_ n2_; clear hb ho15; obtain ⟨Ao16, co16, eo16⟩ := Kd.R_slice HO202.out; subst eo16) | ((with_reducible refine gate_callee (f := 76) rfl ?_); refine goesL_ (some 14) rfl rfl Try.func76 (by kernel_rfl) rfl #[.agg #[.slice A0_0 l0_0.length c0_0], .slice Ao16 y200.length co16] rfl (by (try simp only [List.map_toArray, List.map_cons, List.map_nil]); first | done | rfl | (simp only [List.length_drop, List.length_take]; rfl)) ?_; (with_reducible refine (impl_has.calls _ _ l0_0 _ _ y200 false _ ?side1 ?side2 ?side3 ?side4 A6.out).mono ?_); (case side1 => repeat (first | exact (Kd.C_below HR0_0.out HB.out) | (with_reducible refine Kd.C_alloc ?_ _) | (with_reducible refine Kd.C_drewN ?_ _) | (with_reducible refine Kd.C_drew ?_))); (case side2 => exact HC0_0.out); (case side3 => repeat (first | exact (Kd.R_reads' HO202.out).2.2 | (with_reducible refine Kd.C_alloc ?_ _) | (with_reducible refine Kd.C_drewN ?_ _) | (with_reducible refine Kd.C_drew ?_))); (case side4 => exact (Kd.R_reads' HO202.out).2.1); rintro e w17 ⟨rfl, hb⟩; refine ⟨_, rfl, ?_⟩; have n0_ := Aside0.mk (Kd.R_below (by (with_reducible repeat (first | apply Kd.R_alloc | apply Kd.R_drewN | apply Kd.R_drew)); exact HO202.out) hb); have n1_ := Aside0.mk (blk_below (g := gb199) (o := .cells #[.slice A0_0 l0_0.length c0_0] 30 (0, 0)) (by (with_reducible repeat (first | refine kN_ ?_ _ | refine kD_ ?_ | refine kA_ ?_ _)); exact BK199.out) hb); have n2_ := Aside0.mk (bP_ (by repeat (first | (with_reducible first | exact HB.out | apply bA_ | apply bN_ | apply bD_ | refine bS_ ?_ GE199.out) | exact HB.out)) hb); clear HO202; clear BK199; clear HB; have HO202 := n0_; have BK199 := n1_; have HB := n2_; clear n0_ n1_ n2_; (try clear hb); (try clear hb2); (try clear hk); (try clear hi)))
   go_meet
   case rel => exact ⟨_, (true), (by first | rfl | (simp; done) | (simp [*]; done)), H', ⟨by first | omega | exact Nat.le_refl _⟩, ⟨by (with_reducible repeat (first | refine kN_ ?_ _ | refine kD_ ?_ | refine kA_ ?_ _)); exact BK199.out⟩, ⟨by repeat (first | (with_reducible first | exact HB.out | apply bA_ | apply bN_ | apply bD_ | refine bS_ ?_ GE199.out) | exact HB.out)⟩⟩
 case rest =>
  clear HC4
  try clear p2
  try clear c7
  try clear c8
  try clear hcz13_0
  try clear hcz8_0
  try clear hfz13_0
  try clear hfz8_0
  obtain ⟨kq, x20_3, rfl, HA, HJ3, BK199, HB⟩ := hcut
  cases kq with
  | zero => exact absurd HA.out (by simp [impl_canEnd.j0])
  | succ kj3 =>
   have H := HA.out
   clear HA
   simp only [impl_canEnd.j0] at H
   by_cases c18 : x20_3 = true
   ·subst c18
    have H1 : (some false) = some r := by rw [if_pos rfl] at H; exact H
    clear H
    have H := H1
    clear H1
    obtain rfl := Option.some.inj H
    go_wp2
    go_ret
    exact ⟨by first | rfl | (simp [errW_none, errW_some] <;> rfl) | (simp [*, errW_none, errW_some] <;> rfl), by repeat (first | (with_reducible first | exact HB.out | apply bA_ | apply bN_ | apply bD_ | refine bS_ ?_ GE199.out) | exact HB.out)⟩
   ·replace c18 := Bool.eq_false_iff.mpr c18
    subst c18
    have H1 : (impl_canEnd.l0 kj3 a1 a2 l0_0 (l0_0.length : Int) 0 l0_0) = some r := by rw [if_neg (show ¬ (false = true) by decide)] at H; exact H
    clear H
    have H := H1
    clear H1
    have H' := Aside0.mk H
    clear H
    have hcz19_0 : wc.cell? ⟨gb199, 0, none⟩ = some (.slice A0_0 l0_0.length c0_0) := (blk_cell BK199.out 0).trans rfl
    have hfz19_0 := kF_ BK199.out 0
    go_wp2
    go_loopg [24] kj3 (fun kq v24 w' => ∃ (x24_2 : Int), v24 = .int .i64 x24_2 ∧ Aside0 (impl_canEnd.l0 kq a1 a2 l0_0 (l0_0.length : Int) x24_2 l0_0 = some r) ∧ Aside0 (kq ≤ kj3) ∧ Aside0 (w'.heap[gb199]? = some (.cells #[(.slice A0_0 l0_0.length c0_0)] 30 (0, 0))) ∧ Aside0 (Below w.heap.size w w'))
    case atStart => exact ⟨(0), (by first | rfl | (simp; done) | (simp [*]; done)), H', ⟨Nat.le_refl _⟩, ⟨by (with_reducible repeat (first | refine kN_ ?_ _ | refine kD_ ?_ | refine kA_ ?_ _)); exact BK199.out⟩, ⟨by repeat (first | (with_reducible first | exact HB.out | apply bA_ | apply bN_ | apply bD_ | refine bS_ ?_ GE199.out) | exact HB.out)⟩⟩
    case round =>
     clear H'
     try clear c1
     try clear p2
     try clear c7
     try clear c8
     try clear c18
     try clear hcz13_0
     try clear hcz19_0
     try clear hcz8_0
     try clear hfz13_0
     try clear hfz19_0
     try clear hfz8_0
     try clear p2
     obtain ⟨x24_2, rfl, HA, HK2, BK199, HB⟩ := hrel
     cases gk with
     | zero => exact absurd HA.out (by simp [impl_canEnd.l0])
     | succ k2 =>
      have H := HA.out
      clear HA
      simp only [impl_canEnd.l0] at H
      by_cases c20 : x24_2 < (l0_0.length : Int)
      ·rw [if_pos c20] at H
       have c20b0 : decide (x24_2 < (l0_0.length : Int)) = true := decide_eq_true c20
       clear c20
       by_cases c21 : 0 ≤ x24_2
       ·rw [if_pos c21] at H
        have c21b0 : decide (0 ≤ x24_2) = true := decide_eq_true c21
        clear c21
        by_cases c22 : x24_2 < (l0_0.length : Int)
        ·rw [if_pos c22] at H
         have c22b0 : decide (x24_2 < (l0_0.length : Int)) = true := decide_eq_true c22
         clear c22
         replace H := Option.bind_eq_some_iff.mp H
         obtain ⟨t205, A230, H⟩ := H
         replace H : (if 0 ≤ a1 then (if a1 < (t205.length : Int) then (if (rd t205 a1) < 0 then (if 0 ≤ a2 then (if a2 < (t205.length : Int) then (if (rd t205 a2) < 0 then (some false) else (if x24_2 = a1 then (impl_canEnd.l0 k2 a1 a2 l0_0 (l0_0.length : Int) (wrap64 (x24_2 + 1)) l0_0) else (if x24_2 = a2 then (impl_canEnd.l0 k2 a1 a2 l0_0 (l0_0.length : Int) (wrap64 (x24_2 + 1)) l0_0) else (if ((rd_L1 l0_0 x24_2).length : Int) = 0 then (some false) else (impl_canEnd.l0 k2 a1 a2 l0_0 (l0_0.length : Int) (wrap64 (x24_2 + 1)) l0_0))))) else (none)) else (none)) else (if x24_2 = a1 then (impl_canEnd.l0 k2 a1 a2 l0_0 (l0_0.length : Int) (wrap64 (x24_2 + 1)) l0_0) else (if x24_2 = a2 then (impl_canEnd.l0 k2 a1 a2 l0_0 (l0_0.length : Int) (wrap64 (x24_2 + 1)) l0_0) else (if ((rd_L1 l0_0 x24_2).length : Int) = 0 then (some false) else (impl_canEnd.l0 k2 a1 a2 l0_0 (l0_0.length : Int) (wrap64 (x24_2 + 1)) l0_0))))) else (none)) else (none)) = some r := H
         have A23 := Aside0.mk A230
         clear A230
         by_cases c24 : 0 ≤ a1
         ·rw [if_pos c24] at H
          have c24b0 : decide (0 ≤ a1) = true := decide_eq_true c24
          clear c24
          by_cases c25 : a1 < (t205.length : Int)
          ·rw [if_pos c25] at H
           have c25b0 : decide (a1 < (t205.length : Int)) = true := decide_eq_true c25
           clear c25
           by_cases c26 : (rd t205 a1) < 0
           ·rw [if_pos c26] at H
            have c26b0 : decide ((rd t205 a1) < 0) = true := decide_eq_true c26
            clear c26
            by_cases c27 : 0 ≤ a2
            ·rw [if_pos c27] at H
             have c27b0 : decide (0 ≤ a2) = true := decide_eq_true c27
             clear c27
             by_cases c28 : a2 < (t205.length : Int)
             ·rw [if_pos c28] at H
              have c28b0 : decide (a2 < (t205.length : Int)) = true := decide_eq_true c28
              clear c28
              by_cases c29 : (rd t205 a2) < 0
              ·rw [if_pos c29] at H
               have c29b0 : decide ((rd t205 a2) < 0) = true := decide_eq_true c29
               clear c29
               obtain rfl := Option.some.inj H
               have p204 : 0 ≤ (x24_2 : Int) := of_decide_eq_true (by first | (with_reducible assumption) | assumption)
               have q204 : x24_2 < (l0_0.length : Int) := of_decide_eq_true (by first | (with_reducible assumption) | assumption)
               obtain ⟨ad204, A204_0, c204_0, e204, hx204_0, hl204_0, hi204_0⟩ := at_L1 HR0_0.out x24_2 p204 q204
               cases e204
               replace hx204_0 := (HB.out.cell (World.block_lt_of_cell? w _ hx204_0)).trans hx204_0
               have HR204_0 := Aside0.mk hi204_0
               have HC204_0 := Aside0.mk hl204_0
               clear hi204_0 hl204_0
               replace p204 := eq_true p204
               replace q204 := eq_true q204
               have hcz30_0 : wr.cell? ⟨gb199, 0, none⟩ = some (.slice (some ad204) l0_0.length c0_0) := (blk_cell BK199.out 0).trans rfl
               have hfz30_0 := kF_ BK199.out 0
               go_wp2_with (first | ((with_reducible refine gate_callee (f := 112) rfl ?_); refine goesL_ (some 31) rfl rfl Try.func112 (by kernel_rfl) rfl #[.agg #[.slice (some ad204) l0_0.length c0_0], .int .i64 x24_2] rfl (by (try simp only [List.map_toArray, List.map_cons, List.map_nil]); first | done | rfl | (simp only [List.length_drop, List.length_take]; rfl)) ?_; (with_reducible refine (impl_Graph_lengths.calls k2 _ _ l0_0 x24_2 t205 _ ?side1 ?side2 A23.out).mono ?_); (case side1 => repeat (first | exact (Kd.C_below HR0_0.out HB.out) | (with_reducible refine Kd.C_alloc ?_ _) | (with_reducible refine Kd.C_drewN ?_ _) | (with_reducible refine Kd.C_drew ?_))); (case side2 => exact HC0_0.out); rintro e w31 ⟨v206, rfl, ho0, hb⟩; refine ⟨_, rfl, ?_⟩; have n0_ := Aside0.mk (Kd.R_lower ho0 (bZ_ (by repeat (first | (with_reducible first | exact HB.out | apply bA_ | apply bN_ | apply bD_ | refine bS_ ?_ GE199.out) | exact HB.out)))); have n1_ := Aside0.mk (blk_below (g := gb199) (o := .cells #[.slice (some ad204) l0_0.length c0_0] 30 (0, 0)) (by (with_reducible repeat (first | refine kN_ ?_ _ | refine kD_ ?_ | refine kA_ ?_ _)); exact BK199.out) hb); have n2_ := Aside0.mk (bP_ (by repeat (first | (with_reducible first | exact HB.out | apply bA_ | apply bN_ | apply bD_ | refine bS_ ?_ GE199.out) | exact HB.out)) hb); clear BK199; clear HB; have HO207 := n0_; have BK199 := n1_; have HB := n2_; clear n0_ n1_ n2_; (try clear hb); (try clear hb2); (try clear hk); (try clear hi); (try clear ho0); obtain ⟨Ao32, co32, eo32⟩ := Kd.R_slice HO207.out; subst eo32; have p208 : 0 ≤ (a1 : Int) := of_decide_eq_true (by first | (with_reducible assumption) | assumption); have q208 : a1 < (t205.length : Int) := of_decide_eq_true (by first | (with_reducible assumption) | assumption); obtain ⟨ad208, e208, hx208_0⟩ := Kd.at_int (Kd.R_reads' HO207.out).2.2 a1 p208 q208; cases e208; replace p208 := eq_true p208; replace q208 := eq_true q208; have p209 : 0 ≤ (a2 : Int) := of_decide_eq_true (by first | (with_reducible assumption) | assumption); have q209 : a2 < (t205.length : Int) := of_decide_eq_true (by first | (with_reducible assumption) | assumption); obtain ⟨ad209, e209, hx209_0⟩ := Kd.at_int (Kd.R_reads' HO207.out).2.2 a2 p209 q209; obtain rfl : ad208 = ad209 := (by injection e209); replace p209 := eq_true p209; replace q209 := eq_true q209))
               go_ret
               exact ⟨by first | rfl | (simp [errW_none, errW_some] <;> rfl) | (simp [*, errW_none, errW_some] <;> rfl), by repeat (first | (with_reducible first | exact HB.out | apply bA_ | apply bN_ | apply bD_ | refine bS_ ?_ GE199.out) | exact HB.out)⟩
              ·rw [if_neg c29] at H
               have c29b0 : decide ((rd t205 a2) < 0) = false := decide_eq_false c29
               clear c29
               by_cases c33 : x24_2 = a1
               ·rw [if_pos c33] at H
                have c33b0 : (x24_2 == a1) = true := beq_iff_eq.mpr c33
                have c33b1 : (x24_2 != a1) = false := bne_eq_false_iff_eq.mpr c33
                clear c33
                have H' := Aside0.mk H
                clear H
                have p204 : 0 ≤ (x24_2 : Int) := of_decide_eq_true (by first | (with_reducible assumption) | assumption)
                have q204 : x24_2 < (l0_0.length : Int) := of_decide_eq_true (by first | (with_reducible assumption) | assumption)
                obtain ⟨ad204, A204_0, c204_0, e204, hx204_0, hl204_0, hi204_0⟩ := at_L1 HR0_0.out x24_2 p204 q204
                cases e204
                replace hx204_0 := (HB.out.cell (World.block_lt_of_cell? w _ hx204_0)).trans hx204_0
                have HR204_0 := Aside0.mk hi204_0
                have HC204_0 := Aside0.mk hl204_0
                clear hi204_0 hl204_0
                replace p204 := eq_true p204
                replace q204 := eq_true q204
                have hcz34_0 : wr.cell? ⟨gb199, 0, none⟩ = some (.slice (some ad204) l0_0.length c0_0) := (blk_cell BK199.out 0).trans rfl
                have hfz34_0 := kF_ BK199.out 0
                go_wp2_with (first | ((with_reducible refine gate_callee (f := 112) rfl ?_); refine goesL_ (some 31) rfl rfl Try.func112 (by kernel_rfl) rfl #[.agg #[.slice (some ad204) l0_0.length c0_0], .int .i64 x24_2] rfl (by (try simp only [List.map_toArray, List.map_cons, List.map_nil]); first | done | rfl | (simp only [List.length_drop, List.length_take]; rfl)) ?_; (with_reducible refine (impl_Graph_lengths.calls k2 _ _ l0_0 x24_2 t205 _ ?side1 ?side2 A23.out).mono ?_); (case side1 => repeat (first | exact (Kd.C_below HR0_0.out HB.out) | (with_reducible refine Kd.C_alloc ?_ _) | (with_reducible refine Kd.C_drewN ?_ _) | (with_reducible refine Kd.C_drew ?_))); (case side2 => exact HC0_0.out); rintro e w35 ⟨v206, rfl, ho0, hb⟩; refine ⟨_, rfl, ?_⟩; have n0_ := Aside0.mk (Kd.R_lower ho0 (bZ_ (by repeat (first | (with_reducible first | exact HB.out | apply bA_ | apply bN_ | apply bD_ | refine bS_ ?_ GE199.out) | exact HB.out)))); have n1_ := Aside0.mk (blk_below (g := gb199) (o := .cells #[.slice (some ad204) l0_0.length c0_0] 30 (0, 0)) (by (with_reducible repeat (first | refine kN_ ?_ _ | refine kD_ ?_ | refine kA_ ?_ _)); exact BK199.out) hb); have n2_ := Aside0.mk (bP_ (by repeat (first | (with_reducible first | exact HB.out | apply bA_ | apply bN_ | apply bD_ | refine bS_ ?_ GE199.out) | exact HB.out)) hb); clear BK199; clear HB; have HO207 := n0_; have BK199 := n1_; have HB := n2_; clear n0_ n1_ n2_; (try clear hb); (try clear hb2); (try clear hk); (try clear hi); (try clear ho0); obtain ⟨Ao36, co36, eo36⟩ := Kd.R_slice HO207.out; subst eo36; have p208 : 0 ≤ (a1 : Int) := of_decide_eq_true (by first | (with_reducible assumption) | assumption); have q208 : a1 < (t205.length : Int) := of_decide_eq_true (by first | (with_reducible assumption) | assumption); obtain ⟨ad208, e208, hx208_0⟩ := Kd.at_int (Kd.R_reads' HO207.out).2.2 a1 p208 q208; cases e208; replace p208 := eq_true p208; replace q208 := eq_true q208; have p209 : 0 ≤ (a2 : Int) := of_decide_eq_true (by first | (with_reducible assumption) | assumption); have q209 : a2 < (t205.length : Int) := of_decide_eq_true (by first | (with_reducible assumption) | assumption); obtain ⟨ad209, e209, hx209_0⟩ := Kd.at_int (Kd.R_reads' HO207.out).2.2 a2 p209 q209; obtain rfl : ad208 = ad209 := (by injection e209); replace p209 := eq_true p209; replace q209 := eq_true q209))
                go_roundg k2
                case measure => have := HJ3.out; have := HK2.out; omega
                case rel => exact ⟨(wrap64 (x24_2 + 1)), (by first | rfl | (simp; done) | (simp [*]; done)), H', ⟨by have := HJ3.out; have := HK2.out; omega⟩, ⟨by (with_reducible repeat (first | refine kN_ ?_ _ | refine kD_ ?_ | refine kA_ ?_ _)); exact BK199.out⟩, ⟨by repeat (first | (with_reducible first | exact HB.out | apply bA_ | apply bN_ | apply bD_ | refine bS_ ?_ GE199.out) | exact HB.out)⟩⟩
               ·rw [if_neg c33] at H
                have c33b0 : (x24_2 == a1) = false := beq_eq_false_iff_ne.mpr c33
                have c33b1 : (x24_2 != a1) = true := bne_iff_ne.mpr c33
                by_cases c37 : x24_2 = a2
                ·rw [if_pos c37] at H
                 have c37b0 : (x24_2 == a2) = true := beq_iff_eq.mpr c37
                 have c37b1 : (x24_2 != a2) = false := bne_eq_false_iff_eq.mpr c37
                 clear c37
                 have H' := Aside0.mk H
                 clear H
                 have p204 : 0 ≤ (x24_2 : Int) := of_decide_eq_true (by first | (with_reducible assumption) | assumption)
                 have q204 : x24_2 < (l0_0.length : Int) := of_decide_eq_true (by first | (with_reducible assumption) | assumption)
                 obtain ⟨ad204, A204_0, c204_0, e204, hx204_0, hl204_0, hi204_0⟩ := at_L1 HR0_0.out x24_2 p204 q204
                 cases e204
                 replace hx204_0 := (HB.out.cell (World.block_lt_of_cell? w _ hx204_0)).trans hx204_0
                 have HR204_0 := Aside0.mk hi204_0
                 have HC204_0 := Aside0.mk hl204_0
                 clear hi204_0 hl204_0
                 replace p204 := eq_true p204
                 replace q204 := eq_true q204
                 have hcz38_0 : wr.cell? ⟨gb199, 0, none⟩ = some (.slice (some ad204) l0_0.length c0_0) := (blk_cell BK199.out 0).trans rfl
                 have hfz38_0 := kF_ BK199.out 0
                 go_wp2_with (first | ((with_reducible refine gate_callee (f := 112) rfl ?_); refine goesL_ (some 31) rfl rfl Try.func112 (by kernel_rfl) rfl #[.agg #[.slice (some ad204) l0_0.length c0_0], .int .i64 x24_2] rfl (by (try simp only [List.map_toArray, List.map_cons, List.map_nil]); first | done | rfl | (simp only [List.length_drop, List.length_take]; rfl)) ?_; (with_reducible refine (impl_Graph_lengths.calls k2 _ _ l0_0 x24_2 t205 _ ?side1 ?side2 A23.out).mono ?_); (case side1 => repeat (first | exact (Kd.C_below HR0_0.out HB.out) | (with_reducible refine Kd.C_alloc ?_ _) | (with_reducible refine Kd.C_drewN ?_ _) | (with_reducible refine Kd.C_drew ?_))); (case side2 => exact HC0_0.out); rintro e w39 ⟨v206, rfl, ho0, hb⟩; refine ⟨_, rfl, ?_⟩; have n0_ := Aside0.mk (Kd.R_lower ho0 (bZ_ (by repeat (first | (with_reducible first | exact HB.out | apply bA_ | apply bN_ | apply bD_ | refine bS_ ?_ GE199.out) | exact HB.out)))); have n1_ := Aside0.mk (blk_below (g := gb199) (o := .cells #[.slice (some ad204) l0_0.length c0_0] 30 (0, 0)) (by (with_reducible repeat (first | refine kN_ ?_ _ | refine kD_ ?_ | refine kA_ ?_ _)); exact BK199.out) hb); have n2_ := Aside0.mk (bP_ (by repeat (first | (with_reducible first | exact HB.out | apply bA_ | apply bN_ | apply bD_ | refine bS_ ?_ GE199.out) | exact HB.out)) hb); clear BK199; clear HB; have HO207 := n0_; have BK199 := n1_; have HB := n2_; clear n0_ n1_ n2_; (try clear hb); (try clear hb2); (try clear hk); (try clear hi); (try clear ho0); obtain ⟨Ao40, co40, eo40⟩ := Kd.R_slice HO207.out; subst eo40; have p208 : 0 ≤ (a1 : Int) := of_decide_eq_true (by first | (with_reducible assumption) | assumption); have q208 : a1 < (t205.length : Int) := of_decide_eq_true (by first | (with_reducible assumption) | assumption); obtain ⟨ad208, e208, hx208_0⟩ := Kd.at_int (Kd.R_reads' HO207.out).2.2 a1 p208 q208; cases e208; replace p208 := eq_true p208; replace q208 := eq_true q208; have p209 : 0 ≤ (a2 : Int) := of_decide_eq_true (by first | (with_reducible assumption) | assumption); have q209 : a2 < (t205.length : Int) := of_decide_eq_true (by first | (with_reducible assumption) | assumption); obtain ⟨ad209, e209, hx209_0⟩ := Kd.at_int (Kd.R_reads' HO207.out).2.2 a2 p209 q209; obtain rfl : ad208 = ad209 := (by injection e209); replace p209 := eq_true p209; replace q209 := eq_true q209))
                 go_roundg k2
                 case measure => have := HJ3.out; have := HK2.out; omega
                 case rel => exact ⟨(wrap64 (x24_2 + 1)), (by first | rfl | (simp; done) | (simp [*]; done)), H', ⟨by have := HJ3.out; have := HK2.out; omega⟩, ⟨by (with_reducible repeat (first | refine kN_ ?_ _ | refine kD_ ?_ | refine kA_ ?_ _)); exact BK199.out⟩, ⟨by repeat (first | (with_reducible first | exact HB.out | apply bA_ | apply bN_ | apply bD_ | refine bS_ ?_ GE199.out) | exact HB.out)⟩⟩
                ·rw [if_neg c37] at H
                 have c37b0 : (x24_2 == a2) = false := beq_eq_false_iff_ne.mpr c37
                 have c37b1 : (x24_2 != a2) = true := bne_iff_ne.mpr c37
                 by_cases c41 : ((rd_L1 l0_0 x24_2).length : Int) = 0
                 ·rw [if_pos c41] at H
                  have c41b0 : (((rd_L1 l0_0 x24_2).length : Int) == 0) = true := beq_iff_eq.mpr c41
                  have c41b1 : (((rd_L1 l0_0 x24_2).length : Int) != 0) = false := bne_eq_false_iff_eq.mpr c41
                  clear c41
                  obtain rfl := Option.some.inj H
                  have p204 : 0 ≤ (x24_2 : Int) := of_decide_eq_true (by first | (with_reducible assumption) | assumption)
                  have q204 : x24_2 < (l0_0.length : Int) := of_decide_eq_true (by first | (with_reducible assumption) | assumption)
                  obtain ⟨ad204, A204_0, c204_0, e204, hx204_0, hl204_0, hi204_0⟩ := at_L1 HR0_0.out x24_2 p204 q204
                  cases e204
                  replace hx204_0 := (HB.out.cell (World.block_lt_of_cell? w _ hx204_0)).trans hx204_0
                  have HR204_0 := Aside0.mk hi204_0
                  have HC204_0 := Aside0.mk hl204_0
                  clear hi204_0 hl204_0
                  replace p204 := eq_true p204
                  replace q204 := eq_true q204
                  have hcz42_0 : wr.cell? ⟨gb199, 0, none⟩ = some (.slice (some ad204) l0_0.length c0_0) := (blk_cell BK199.out 0).trans rfl
                  have hfz42_0 := kF_ BK199.out 0
                  go_wp2_with (first | ((with_reducible refine gate_callee (f := 112) rfl ?_); refine goesL_ (some 31) rfl rfl Try.func112 (by kernel_rfl) rfl #[.agg #[.slice (some ad204) l0_0.length c0_0], .int .i64 x24_2] rfl (by (try simp only [List.map_toArray, List.map_cons, List.map_nil]); first | done | rfl | (simp only [List.length_drop, List.length_take]; rfl)) ?_; (with_reducible refine (impl_Graph_lengths.calls k2 _ _ l0_0 x24_2 t205 _ ?side1 ?side2 A23.out).mono ?_); (case side1 => repeat (first | exact (Kd.C_below HR0_0.out HB.out) | (with_reducible refine Kd.C_alloc ?_ _) | (with_reducible refine Kd.C_drewN ?_ _) | (with_reducible refine Kd.C_drew ?_))); (case side2 => exact HC0_0.out); rintro e w43 ⟨v206, rfl, ho0, hb⟩; refine ⟨_, rfl, ?_⟩; have n0_ := Aside0.mk (Kd.R_lower ho0 (bZ_ (by repeat (first | (with_reducible first | exact HB.out | apply bA_ | apply bN_ | apply bD_ | refine bS_ ?_ GE199.out) | exact HB.out)))); have n1_ := Aside0.mk (blk_below (g := gb199) (o := .cells #[.slice (some ad204) l0_0.length c0_0] 30 (0, 0)) (by (with_reducible repeat (first | refine kN_ ?_ _ | refine kD_ ?_ | refine kA_ ?_ _)); exact BK199.out) hb); have n2_ := Aside0.mk (bP_ (by repeat (first | (with_reducible first | exact HB.out | apply bA_ | apply bN_ | apply bD_ | refine bS_ ?_ GE199.out) | exact HB.out)) hb); clear BK199; clear HB; have HO207 := n0_; have BK199 := n1_; have HB := n2_; clear n0_ n1_ n2_; (try clear hb); (try clear hb2); (try clear hk); (try clear hi); (try clear ho0); obtain ⟨Ao44, co44, eo44⟩ := Kd.R_slice HO207.out; subst eo44; have p208 : 0 ≤ (a1 : Int) := of_decide_eq_true (by first | (with_reducible assumption) | assumption); have q208 : a1 < (t205.length : Int) := of_decide_eq_true (by first | (with_reducible assumption) | assumption); obtain ⟨ad208, e208, hx208_0⟩ := Kd.at_int (Kd.R_reads' HO207.out).2.2 a1 p208 q208; cases e208; replace p208 := eq_true p208; replace q208 := eq_true q208; have p209 : 0 ≤ (a2 : Int) := of_decide_eq_true (by first | (with_reducible assumption) | assumption); have q209 : a2 < (t205.length : Int) := of_decide_eq_true (by first | (with_reducible assumption) | assumption); obtain ⟨ad209, e209, hx209_0⟩ := Kd.at_int (Kd.R_reads' HO207.out).2.2 a2 p209 q209; obtain rfl : ad208 = ad209 := (by injection e209); replace p209 := eq_true p209; replace q209 := eq_true q209))
                  go_ret
                  exact ⟨by first | rfl | (simp [errW_none, errW_some] <;> rfl) | (simp [*, errW_none, errW_some] <;> rfl), by repeat (first | (with_reducible first | exact HB.out | apply bA_ | apply bN_ | apply bD_ | refine bS_ ?_ GE199.out) | exact HB.out)⟩
                 ·rw [if_neg c41] at H
                  have c41b0 : (((rd_L1 l0_0 x24_2).length : Int) == 0) = false := beq_eq_false_iff_ne.mpr c41
                  have c41b1 : (((rd_L1 l0_0 x24_2).length : Int) != 0) = true := bne_iff_ne.mpr c41
                  have c41b2 : ¬ ((rd_L1 l0_0 x24_2) = []) := fun h_ => c41 (by rw [h_]; rfl)
                  have H' := Aside0.mk H
                  clear H
                  have p204 : 0 ≤ (x24_2 : Int) := of_decide_eq_true (by first | (with_reducible assumption) | assumption)
                  have q204 : x24_2 < (l0_0.length : Int) := of_decide_eq_true (by first | (with_reducible assumption) | assumption)
                  obtain ⟨ad204, A204_0, c204_0, e204, hx204_0, hl204_0, hi204_0⟩ := at_L1 HR0_0.out x24_2 p204 q204
                  cases e204
                  replace hx204_0 := (HB.out.cell (World.block_lt_of_cell? w _ hx204_0)).trans hx204_0
                  have HR204_0 := Aside0.mk hi204_0
                  have HC204_0 := Aside0.mk hl204_0
                  clear hi204_0 hl204_0
                  replace p204 := eq_true p204
                  replace q204 := eq_true q204
                  have hcz45_0 : wr.cell? ⟨gb199, 0, none⟩ = some (.slice (some ad204) l0_0.length c0_0) := (blk_cell BK199.out 0).trans rfl
                  have hfz45_0 := kF_ BK199.out 0
                  go_wp2_with (first | ((with_reducible refine gate_callee (f := 112) rfl ?_); refine goesL_ (some 31) rfl rfl Try.func112 (by kernel_rfl) rfl #[.agg #[.slice (some ad204) l0_0.length c0_0], .int .i64 x24_2] rfl (by (try simp only [List.map_toArray, List.map_cons, List.map_nil]); first | done | rfl | (simp only [List.length_drop, List.length_take]; rfl)) ?_; (with_reducible refine (impl_Graph_lengths.calls k2 _ _ l0_0 x24_2 t205 _ ?side1 ?side2 A23.out).mono ?_); (case side1 => repeat (first | exact (Kd.C_below HR0_0.out HB.out) | (with_reducible refine Kd.C_alloc ?_ _) | (with_reducible refine Kd.C_drewN ?_ _) | (with_reducible refine Kd.C_drew ?_))); (case side2 => exact HC0_0.out); rintro e w46 ⟨v206, rfl, ho0, hb⟩; refine ⟨_, rfl, ?_⟩; have n0_ := Aside0.mk (Kd.R_lower ho0 (bZ_ (by repeat (first | (with_reducible first | exact HB.out | apply bA_ | apply bN_ | apply bD_ | refine bS_ ?_ GE199.out) | exact HB.out)))); have n1_ := Aside0.mk (blk_below (g := gb199) (o := .cells #[.slice (some ad204) l0_0.length c0_0] 30 (0, 0)) (by (with_reducible repeat (first | refine kN_ ?_ _ | refine kD_ ?_ | refine kA_ ?_ _)); exact BK199.out) hb); have n2_ := Aside0.mk (bP_ (by repeat (first | (with_reducible first | exact HB.out | apply bA_ | apply bN_ | apply bD_ | refine bS_ ?_ GE199.out) | exact HB.out)) hb); clear BK199; clear HB; have HO207 := n0_; have BK199 := n1_; have HB := n2_; clear n0_ n1_ n2_; (try clear hb); (try clear hb2); (try clear hk); (try clear hi); (try clear ho0); obtain ⟨Ao47, co47, eo47⟩ := Kd.R_slice HO207.out; subst eo47; have p208 : 0 ≤ (a1 : Int) := of_decide_eq_true (by first | (with_reducible assumption) | assumption); have q208 : a1 < (t205.length : Int) := of_decide_eq_true (by first | (with_reducible assumption) | assumption); obtain ⟨ad208, e208, hx208_0⟩ := Kd.at_int (Kd.R_reads' HO207.out).2.2 a1 p208 q208; cases e208; replace p208 := eq_true p208; replace q208 := eq_true q208; have p209 : 0 ≤ (a2 : Int) := of_decide_eq_true (by first | (with_reducible assumption) | assumption); have q209 : a2 < (t205.length : Int) := of_decide_eq_true (by first | (with_reducible assumption) | assumption); obtain ⟨ad209, e209, hx209_0⟩ := Kd.at_int (Kd.R_reads' HO207.out).2.2 a2 p209 q209; obtain rfl : ad208 = ad209 := (by injection e209); replace p209 := eq_true p209; replace q209 := eq_true q209))
                  go_roundg k2
                  case measure => have := HJ3.out; have := HK2.out; omega
                  case rel => exact ⟨(wrap64 (x24_2 + 1)), (by first | rfl | (simp; done) | (simp [*]; done)), H', ⟨by have := HJ3.out; have := HK2.out; omega⟩, ⟨by (with_reducible repeat (first | refine kN_ ?_ _ | refine kD_ ?_ | refine kA_ ?_ _)); exact BK199.out⟩, ⟨by repeat (first | (with_reducible first | exact HB.out | apply bA_ | apply bN_ | apply bD_ | refine bS_ ?_ GE199.out) | exact HB.out)⟩⟩
             ·rw [if_neg c28] at H
              exact absurd H (by simp)
            ·rw [if_neg c27] at H
             exact absurd H (by simp)
           ·rw [if_neg c26] at H
            have c26b0 : decide ((rd t205 a1) < 0) = false := decide_eq_false c26
            clear c26
            by_cases c48 : x24_2 = a1
            ·rw [if_pos c48] at H
             have c48b0 : (x24_2 == a1) = true := beq_iff_eq.mpr c48
             have c48b1 : (x24_2 != a1) = false := bne_eq_false_iff_eq.mpr c48
             clear c48
             have H' := Aside0.mk H
             clear H
             have p204 : 0 ≤ (x24_2 : Int) := of_decide_eq_true (by first | (with_reducible assumption) | assumption)
             have q204 : x24_2 < (l0_0.length : Int) := of_decide_eq_true (by first | (with_reducible assumption) | assumption)
             obtain ⟨ad204, A204_0, c204_0, e204, hx204_0, hl204_0, hi204_0⟩ := at_L1 HR0_0.out x24_2 p204 q204
             cases e204
             replace hx204_0 := (HB.out.cell (World.block_lt_of_cell? w _ hx204_0)).trans hx204_0
             have HR204_0 := Aside0.mk hi204_0
             have HC204_0 := Aside0.mk hl204_0
             clear hi204_0 hl204_0
             replace p204 := eq_true p204
             replace q204 := eq_true q204
             have hcz49_0 : wr.cell? ⟨gb199, 0, none⟩ = some (.slice (some ad204) l0_0.length c0_0) := (blk_cell BK199.out 0).trans rfl
             have hfz49_0 := kF_ BK199.out 0
             go_wp2_with (first | ((with_reducible refine gate_callee (f := 112) rfl ?_); refine goesL_ (some 31) rfl rfl Try.func112 (by kernel_rfl) rfl #[.agg #[.slice (some ad204) l0_0.length c0_0], .int .i64 x24_2] rfl (by (try simp only [List.map_toArray, List.map_cons, List.map_nil]); first | done | rfl | (simp only [List.length_drop, List.length_take]; rfl)) ?_; (with_reducible refine (impl_Graph_lengths.calls k2 _ _ l0_0 x24_2 t205 _ ?side1 ?side2 A23.out).mono ?_); (case side1 => repeat (first | exact (Kd.C_below HR0_0.out HB.out) | (with_reducible refine Kd.C_alloc ?_ _) | (with_reducible refine Kd.C_drewN ?_ _) | (with_reducible refine Kd.C_drew ?_))); (case side2 => exact HC0_0.out); rintro e w50 ⟨v206, rfl, ho0, hb⟩; refine ⟨_, rfl, ?_⟩; have n0_ := Aside0.mk (Kd.R_lower ho0 (bZ_ (by repeat (first | (with_reducible first | exact HB.out | apply bA_ | apply bN_ | apply bD_ | refine bS_ ?_ GE199.out) | exact HB.out)))); have n1_ := Aside0.mk (blk_below (g := gb199) (o := .cells #[.slice (some ad204) l0_0.length c0_0] 30 (0, 0)) (by (with_reducible repeat (first | refine kN_ ?_ _ | refine kD_ ?_ | refine kA_ ?_ _)); exact BK199.out) hb); have n2_ := Aside0.mk (bP_ (by repeat (first | (with_reducible first | exact HB.out | apply bA_ | apply bN_ | apply bD_ | refine bS_ ?_ GE199.out) | exact HB.out)) hb); clear BK199; clear HB; have HO207 := n0_; have BK199 := n1_; have HB := n2_; clear n0_ n1_ n2_; (try clear hb); (try clear hb2); (try clear hk); (try clear hi); (try clear ho0); obtain ⟨Ao51, co51, eo51⟩ := Kd.R_slice HO207.out; subst eo51; have p208 : 0 ≤ (a1 : Int) := of_decide_eq_true (by first | (with_reducible assumption) | assumption); have q208 : a1 < (t205.length : Int) := of_decide_eq_true (by first | (with_reducible assumption) | assumption); obtain ⟨ad208, e208, hx208_0⟩ := Kd.at_int (Kd.R_reads' HO207.out).2.2 a1 p208 q208; cases e208; replace p208 := eq_true p208; replace q208 := eq_true q208))
             go_roundg k2
             case measure => have := HJ3.out; have := HK2.out; omega
             case rel => exact ⟨(wrap64 (x24_2 + 1)), (by first | rfl | (simp; done) | (simp [*]; done)), H', ⟨by have := HJ3.out; have := HK2.out; omega⟩, ⟨by (with_reducible repeat (first | refine kN_ ?_ _ | refine kD_ ?_ | refine kA_ ?_ _)); exact BK199.out⟩, ⟨by repeat (first | (with_reducible first | exact HB.out | apply bA_ | apply bN_ | apply bD_ | refine bS_ ?_ GE199.out) | exact HB.out)⟩⟩
            ·rw [if_neg c48] at H
             have c48b0 : (x24_2 == a1) = false := beq_eq_false_iff_ne.mpr c48
             have c48b1 : (x24_2 != a1) = true := bne_iff_ne.mpr c48
             by_cases c52 : x24_2 = a2
             ·rw [if_pos c52] at H
              have c52b0 : (x24_2 == a2) = true := beq_iff_eq.mpr c52
              have c52b1 : (x24_2 != a2) = false := bne_eq_false_iff_eq.mpr c52
              clear c52
              have H' := Aside0.mk H
              clear H
              have p204 : 0 ≤ (x24_2 : Int) := of_decide_eq_true (by first | (with_reducible assumption) | assumption)
              have q204 : x24_2 < (l0_0.length : Int) := of_decide_eq_true (by first | (with_reducible assumption) | assumption)
              obtain ⟨ad204, A204_0, c204_0, e204, hx204_0, hl204_0, hi204_0⟩ := at_L1 HR0_0.out x24_2 p204 q204
              cases e204
              replace hx204_0 := (HB.out.cell (World.block_lt_of_cell? w _ hx204_0)).trans hx204_0
              have HR204_0 := Aside0.mk hi204_0
              have HC204_0 := Aside0.mk hl204_0
              clear hi204_0 hl204_0
              replace p204 := eq_true p204
              replace q204 := eq_true q204
              have hcz53_0 : wr.cell? ⟨gb199, 0, none⟩ = some (.slice (some ad204) l0_0.length c0_0) := (blk_cell BK199.out 0).trans rfl
              have hfz53_0 := kF_ BK199.out 0
              go_wp2_with (first | ((with_reducible refine gate_callee (f := 112) rfl ?_); refine goesL_ (some 31) rfl rfl Try.func112 (by kernel_rfl) rfl #[.agg #[.slice (some ad204) l0_0.length c0_0], .int .i64 x24_2] rfl (by (try simp only [List.map_toArray, List.map_cons, List.map_nil]); first | done | rfl | (simp only [List.length_drop, List.length_take]; rfl)) ?_; (with_reducible refine (impl_Graph_lengths.calls k2 _ _ l0_0 x24_2 t205 _ ?side1 ?side2 A23.out).mono ?_); (case side1 => repeat (first | exact (Kd.C_below HR0_0.out HB.out) | (with_reducible refine Kd.C_alloc ?_ _) | (with_reducible refine Kd.C_drewN ?_ _) | (with_reducible refine Kd.C_drew ?_))); (case side2 => exact HC0_0.out); rintro e w54 ⟨v206, rfl, ho0, hb⟩; refine ⟨_, rfl, ?_⟩; have n0_ := Aside0.mk (Kd.R_lower ho0 (bZ_ (by repeat (first | (with_reducible first | exact HB.out | apply bA_ | apply bN_ | apply bD_ | refine bS_ ?_ GE199.out) | exact HB.out)))); have n1_ := Aside0.mk (blk_below (g := gb199) (o := .cells #[.slice (some ad204) l0_0.length c0_0] 30 (0, 0)) (by (with_reducible repeat (first | refine kN_ ?_ _ | refine kD_ ?_ | refine kA_ ?_ _)); exact BK199.out) hb); have n2_ := Aside0.mk (bP_ (by repeat (first | (with_reducible first | exact HB.out | apply bA_ | apply bN_ | apply bD_ | refine bS_ ?_ GE199.out) | exact HB.out)) hb); clear BK199; clear HB; have HO207 := n0_; have BK199 := n1_; have HB := n2_; clear n0_ n1_ n2_; (try clear hb); (try clear hb2); (try clear hk); (try clear hi); (try clear ho0); obtain ⟨Ao55, co55, eo55⟩ := Kd.R_slice HO207.out; subst eo55; have p208 : 0 ≤ (a1 : Int) := of_decide_eq_true (by first | (with_reducible assumption) | assumption); have q208 : a1 < (t205.length : Int) := of_decide_eq_true (by first | (with_reducible assumption) | assumption); obtain ⟨ad208, e208, hx208_0⟩ := Kd.at_int (Kd.R_reads' HO207.out).2.2 a1 p208 q208; cases e208; replace p208 := eq_true p208; replace q208 := eq_true q208))
              go_roundg k2
              case measure => have := HJ3.out; have := HK2.out; omega
              case rel => exact ⟨(wrap64 (x24_2 + 1)), (by first | rfl | (simp; done) | (simp [*]; done)), H', ⟨by have := HJ3.out; have := HK2.out; omega⟩, ⟨by (with_reducible repeat (first | refine kN_ ?_ _ | refine kD_ ?_ | refine kA_ ?_ _)); exact BK199.out⟩, ⟨by repeat (first | (with_reducible first | exact HB.out | apply bA_ | apply bN_ | apply bD_ | refine bS_ ?_ GE199.out) | exact HB.out)⟩⟩
             ·rw [if_neg c52] at H
              have c52b0 : (x24_2 == a2) = false := beq_eq_false_iff_ne.mpr c52
              have c52b1 : (x24_2 != a2) = true := bne_iff_ne.mpr c52
              by_cases c56 : ((rd_L1 l0_0 x24_2).length : Int) = 0
              ·rw [if_pos c56] at H
               have c56b0 : (((rd_L1 l0_0 x24_2).length : Int) == 0) = true := beq_iff_eq.mpr c56
               have c56b1 : (((rd_L1 l0_0 x24_2).length : Int) != 0) = false := bne_eq_false_iff_eq.mpr c56
               clear c56
               obtain rfl := Option.some.inj H
               have p204 : 0 ≤ (x24_2 : Int) := of_decide_eq_true (by first | (with_reducible assumption) | assumption)
               have q204 : x24_2 < (l0_0.length : Int) := of_decide_eq_true (by first | (with_reducible assumption) | assumption)
               obtain ⟨ad204, A204_0, c204_0, e204, hx204_0, hl204_0, hi204_0⟩ := at_L1 HR0_0.out x24_2 p204 q204
               cases e204
               replace hx204_0 := (HB.out.cell (World.block_lt_of_cell? w _ hx204_0)).trans hx204_0
               have HR204_0 := Aside0.mk hi204_0
               have HC204_0 := Aside0.mk hl204_0
               clear hi204_0 hl204_0
               replace p204 := eq_true p204
               replace q204 := eq_true q204
               have hcz57_0 : wr.cell? ⟨gb199, 0, none⟩ = some (.slice (some ad204) l0_0.length c0_0) := (blk_cell BK199.out 0).trans rfl
               have hfz57_0 := kF_ BK199.out 0
               go_wp2_with (first | ((with_reducible refine gate_callee (f := 112) rfl ?_); refine goesL_ (some 31) rfl rfl Try.func112 (by kernel_rfl) rfl #[.agg #[.slice (some ad204) l0_0.length c0_0], .int .i64 x24_2] rfl (by (try simp only [List.map_toArray, List.map_cons, List.map_nil]); first | done | rfl | (simp only [List.length_drop, List.length_take]; rfl)) ?_; (with_reducible refine (impl_Graph_lengths.calls k2 _ _ l0_0 x24_2 t205 _ ?side1 ?side2 A23.out).mono ?_); (case side1 => repeat (first | exact (Kd.C_below HR0_0.out HB.out) | (with_reducible refine Kd.C_alloc ?_ _) | (with_reducible refine Kd.C_drewN ?_ _) | (with_reducible refine Kd.C_drew ?_))); (case side2 => exact HC0_0.out); rintro e w58 ⟨v206, rfl, ho0, hb⟩; refine ⟨_, rfl, ?_⟩; have n0_ := Aside0.mk (Kd.R_lower ho0 (bZ_ (by repeat (first | (with_reducible first | exact HB.out | apply bA_ | apply bN_ | apply bD_ | refine bS_ ?_ GE199.out) | exact HB.out)))); have n1_ := Aside0.mk (blk_below (g := gb199) (o := .cells #[.slice (some ad204) l0_0.length c0_0] 30 (0, 0)) (by (with_reducible repeat (first | refine kN_ ?_ _ | refine kD_ ?_ | refine kA_ ?_ _)); exact BK199.out) hb); have n2_ := Aside0.mk (bP_ (by repeat (first | (with_reducible first | exact HB.out | apply bA_ | apply bN_ | apply bD_ | refine bS_ ?_ GE199.out) | exact HB.out)) hb); clear BK199; clear HB; have HO207 := n0_; have BK199 := n1_; have HB := n2_; clear n0_ n1_ n2_; (try clear hb); (try clear hb2); (try clear hk); (try clear hi); (try clear ho0); obtain ⟨Ao59, co59, eo59⟩ := Kd.R_slice HO207.out; subst eo59; have p208 : 0 ≤ (a1 : Int) := of_decide_eq_true (by first | (with_reducible assumption) | assumption); have q208 : a1 < (t205.length : Int) := of_decide_eq_true (by first | (with_reducible assumption) | assumption); obtain ⟨ad208, e208, hx208_0⟩ := Kd.at_int (Kd.R_reads' HO207.out).2.2 a1 p208 q208; cases e208; replace p208 := eq_true p208; replace q208 := eq_true q208))
               go_ret
               exact ⟨by first | rfl | (simp [errW_none, errW_some] <;> rfl) | (simp [*, errW_none, errW_some] <;> rfl), by repeat (first | (with_reducible first | exact HB.out | apply bA_ | apply bN_ | apply bD_ | refine bS_ ?_ GE199.out) | exact HB.out)⟩
              ·rw [if_neg c56] at H
               have c56b0 : (((rd_L1 l0_0 x24_2).length : Int) == 0) = false := beq_eq_false_iff_ne.mpr c56
               have c56b1 : (((rd_L1 l0_0 x24_2).length : Int) != 0) = true := bne_iff_ne.mpr c56
               have c56b2 : ¬ ((rd_L1 l0_0 x24_2) = []) := fun h_ => c56 (by rw [h_]; rfl)
               have H' := Aside0.mk H
               clear H
               have p204 : 0 ≤ (x24_2 : Int) := of_decide_eq_true (by first | (with_reducible assumption) | assumption)
               have q204 : x24_2 < (l0_0.length : Int) := of_decide_eq_true (by first | (with_reducible assumption) | assumption)
               obtain ⟨ad204, A204_0, c204_0, e204, hx204_0, hl204_0, hi204_0⟩ := at_L1 HR0_0.out x24_2 p204 q204
               cases e204
               replace hx204_0 := (HB.out.cell (World.block_lt_of_cell? w _ hx204_0)).trans hx204_0
               have HR204_0 := Aside0.mk hi204_0
               have HC204_0 := Aside0.mk hl204_0
               clear hi204_0 hl204_0
               replace p204 := eq_true p204
               replace q204 := eq_true q204
               have hcz60_0 : wr.cell? ⟨gb199, 0, none⟩ = some (.slice (some ad204) l0_0.length c0_0) := (blk_cell BK199.out 0).trans rfl
               have hfz60_0 := kF_ BK199.out 0
               go_wp2_with (first | ((with_reducible refine gate_callee (f := 112) rfl ?_); refine goesL_ (some 31) rfl rfl Try.func112 (by kernel_rfl) rfl #[.agg #[.slice (some ad204) l0_0.length c0_0], .int .i64 x24_2] rfl (by (try simp only [List.map_toArray, List.map_cons, List.map_nil]); first | done | rfl | (simp only [List.length_drop, List.length_take]; rfl)) ?_; (with_reducible refine (impl_Graph_lengths.calls k2 _ _ l0_0 x24_2 t205 _ ?side1 ?side2 A23.out).mono ?_); (case side1 => repeat (first | exact (Kd.C_below HR0_0.out HB.out) | (with_reducible refine Kd.C_alloc ?_ _) | (with_reducible refine Kd.C_drewN ?_ _) | (with_reducible refine Kd.C_drew ?_))); (case side2 => exact HC0_0.out); rintro e w61 ⟨v206, rfl, ho0, hb⟩; refine ⟨_, rfl, ?_⟩; have n0_ := Aside0.mk (Kd.R_lower ho0 (bZ_ (by repeat (first | (with_reducible first | exact HB.out | apply bA_ | apply bN_ | apply bD_ | refine bS_ ?_ GE199.out) | exact HB.out)))); have n1_ := Aside0.mk (blk_below (g := gb199) (o := .cells #[.slice (some ad204) l0_0.length c0_0] 30 (0, 0)) (by (with_reducible repeat (first | refine kN_ ?_ _ | refine kD_ ?_ | refine kA_ ?_ _)); exact BK199.out) hb); have n2_ := Aside0.mk (bP_ (by repeat (first | (with_reducible first | exact HB.out | apply bA_ | apply bN_ | apply bD_ | refine bS_ ?_ GE199.out) | exact HB.out)) hb); clear BK199; clear HB; have HO207 := n0_; have BK199 := n1_; have HB := n2_; clear n0_ n1_ n2_; (try clear hb); (try clear hb2); (try clear hk); (try clear hi); (try clear ho0); obtain ⟨Ao62, co62, eo62⟩ := Kd.R_slice HO207.out; subst eo62; have p208 : 0 ≤ (a1 : Int) := of_decide_eq_true (by first | (with_reducible assumption) | assumption); have q208 : a1 < (t205.length : Int) := of_decide_eq_true (by first | (with_reducible assumption) | assumption); obtain ⟨ad208, e208, hx208_0⟩ := Kd.at_int (Kd.R_reads' HO207.out).2.2 a1 p208 q208; cases e208; replace p208 := eq_true p208; replace q208 := eq_true q208))
               go_roundg k2
               case measure => have := HJ3.out; have := HK2.out; omega
               case rel => exact ⟨(wrap64 (x24_2 + 1)), (by first | rfl | (simp; done) | (simp [*]; done)), H', ⟨by have := HJ3.out; have := HK2.out; omega⟩, ⟨by (with_reducible repeat (first | refine kN_ ?_ _ | refine kD_ ?_ | refine kA_ ?_ _)); exact BK199.out⟩, ⟨by repeat (first | (with_reducible first | exact HB.out | apply bA_ | apply bN_ | apply bD_ | refine bS_ ?_ GE199.out) | exact HB.out)⟩⟩
          ·rw [if_neg c25] at H
           exact absurd H (by simp)
         ·rw [if_neg c24] at H
          exact absurd H (by simp)
        ·rw [if_neg c22] at H
         exact absurd H (by simp)
       ·rw [if_neg c21] at H
        exact absurd H (by simp)
      ·rw [if_neg c20] at H
       have c20b0 : decide (x24_2 < (l0_0.length : Int)) = false := decide_eq_false c20
       clear c20
       obtain rfl := Option.some.inj H
       go_wp2
       go_ret
       exact ⟨by first | rfl | (simp [errW_none, errW_some] <;> rfl) | (simp [*, errW_none, errW_some] <;> rfl), by repeat (first | (with_reducible first | exact HB.out | apply bA_ | apply bN_ | apply bD_ | refine bS_ ?_ GE199.out) | exact HB.out)⟩
end Go.Proofs.Ytnbnalbomflafaa.HB
namespace Go.Proofs.Ytnbnalbomflafaa.KA
open Go.RowKit YtnbnalbomflafaaW.PrintWords YtnbnalbomflafaaW.PrintLast
open GA GB HB
theorem rdHB (l : List (List Int)) (i : Int) : HB.rd_L1 l i = GA.rd_L1 l i := rfl
theorem rdGB (l : List (List Int)) (i : Int) : GB.rd_L1 l i = GA.rd_L1 l i := rfl
def neg : List Int → Nat
 | [] => 0
 | x :: t => (if x < 0 then 1 else 0) + neg t
theorem neg_set : ∀ (l : List Int) (i : Nat) (v : Int) (h : i < l.length), l[i] < 0 → 0 ≤ v → neg (l.set i v) + 1 = neg l
 | x :: t, 0, v, h, hx, hv => by
  simp only [List.set_cons_zero, neg]
  rw [List.getElem_cons_zero] at hx
  rw [if_neg (by omega), if_pos hx]
  omega
 | x :: t, i + 1, v, h, hx, hv => by
  simp only [List.set_cons_succ, neg]
  rw [List.getElem_cons_succ] at hx
  have := neg_set t i v (by simpa using h) hx hv
  omega
theorem neg_repl (n : Nat) : neg (List.replicate n (-1)) = n := by
 induction n with
 | zero => rfl
 | succ n ih =>
  rw [List.replicate_succ]
  simp only [neg]
  rw [ih, if_pos (by decide)]
  omega
def relax (h : Int) : List Int → List Int → List Int × List Int
 | [], far => (far, [])
 | q :: row, far => if rd far q < 0 then ((relax h row (far.set q.toNat (wrap64 (rd far h + 1)))).1, q :: (relax h row (far.set q.toNat (wrap64 (rd far h + 1)))).2) else relax h row far
structure Fine (n : Nat) (far : List Int) : Prop where
 len : far.length = n
 up : ∀ x ∈ far, x + (neg far : Int) ≤ n
theorem rd_mem {far : List Int} {v : Int} (h0 : 0 ≤ v) (h1 : v < far.length) : rd far v ∈ far := by
 obtain ⟨i, rfl⟩ := Int.eq_ofNat_of_zero_le h0
 rw [rd_at far i (by omega)]
 exact List.getElem_mem _
theorem rd_set_other {far : List Int} {q v : Int} (y : Int) (h0 : 0 ≤ q) (h1 : 0 ≤ v) (hne : v ≠ q) : rd (far.set q.toNat y) v = rd far v := by
 unfold rd
 rw [List.getD_eq_getElem?_getD, List.getElem?_set_ne (by omega), ← List.getD_eq_getElem?_getD]
theorem rd_set_same {far : List Int} {q : Int} (y : Int) (h0 : 0 ≤ q) (h1 : q < far.length) : rd (far.set q.toNat y) q = y := by
 unfold rd
 rw [List.getD_eq_getElem?_getD, List.getElem?_set_self (by omega)]
 rfl
theorem fine_set {n : Nat} {far : List Int} {h q : Int} (hn : n ≤ 100) (f : Fine n far) (h0 : 0 ≤ h) (h1 : h < n) (hh : 0 ≤ rd far h) (q0 : 0 ≤ q) (q1 : q < n) (hq : rd far q < 0) :
  Fine n (far.set q.toNat (wrap64 (rd far h + 1))) ∧ neg (far.set q.toNat (wrap64 (rd far h + 1))) + 1 = neg far ∧ wrap64 (rd far h + 1) = rd far h + 1 := by
 have hl := f.len
 have hu := f.up _ (rd_mem h0 (by omega))
 have hw : wrap64 (rd far h + 1) = rd far h + 1 := wrap_id (by omega) (by omega)
 obtain ⟨i, rfl⟩ := Int.eq_ofNat_of_zero_le q0
 rw [Int.toNat_natCast, hw]
 rw [rd_at far i (by omega)] at hq
 have hs := neg_set far i (rd far h + 1) (by omega) hq (by omega)
 refine ⟨⟨by rw [List.length_set]; exact hl, fun x hx => ?_⟩, hs, rfl⟩
 rcases List.mem_or_eq_of_mem_set hx with h' | rfl
 ·have := f.up x h'; omega
 ·omega
structure Relaxed (n : Nat) (far : List Int) (r : List Int × List Int) : Prop where
 fine : Fine n r.1
 cnt : neg r.1 + r.2.length = neg far
 new : ∀ q ∈ r.2, 0 ≤ q ∧ q < n ∧ 0 ≤ rd r.1 q
 keep : ∀ v : Int, 0 ≤ v → v < n → 0 ≤ rd far v → 0 ≤ rd r.1 v
theorem relaxed {n : Nat} (hn : n ≤ 100) {h : Int} (h0 : 0 ≤ h) (h1 : h < n) : ∀ (row far : List Int), Fine n far → 0 ≤ rd far h → (∀ q ∈ row, 0 ≤ q ∧ q < n) → Relaxed n far (relax h row far)
 | [], far, f, hh, hr => ⟨f, rfl, by simp [relax], fun _ _ _ h => h⟩
 | q :: row, far, f, hh, hr => by
  have hq := hr q List.mem_cons_self
  have hr' : ∀ q ∈ row, 0 ≤ q ∧ q < n := fun x hx => hr x (List.mem_cons_of_mem _ hx)
  unfold relax
  split
  ·rename_i hneg
   obtain ⟨f1, c1, w1⟩ := fine_set hn f h0 h1 hh hq.1 hq.2 hneg
   have hl := f.len
   have kq : ∀ v : Int, 0 ≤ v → v < n → 0 ≤ rd far v → 0 ≤ rd (far.set q.toNat (wrap64 (rd far h + 1))) v := fun v v0 v1 hv => by
    have hne : v ≠ q := by rintro rfl; omega
    rw [rd_set_other _ hq.1 v0 hne]; exact hv
   have ih := relaxed hn h0 h1 row _ f1 (kq h h0 h1 hh) hr'
   refine ⟨ih.fine, by have := ih.cnt; simp only [List.length_cons]; omega, fun x hx => ?_, fun v v0 v1 hv => ih.keep v v0 v1 (kq v v0 v1 hv)⟩
   rcases List.mem_cons.1 hx with rfl | hx
   ·refine ⟨hq.1, hq.2, ih.keep x hq.1 hq.2 ?_⟩
    rw [rd_set_same _ hq.1 (by omega), w1]
    omega
   ·exact ih.new x hx
  ·exact relaxed hn h0 h1 row far f hh hr'
section
variable {l : List (List Int)} (hg : isGraphB l = true)
include hg
theorem impl_inner (h : Int) (h0 : 0 ≤ h) (h1 : h < l.length) (row : List Int) (hrow : ∀ q ∈ row, 0 ≤ q ∧ q < l.length) (h5 : row.length ≤ 5) (d : Nat) : ∀ (k i : Nat) (far rest : List Int), i + d = row.length → d < k → Fine l.length far → 0 ≤ rd far h → rest.length + neg far ≤ 100 →
  impl_Graph_lengths.l1 k far (h :: rest) row (row.length : Int) (i : Int) l = impl_Graph_lengths.l0 (k - d - 1) (relax h (row.drop i) far).1 (rest ++ (relax h (row.drop i) far).2) l := by
 have hn := (graph_len hg).2
 induction d with
 | zero =>
  intro k i far rest hi hk f hh hc
  obtain ⟨k, rfl⟩ := succ_of hk
  rw [List.drop_of_length_le (by omega)]
  simp only [impl_Graph_lengths.l1, relax, List.append_nil]
  rw [if_neg (by omega), if_pos (by simp only [List.length_cons]; omega)]
  rfl
 | succ d ih =>
  intro k i far rest hi hk f hh hc
  obtain ⟨k, rfl⟩ := succ_of hk
  have hlt : i < row.length := by omega
  have hq := hrow _ (List.getElem_mem hlt)
  have hl := f.len
  rw [List.drop_eq_getElem_cons hlt]
  simp only [impl_Graph_lengths.l1, relax]
  rw [if_pos (by omega), if_pos (by omega), if_pos (by omega), rd_at row i hlt, if_pos hq.1, if_pos (by omega), wrap_up hlt (by omega)]
  by_cases hneg : rd far row[i] < 0
  ·obtain ⟨f1, c1, w1⟩ := fine_set (by omega) f h0 h1 hh hq.1 hq.2 hneg
   have hne : h ≠ row[i] := by intro e; rw [e] at hh; omega
   have e0 : rd (h :: rest) 0 = h := rfl
   have hh1 : 0 ≤ rd (far.set row[i].toNat (wrap64 (rd far h + 1))) h := by rw [rd_set_other _ hq.1 h0 hne]; exact hh
   rw [if_pos hneg, if_pos hneg, e0, if_pos (by simp only [List.length_cons]; omega), if_pos h0, if_pos (by omega), if_pos (by simp only [List.length_cons]; omega), List.cons_append]
   rw [ih k (i + 1) _ (rest ++ [row[i]]) (by omega) (by omega) f1 hh1 (by simp only [List.length_append, List.length_cons, List.length_nil]; omega)]
   rw [show k + 1 - (d + 1) - 1 = k - d - 1 by omega, List.append_assoc]
   rfl
  ·rw [if_neg hneg, if_neg hneg, ih k (i + 1) far rest (by omega) (by omega) f hh hc, show k + 1 - (d + 1) - 1 = k - d - 1 by omega]
theorem spec_inner (h : Int) (h0 : 0 ≤ h) (h1 : h < l.length) (row : List Int) (hrow : ∀ q ∈ row, 0 ≤ q ∧ q < l.length) (h5 : row.length ≤ 5) (j : Nat) (d : Nat) : ∀ (k i : Nat) (far queue : List Int), i + d = row.length → d < k → Fine l.length far → 0 ≤ rd far h → queue.length + neg far ≤ 100 → j < queue.length → rd queue (j : Int) = h →
  spec_grFar.l2 k far queue (j : Int) row (row.length : Int) (i : Int) l = spec_grFar.l1 (k - d - 1) (relax h (row.drop i) far).1 (queue ++ (relax h (row.drop i) far).2) ((j + 1 : Nat) : Int) l := by
 have hn := (graph_len hg).2
 induction d with
 | zero =>
  intro k i far queue hi hk f hh hc hj hjh
  obtain ⟨k, rfl⟩ := succ_of hk
  rw [List.drop_of_length_le (by omega)]
  simp only [spec_grFar.l2, relax, List.append_nil]
  rw [if_neg (by omega), wrap_up hj (by omega)]
  rfl
 | succ d ih =>
  intro k i far queue hi hk f hh hc hj hjh
  obtain ⟨k, rfl⟩ := succ_of hk
  have hlt : i < row.length := by omega
  have hq := hrow _ (List.getElem_mem hlt)
  have hl := f.len
  rw [List.drop_eq_getElem_cons hlt]
  simp only [spec_grFar.l2, relax]
  rw [if_pos (by omega), if_pos (by omega), if_pos (by omega), rd_at row i hlt, if_pos hq.1, if_pos (by omega), wrap_up hlt (by omega), hjh]
  by_cases hneg : rd far row[i] < 0
  ·obtain ⟨f1, c1, w1⟩ := fine_set (by omega) f h0 h1 hh hq.1 hq.2 hneg
   have hne : h ≠ row[i] := by intro e; rw [e] at hh; omega
   have hh1 : 0 ≤ rd (far.set row[i].toNat (wrap64 (rd far h + 1))) h := by rw [rd_set_other _ hq.1 h0 hne]; exact hh
   have hjh1 : rd (queue ++ [row[i]]) (j : Int) = h := by
    rw [← hjh, rd_at _ j hj, rd_at _ j (by simp; omega)]
    exact List.getElem_append_left hj
   rw [if_pos hneg, if_pos hneg, if_pos (by omega), if_pos (by omega), if_pos h0, if_pos (by omega), if_pos (by omega)]
   rw [ih k (i + 1) _ (queue ++ [row[i]]) (by omega) (by omega) f1 hh1 (by simp only [List.length_append, List.length_cons, List.length_nil]; omega) (by simp; omega) hjh1]
   rw [show k + 1 - (d + 1) - 1 = k - d - 1 by omega, List.append_assoc]
   rfl
  ·rw [if_neg hneg, if_neg hneg, ih k (i + 1) far queue (by omega) (by omega) f hh hc hj hjh, show k + 1 - (d + 1) - 1 = k - d - 1 by omega]
theorem both_outer (M : Nat) : ∀ (far queue : List Int) (j : Nat), Fine l.length far → j ≤ queue.length → neg far + (queue.drop j).length ≤ M → queue.length + neg far ≤ 50 → (∀ q ∈ queue.drop j, 0 ≤ q ∧ q < l.length ∧ 0 ≤ rd far q) →
  ∃ X, X.length = l.length ∧ ∀ k, 8 * M + 1 ≤ k → impl_Graph_lengths.l0 k far (queue.drop j) l = some X ∧ spec_grFar.l1 k far queue (j : Int) l = some X := by
 have hn := (graph_len hg).2
 induction M with
 | zero =>
  intro far queue j f hj hM hc hq
  refine ⟨far, f.len, fun k hk => ?_⟩
  obtain ⟨k, rfl⟩ := succ_of (show 0 < k by omega)
  have h0 : (queue.drop j).length = 0 := by omega
  have h1 : queue.drop j = [] := List.eq_nil_of_length_eq_zero h0
  rw [List.length_drop] at h0
  simp only [impl_Graph_lengths.l0, spec_grFar.l1]
  rw [h1, if_neg (by simp), if_neg (by omega)]
  exact ⟨rfl, rfl⟩
 | succ M ih =>
  intro far queue j f hj hM hc hq
  by_cases hlt : j < queue.length
  ·have hd : queue.drop j = queue[j] :: queue.drop (j + 1) := List.drop_eq_getElem_cons hlt
   have hh := hq queue[j] (by rw [hd]; exact List.mem_cons_self)
   obtain ⟨a, ha⟩ : ∃ a : Nat, queue[j] = (a : Int) := ⟨queue[j].toNat, by omega⟩
   have hal : a < l.length := by omega
   obtain ⟨h5, hrow⟩ := graph_row hg (List.getElem_mem hal)
   have R := relaxed (by omega) hh.1 hh.2.1 l[a] far f hh.2.2 hrow
   have hlen : (queue.drop j).length = (queue.drop (j + 1)).length + 1 := by rw [hd]; rfl
   have hcnt := R.cnt
   have hq1 : ∀ q ∈ (queue ++ (relax queue[j] l[a] far).2).drop (j + 1), 0 ≤ q ∧ q < l.length ∧ 0 ≤ rd (relax queue[j] l[a] far).1 q := by
    intro q hq'
    rw [List.drop_append_of_le_length (by omega)] at hq'
    rcases List.mem_append.1 hq' with h' | h'
    ·have := hq q (by rw [hd]; exact List.mem_cons_of_mem _ h')
     exact ⟨this.1, this.2.1, R.keep q this.1 this.2.1 this.2.2⟩
    ·exact R.new q h'
   obtain ⟨X, hX, hk⟩ := ih (relax queue[j] l[a] far).1 (queue ++ (relax queue[j] l[a] far).2) (j + 1) R.fine (by rw [List.length_append]; omega) (by rw [List.drop_append_of_le_length (by omega), List.length_append]; omega) (by rw [List.length_append]; omega) hq1
   refine ⟨X, hX, fun k hk' => ?_⟩
   obtain ⟨k, rfl⟩ := succ_of (show 0 < k by omega)
   have e0 : rd (queue[j] :: queue.drop (j + 1)) 0 = queue[j] := rfl
   have e1 : GA.rd_L1 l queue[j] = l[a] := by rw [ha]; exact rdL_at l a hal
   have hk2 := hk (k - l[a].length - 1) (by omega)
   rw [List.drop_append_of_le_length (by omega)] at hk2
   simp only [impl_Graph_lengths.l0, spec_grFar.l1]
   constructor
   ·rw [hd, if_pos (by simp only [List.length_cons]; omega), if_pos (by simp only [List.length_cons]; omega), e0, if_pos hh.1, if_pos hh.2.1, rdHB, e1]
    have := impl_inner hg queue[j] hh.1 hh.2.1 l[a] hrow h5 l[a].length k 0 far (queue.drop (j + 1)) (by omega) (by omega) f hh.2.2 (by rw [List.length_drop]; omega)
    rw [List.drop_zero] at this
    rw [show (0 : Int) = ((0 : Nat) : Int) from rfl, this]
    exact hk2.1
   ·rw [if_pos (by omega), if_pos (by omega), rd_at queue j hlt, if_pos hh.1, if_pos hh.2.1, rdGB, e1]
    have := spec_inner hg queue[j] hh.1 hh.2.1 l[a] hrow h5 j l[a].length k 0 far queue (by omega) (by omega) f hh.2.2 (by omega) hlt (rd_at queue j hlt)
    rw [List.drop_zero] at this
    rw [show (0 : Int) = ((0 : Nat) : Int) from rfl, this]
    exact hk2.2
  ·refine ⟨far, f.len, fun k hk => ?_⟩
   obtain ⟨k, rfl⟩ := succ_of (show 0 < k by omega)
   have h1 : queue.drop j = [] := List.drop_of_length_le (by omega)
   simp only [impl_Graph_lengths.l0, spec_grFar.l1]
   rw [h1, if_neg (by simp), if_neg (by omega)]
   exact ⟨rfl, rfl⟩
omit hg in
theorem far_fill (p : Nat) (n : Nat) (hn : n ≤ 100) (d : Nat) : ∀ (k i : Nat) (x : List Int), i + d = n → x.length = n → x.take i = List.replicate i (-1) → d < k →
  spec_grFar.l0 k (p : Int) x (n : Int) (i : Int) l = spec_grFar.l0 (k - d) (p : Int) (List.replicate n (-1)) (n : Int) (n : Int) l := by
 induction d with
 | zero =>
  intro k i x hi hx ht hk
  obtain rfl : i = n := by omega
  rw [List.take_of_length_le (by omega)] at ht
  rw [ht]
  rfl
 | succ d ih =>
  intro k i x hi hx ht hk
  obtain ⟨k, rfl⟩ := succ_of hk
  conv => lhs; unfold spec_grFar.l0
  rw [if_pos (by omega), if_pos (by omega), if_pos (by omega), wrap_up (n := n) (by omega) (by omega), Int.toNat_natCast]
  rw [ih k (i + 1) _ (by omega) (by rw [List.length_set]; exact hx) ?_ (by omega), show k + 1 - (d + 1) = k - d by omega]
  rw [List.take_succ_eq_append_getElem (by rw [List.length_set]; omega), List.take_set_of_le (Nat.le_refl _), ht, List.replicate_succ']
  simp
theorem both_far (p : Nat) (hp : p < l.length) : ∃ X, X.length = l.length ∧ ∀ k, 200 ≤ k → impl_Graph_lengths.f k l (p : Int) = some X ∧ spec_grFar.f k l (p : Int) = some X := by
 have hn := graph_len hg
 have hr : ((List.replicate l.length (-1 : Int)).set p 0).length = l.length := by simp
 have hs := neg_set (List.replicate l.length (-1)) p 0 (by simpa using hp) (by simp) (by decide)
 rw [neg_repl] at hs
 have f0 : Fine l.length ((List.replicate l.length (-1 : Int)).set p 0) := ⟨hr, fun x hx => by
  rcases List.mem_or_eq_of_mem_set hx with h' | rfl
  ·have := List.eq_of_mem_replicate h'; omega
  ·omega⟩
 obtain ⟨X, hX, hk⟩ := both_outer hg 10 ((List.replicate l.length (-1 : Int)).set p 0) [(p : Int)] 0 f0 (by simp) (by simp; omega) (by simp; omega) (by
  intro q hq
  simp at hq
  subst hq
  refine ⟨by omega, by omega, ?_⟩
  rw [rd_at _ p (by rw [hr]; exact hp)]
  simp)
 refine ⟨X, hX, fun k hk' => ⟨?_, ?_⟩⟩
 ·unfold impl_Graph_lengths.f slices_Repeat_int_int.f
  simp only
  rw [if_pos (by omega)]
  simp only [Option.bind_some]
  rw [if_pos (by omega), if_pos (by simp; omega), Int.toNat_natCast, Int.toNat_natCast]
  have := (hk k (by omega)).1
  rw [List.drop_zero] at this
  exact this
 ·unfold spec_grFar.f
  rw [if_pos (by omega), if_pos (by omega)]
  simp only [Option.bind_some]
  have hl0 : (List.replicate ((l.length : Int)).toNat (0 : Int)).length = l.length := by simp
  rw [hl0, Int.toNat_natCast]
  have := far_fill (l := l) p l.length (by omega) l.length k 0 (List.replicate l.length 0) (by omega) (by simp) (by simp) (by omega)
  rw [show (0 : Int) = ((0 : Nat) : Int) from rfl] at this ⊢
  rw [this]
  obtain ⟨m, hm⟩ := succ_of (show 0 < k - l.length by omega)
  rw [hm]
  unfold spec_grFar.l0
  rw [if_neg (by omega), if_pos (by omega), if_pos (by simp; omega), Int.toNat_natCast]
  exact (hk m (by omega)).2
end
end Go.Proofs.Ytnbnalbomflafaa.KA
namespace Go.Proofs.Ytnbnalbomflafaa.KA
open Go.RowKit YtnbnalbomflafaaW.PrintWords YtnbnalbomflafaaW.PrintLast
open GA GB HB
section
variable {l : List (List Int)} (hg : isGraphB l = true) (a b : Nat) (ha : a < l.length) (hb : b < l.length)
include hg ha hb
theorem can_loop (d : Nat) : ∀ i : Nat, i + d = l.length → ∃ u, ∀ k, d + 250 ≤ k → spec_hiCan.l0 k (a : Int) (b : Int) l (l.length : Int) (i : Int) l = some u ∧ impl_canEnd.l0 k (a : Int) (b : Int) l (l.length : Int) (i : Int) l = some u := by
 have hn := (graph_len hg).2
 induction d with
 | zero =>
  intro i hi
  refine ⟨true, fun k hk => ?_⟩
  obtain ⟨k, rfl⟩ := succ_of (show 0 < k by omega)
  simp only [spec_hiCan.l0, impl_canEnd.l0]
  rw [if_neg (by omega), if_neg (by omega)]
  exact ⟨rfl, rfl⟩
 | succ d ih =>
  intro i hi
  have hlt : i < l.length := by omega
  obtain ⟨X, hX, hf⟩ := both_far hg i hlt
  obtain ⟨u, hu⟩ := ih (i + 1) (by omega)
  obtain ⟨t, ht⟩ : ∃ t : Bool, t = (if rd X (a : Int) < 0 then (if rd X (b : Int) < 0 then false else (if (i : Int) = (a : Int) then u else if (i : Int) = (b : Int) then u else if ((l[i]).length : Int) = 0 then false else u)) else (if (i : Int) = (a : Int) then u else if (i : Int) = (b : Int) then u else if ((l[i]).length : Int) = 0 then false else u)) := ⟨_, rfl⟩
  refine ⟨t, fun k hk => ?_⟩
  obtain ⟨k, rfl⟩ := succ_of (show 0 < k by omega)
  have h1 := hf k (by omega)
  have h2 := hu k (by omega)
  refine ⟨?_, ?_⟩
  ·simp only [spec_hiCan.l0]
   rw [if_pos (by omega), if_pos (by omega), if_pos (by omega), h1.2]
   simp only [Option.bind_some]
   rw [rdGB, rdL_at l i hlt, wrap_up hlt (by omega), h2.1, if_pos (show 0 ≤ (a : Int) by omega), if_pos (show (a : Int) < X.length by omega), if_pos (show 0 ≤ (b : Int) by omega), if_pos (show (b : Int) < X.length by omega), ht]
   (repeat' split) <;> rfl
  ·simp only [impl_canEnd.l0]
   rw [if_pos (by omega), if_pos (by omega), if_pos (by omega), h1.1]
   simp only [Option.bind_some]
   rw [rdHB, rdL_at l i hlt, wrap_up hlt (by omega), h2.2, if_pos (show 0 ≤ (a : Int) by omega), if_pos (show (a : Int) < X.length by omega), if_pos (show 0 ≤ (b : Int) by omega), if_pos (show (b : Int) < X.length by omega), ht]
   (repeat' split) <;> rfl
end
theorem goals_eq (l : List (List Int)) (a b : Int) (k : Nat) (hk : 20 ≤ k) : spec_hiGoals.f k l a b = some (placeB l a && placeB l b && (a != b)) := by
 unfold spec_hiGoals.f
 rw [grPlace_eq l a k hk, grPlace_eq l b k hk]
 cases placeB l a <;> cases placeB l b <;> simp
theorem can_both (l : List (List Int)) (a b : Int) (h : (placeB l a && placeB l b && (a != b)) = true) : ∃ u, ∀ k, 300 ≤ k → spec_hiCan.f k l a b = some u ∧ impl_canEnd.f k l a b = some u := by
 simp only [Bool.and_eq_true, bne_iff_ne] at h
 obtain ⟨⟨h1, h2⟩, h3⟩ := h
 obtain ⟨hg, _, h8, ha0, ha⟩ := place_is h1
 obtain ⟨_, _, _, hb0, hb⟩ := place_is h2
 obtain ⟨a, rfl⟩ := Int.eq_ofNat_of_zero_le ha0
 obtain ⟨b, rfl⟩ := Int.eq_ofNat_of_zero_le hb0
 obtain ⟨u, hu⟩ := can_loop hg a b (by omega) (by omega) l.length 0 (by omega)
 refine ⟨u, fun k hk => ⟨?_, ?_⟩⟩
 ·exact (hu k (by omega)).1
 ·unfold impl_canEnd.f impl_has.f
  rw [hasB_two, h1, h2]
  simp only [Option.bind_some, Bool.and_self, if_true]
  obtain ⟨k, rfl⟩ := succ_of (show 0 < k by omega)
  simp only [impl_canEnd.j0]
  rw [if_neg (by simpa using h3)]
  exact (hu k (by omega)).2
theorem can_none (l : List (List Int)) (a b : Int) (h : (placeB l a && placeB l b && (a != b)) = false) (k : Nat) (hk : 300 ≤ k) : impl_canEnd.f k l a b = some false := by
 obtain ⟨k, rfl⟩ := succ_of (show 0 < k by omega)
 unfold impl_canEnd.f impl_has.f
 rw [hasB_two]
 simp only [Option.bind_some]
 cases hp : placeB l a && placeB l b with
 | false => simp [impl_canEnd.j0]
 | true =>
  rw [hp, Bool.true_and] at h
  have e : (a == b) = true := by simpa using h
  rw [if_pos rfl, e]
  simp [impl_canEnd.j0]
end Go.Proofs.Ytnbnalbomflafaa.KA
namespace Go.Proofs.Ytnbnalbomflafaa.RA
open Go.RowKit YtnbnalbomflafaaW.PrintWords YtnbnalbomflafaaW.PrintLast YtnbnalbomflafaaW.PrintMore
open GA
open GB hiding rd_L1 at_L1
open KA
inductive Reach (l : List (List Int)) (p : Int) : Int → Prop
 | here : Reach l p p
 | step {v q : Int} : Reach l p v → q ∈ GA.rd_L1 l v → Reach l p q
def Told (l : List (List Int)) (p : Int) (X : List Int) : Prop := ∀ v : Int, 0 ≤ v → v < X.length → 0 ≤ rd X v → Reach l p v
theorem told_set {l : List (List Int)} {p : Int} {X : List Int} (h : Told l p X) {q : Int} (y : Int) (h0 : 0 ≤ q) (h1 : q < X.length) (hq : Reach l p q) : Told l p (X.set q.toNat y) := by
 intro v hv0 hv1 hv2
 rw [List.length_set] at hv1
 by_cases hvq : v = q
 ·rw [hvq]; exact hq
 ·rw [rd_set_other y h0 hv0 hvq] at hv2
  exact h v hv0 hv1 hv2
theorem rd_in {x : List Int} {v : Int} (h0 : 0 ≤ v) (h1 : v < x.length) : rd x v ∈ x := KA.rd_mem h0 h1
theorem ifn {α : Type} {c : Prop} [Decidable c] {t : Option α} {X : α} (h : (if c then t else none) = some X) : c ∧ t = some X := by
 by_cases hc : c
 ·rw [if_pos hc] at h; exact ⟨hc, h⟩
 ·rw [if_neg hc] at h; cases h
theorem far12 (l : List (List Int)) (p : Int) : ∀ k, (∀ x5 x7 x8 X, Told l p x5 → (∀ q ∈ x7, Reach l p q) → spec_grFar.l1 k x5 x7 x8 l = some X → Told l p X) ∧
  (∀ x5 x7 x8 x42 x43 x44 X, Told l p x5 → (∀ q ∈ x7, Reach l p q) → (∀ q ∈ x42, Reach l p q) → spec_grFar.l2 k x5 x7 x8 x42 x43 x44 l = some X → Told l p X)
 | 0 => ⟨fun _ _ _ _ _ _ h => by simp [spec_grFar.l1] at h, fun _ _ _ _ _ _ _ _ _ _ h => by simp [spec_grFar.l2] at h⟩
 | k + 1 => by
  obtain ⟨i1, i2⟩ := far12 l p k
  constructor
  ·intro x5 x7 x8 X hT hQ h
   unfold spec_grFar.l1 at h
   by_cases c1 : x8 < (x7.length : Int)
   ·rw [if_pos c1] at h
    obtain ⟨c2, h⟩ := ifn h
    obtain ⟨_, h⟩ := ifn h
    obtain ⟨_, h⟩ := ifn h
    refine i2 _ _ _ _ _ _ X hT hQ (fun q hq => ?_) h
    exact Reach.step (hQ _ (rd_in c2 c1)) hq
   ·rw [if_neg c1] at h
    injection h with h
    rw [← h]; exact hT
  ·intro x5 x7 x8 x42 x43 x44 X hT hQ hR h
   unfold spec_grFar.l2 at h
   by_cases c1 : x44 < x43
   ·rw [if_pos c1] at h
    obtain ⟨c2, h⟩ := ifn h
    obtain ⟨c3, h⟩ := ifn h
    obtain ⟨c4, h⟩ := ifn h
    obtain ⟨c5, h⟩ := ifn h
    have hq := hR _ (rd_in c2 c3)
    by_cases c6 : rd x5 (rd x42 x44) < 0
    ·rw [if_pos c6] at h
     obtain ⟨_, h⟩ := ifn h
     obtain ⟨_, h⟩ := ifn h
     obtain ⟨_, h⟩ := ifn h
     obtain ⟨_, h⟩ := ifn h
     obtain ⟨_, h⟩ := ifn h
     refine i2 _ _ _ _ _ _ X (told_set hT _ c4 c5 hq) (fun q hq2 => ?_) hR h
     rcases List.mem_append.1 hq2 with hq2 | hq2
     ·exact hQ q hq2
     ·rw [List.mem_singleton.1 hq2]; exact hq
    ·rw [if_neg c6] at h
     exact i2 _ _ _ _ _ _ X hT hQ hR h
   ·rw [if_neg c1] at h
    exact i1 _ _ _ X hT hQ h
theorem far0 (l : List (List Int)) (p : Int) : ∀ k (x5 : List Int) (i : Int) X, 0 ≤ i → x5.length ≤ 1000 → (∀ v : Int, 0 ≤ v → v < i → v < x5.length → rd x5 v < 0) → spec_grFar.l0 k p x5 (x5.length : Int) i l = some X → Told l p X
 | 0, _, _, _, _, _, _, h => by simp [spec_grFar.l0] at h
 | k + 1, x5, i, X, hi, hl, hv, h => by
  unfold spec_grFar.l0 at h
  by_cases c1 : i < (x5.length : Int)
  ·rw [if_pos c1] at h
   obtain ⟨_, h⟩ := ifn h
   obtain ⟨_, h⟩ := ifn h
   rw [wrap_id (by omega) (by omega)] at h
   have hv2 : ∀ v : Int, 0 ≤ v → v < i + 1 → v < (x5.set i.toNat (-1)).length → rd (x5.set i.toNat (-1)) v < 0 := by
    intro v h0 h1 h2
    rw [List.length_set] at h2
    by_cases hvi : v = i
    ·rw [hvi, rd_set_same (-1) hi c1]; omega
    ·rw [rd_set_other (-1) hi h0 hvi]
     exact hv v h0 (by omega) h2
   refine far0 l p k (x5.set i.toNat (-1)) (i + 1) X (by omega) (by simpa using hl) hv2 ?_
   rw [show ((x5.set i.toNat (-1)).length : Int) = (x5.length : Int) by rw [List.length_set]]
   exact h
  ·rw [if_neg c1] at h
   obtain ⟨c2, h⟩ := ifn h
   obtain ⟨c3, h⟩ := ifn h
   refine (far12 l p k).1 _ _ _ X (fun v h0 h1 h2 => ?_) (fun q hq => ?_) h
   ·rw [List.length_set] at h1
    by_cases hvp : v = p
    ·rw [hvp]; exact Reach.here
    ·rw [rd_set_other 0 c2 h0 hvp] at h2
     have := hv v h0 (by omega) h1
     omega
   ·rw [List.mem_singleton.1 hq]; exact Reach.here
theorem far_told (l : List (List Int)) (p : Int) (k : Nat) (X : List Int) (hl : l.length ≤ 1000) (h : spec_grFar.f k l p = some X) : Told l p X := by
 unfold spec_grFar.f at h
 rw [if_pos (by omega), if_pos (by omega)] at h
 simp only [Option.bind_some] at h
 exact far0 l p k _ 0 X (by omega) (by simp; omega) (fun v h0 h1 _ => by omega) h
def Ends (l : List (List Int)) (a b v : Int) : Prop := (Reach l v a ∨ Reach l v b) ∧ (v = a ∨ v = b ∨ (GA.rd_L1 l v).length ≠ 0)
theorem can_told (l : List (List Int)) (a b : Int) (hl : l.length ≤ 1000) : ∀ k (i : Int), 0 ≤ i → spec_hiCan.l0 k a b l (l.length : Int) i l = some true → ∀ v : Int, i ≤ v → v < l.length → Ends l a b v
 | 0, _, _, h => by simp [spec_hiCan.l0] at h
 | k + 1, i, hi, h => by
  intro v h1 h2
  unfold spec_hiCan.l0 at h
  rw [if_pos (by omega), if_pos hi, if_pos (by omega)] at h
  obtain ⟨X, hX, h⟩ := Option.bind_eq_some_iff.1 h
  have hT := far_told l i k X hl hX
  rw [wrap_id (x := i + 1) (by omega) (by omega)] at h
  have key : Ends l a b i ∧ spec_hiCan.l0 k a b l (l.length : Int) (i + 1) l = some true := by
   have tail : ∀ (_ : Reach l i a ∨ Reach l i b), (if i = a then spec_hiCan.l0 k a b l (l.length : Int) (i + 1) l else if i = b then spec_hiCan.l0 k a b l (l.length : Int) (i + 1) l else if ((GB.rd_L1 l i).length : Int) = 0 then some false else spec_hiCan.l0 k a b l (l.length : Int) (i + 1) l) = some true → Ends l a b i ∧ spec_hiCan.l0 k a b l (l.length : Int) (i + 1) l = some true := by
    intro hr h
    split at h
    ·rename_i c
     exact ⟨⟨hr, Or.inl c⟩, h⟩
    ·split at h
     ·rename_i c
      exact ⟨⟨hr, Or.inr (Or.inl c)⟩, h⟩
     ·split at h
      ·cases h
      ·rename_i c
       refine ⟨⟨hr, Or.inr (Or.inr ?_)⟩, h⟩
       intro hz
       apply c
       rw [rdGB]
       omega
   split at h
   ·rename_i c1
    split at h
    ·rename_i c2
     split at h
     ·split at h
      ·rename_i c4
       split at h
       ·rename_i c5
        split at h
        ·cases h
        ·rename_i c6
         exact tail (Or.inr (hT b c4 c5 (by omega))) h
       ·cases h
      ·cases h
     ·rename_i c3
      exact tail (Or.inl (hT a c1 c2 (by omega))) h
    ·cases h
   ·cases h
  by_cases hv : v = i
  ·rw [hv]; exact key.1
  ·exact can_told l a b hl k (i + 1) (by omega) key.2 v (by omega) h2
end Go.Proofs.Ytnbnalbomflafaa.RA
namespace Go.Proofs.Ytnbnalbomflafaa.RA
open Go.RowKit YtnbnalbomflafaaW.PrintWords YtnbnalbomflafaaW.PrintLast YtnbnalbomflafaaW.PrintMore
open GA
open GD
theorem RowsU.moveIn' {w w1 : World} {base u : Nat} {vc : Value} {rows : List (List Int)} (h : RowsU w base u vc rows) (e : ∀ b, b < w.heap.size → w1.heap[b]? = w.heap[b]?) : RowsU w1 base u vc rows := by
 obtain ⟨⟨L, h1, h2⟩, h3, h4⟩ := h
 have hn : L.length = rows.length := by have := own_len h1; omega
 refine ⟨⟨L, own_move h1 (fun k hk => e k (own_lt h1 k hk)), h2.move hn fun i v k hv hk => e k (h2.blk hn hv hk).2.1⟩, h3, fun L2 i v k hL hv hk => ?_⟩
 exact h4 L2 i v k (own_move hL fun k hk => (e k (own_lt h1 k hk)).symm) hv hk
theorem cell_same {w w1 : World} {g : Nat} (h : w1.heap[g]? = w.heap[g]?) (i : Nat) : w1.cell? ⟨g, i, none⟩ = w.cell? ⟨g, i, none⟩ := by
 unfold World.cell?
 simp only [h]
theorem box_10 (w : World) (v : Value) (t : TypeId) : (w.alloc (.cells #[v] t)).cell? ⟨w.heap.size, 0, none⟩ = some v := (blk_cell (blk_new w _) 0).trans rfl
theorem szG_c (w : World) (v : Value) (l : List (List Int)) (h : RowsC w v l) (x : Int) (hx : 0 ≤ x ∧ x ≤ 1048576) : Calls Try.prog 19 #[.agg #[v], .int .i64 x] w fun e w' => e = .returned (.int .i64 (szZ l x)) ∧ Below w.heap.size w w' := by
 have h2 := szSS_f l x hx h.maxs.1 h.maxs.2
 have h3 := szZ_is l x hx
 obtain ⟨A, c, rfl, hc, hC⟩ := h
 refine laws_szGraph.calls (l.length + 1) A c l x _ w hC hc ?_
 unfold laws_szGraph.f
 rw [h2, Option.bind_some]
 rcases h3 with h3 | ⟨h3, _⟩
 ·rw [h3]; rfl
 ·rw [if_neg (by omega)]
theorem toG_c (w : World) (v : Value) (l : List (List Int)) (h : RowsC w v l) (hs : Small l) : Calls Try.prog 21 #[.agg #[v]] w fun e w' => ∃ u, e = .returned (.agg #[u]) ∧ Below w.heap.size w w' ∧ Aside0 (RowsD w' w.heap.size u l) := by
 obtain ⟨A, c, rfl, hc, hC⟩ := h
 refine (laws_toGraph.calls (1048576 + l.length + 2) A c l l w hC hc ?_).mono ?_
 ·unfold laws_toGraph.f
  rw [toSS_is l hs.1 hs.2.2]
  rfl
 ·rintro e w' ⟨u, rfl, hS, hB⟩
  exact ⟨u, rfl, hB, ⟨rowsD_of_S hS⟩⟩
theorem eqG_c (w : World) (v u : Value) (l : List (List Int)) (hv : RowsC w v l) (hu : RowsC w u l) (hs : Small l) : Calls Try.prog 24 #[.agg #[v], .agg #[u]] w fun e w' => e = .returned (.bool true) ∧ Below w.heap.size w w' := by
 obtain ⟨A, c, rfl, hc, hC⟩ := hv
 obtain ⟨A2, c2, rfl, hc2, hC2⟩ := hu
 refine laws_eqGraph.calls (1048576 + l.length + 2) A c l A2 c2 l true w hC hc hC2 hc2 ?_
 unfold laws_eqGraph.f
 rw [eqIntSS_refl l (by have := hs.1; omega) 1048576 hs.2.2 (by decide)]
 rfl
set_option maxHeartbeats 1000000 in
set_option maxRecDepth 100000 in
theorem markG_F (n u : Nat) (w : World) (hn : n ≤ w.heap.size) (v : Value) (l : List (List Int)) (m : Int) (h : RowsU w n u v l) (hm : m + tot l ≤ 1000000000) (hl : l.length ≤ 10000000) (h0 : 0 ≤ m) : Calls Try.prog 35 #[.agg #[v], .int .i64 m] w (MarkU w n u v l m) := by
 have HM := Aside0.mk (markIntSS_U n u (w.alloc (.cells #[v] 30)) (by simp; omega) v l m (h.moveIn' (fun b hb => Below.heap_alloc w _ b hb)) (by omega) hl)
 obtain ⟨A, c, hv, hc⟩ := h.1.slice
 subst hv
 have q0 := (blk_cell (blk_new w (.cells #[.slice A l.length c] 30)) 0).trans rfl
 go_enter Try.func35, Try.ntmps35
 go_wp2_with (first | (go_at_call 67; refine HM.out.mono ?_; rintro e w1 ⟨rfl, hB, hU, hK⟩))
 go_ret
 refine ⟨rfl, ⟨hB.os, hB.tape, hB.output, Nat.le_trans (by simp) hB.size, fun k hk => (hB.block k hk).trans (Below.heap_alloc w _ k (by omega))⟩, hU, ⟨fun b h1 h2 => (hK.out b h1 (by simp; omega)).trans (Below.heap_alloc w _ b h2)⟩⟩
theorem markG_U (n u : Nat) (w : World) (hn : n ≤ w.heap.size) (v : Value) (l : List (List Int)) (m : Int) (h : RowsU w n u v l) (hs : Small l) (hm : 0 ≤ m + tot l ∧ m + tot l ≤ 100000000) (h0 : 0 ≤ m) : Calls Try.prog 35 #[.agg #[v], .int .i64 m] w (MarkU w n u v l m) :=
 markG_F n u w hn v l m h (by omega) (by have := hs.1; omega) h0
end Go.Proofs.Ytnbnalbomflafaa.RA
namespace Go.Proofs.Ytnbnalbomflafaa.RA
open Go.RowKit YtnbnalbomflafaaW.PrintWords YtnbnalbomflafaaW.PrintLast YtnbnalbomflafaaW.PrintMore
open KA
def Dist (l : List (List Int)) (a b : Int) : Nat → Int → Prop
 | 0, v => v = a ∨ v = b
 | m + 1, v => v = a ∨ v = b ∨ ∃ q ∈ GA.rd_L1 l v, Dist l a b m q
theorem dist_of {l : List (List Int)} {a b p q : Int} (h : Reach l p q) : ∀ m, Dist l a b m q → ∃ m', Dist l a b m' p := by
 induction h with
 | here => exact fun m h => ⟨m, h⟩
 | step h1 h2 ih => exact fun m hm => ih (m + 1) (Or.inr (Or.inr ⟨_, h2, hm⟩))
theorem dist_ends {l : List (List Int)} {a b v : Int} (h : Ends l a b v) : ∃ m, Dist l a b m v := by
 rcases h.1 with h | h
 ·exact dist_of h 0 (Or.inl rfl)
 ·exact dist_of h 0 (Or.inr rfl)
theorem least_of {P : Nat → Prop} : ∀ m, P m → ∃ n, P n ∧ ∀ k, k < n → ¬ P k := by
 intro m
 induction m using Nat.strongRecOn with
 | ind m ih =>
  intro hm
  by_cases h : ∃ k, k < m ∧ P k
  ·obtain ⟨k, hk, hp⟩ := h
   exact ih k hk hp
  ·exact ⟨m, hm, fun k hk hp => h ⟨k, hk, hp⟩⟩
theorem dist_fun (l : List (List Int)) (a b : Int) (n : Nat) (hE : ∀ v : Int, 0 ≤ v → v < n → ∃ m, Dist l a b m v) (hrow : ∀ v : Int, 0 ≤ v → v < n → ∀ q ∈ GA.rd_L1 l v, 0 ≤ q ∧ q < n) :
  ∃ d : Int → Nat, ∀ v : Int, 0 ≤ v → v < n → v ≠ a → v ≠ b → ∃ q ∈ GA.rd_L1 l v, d q < d v := by
 classical
 refine ⟨fun v => if h : ∃ m, Dist l a b m v ∧ ∀ k, k < m → ¬ Dist l a b k v then h.choose else 0, fun v h0 h1 ha hb => ?_⟩
 have key : ∀ v : Int, 0 ≤ v → v < n → ∃ m, Dist l a b m v ∧ ∀ k, k < m → ¬ Dist l a b k v := fun v h0 h1 => by
  obtain ⟨m, hm⟩ := hE v h0 h1
  exact least_of m hm
 have hv := key v h0 h1
 simp only [dif_pos hv]
 obtain ⟨hm, hleast⟩ := hv.choose_spec
 cases hc : hv.choose with
 | zero =>
  rw [hc] at hm
  rcases hm with hm | hm
  ·exact absurd hm ha
  ·exact absurd hm hb
 | succ m =>
  rw [hc] at hm
  rcases hm with hm | hm | ⟨q, hq, hd⟩
  ·exact absurd hm ha
  ·exact absurd hm hb
  ·refine ⟨q, hq, ?_⟩
   have hqn := hrow v h0 h1 q hq
   have hk := key q hqn.1 hqn.2
   rw [dif_pos hk]
   have := hk.choose_spec.2
   rcases Nat.lt_or_ge m hk.choose with h | h
   ·exact absurd hd (this m h)
   ·omega
def xs : Nat → Nat
 | 0 => 0
 | e + 1 => 5 * xs e + 5
end Go.Proofs.Ytnbnalbomflafaa.RA
namespace Go.Proofs.Ytnbnalbomflafaa.RA
open Go.RowKit
theorem field80_0 (a b c : Value) (w : World) : (Instr.field 80 (.agg #[a, b, c]) 0).run Try.prog w = .ok a w := by kernel_rfl
theorem field80_1 (a b c : Value) (w : World) : (Instr.field 80 (.agg #[a, b, c]) 1).run Try.prog w = .ok b w := by kernel_rfl
theorem field80_2 (a b c : Value) (w : World) : (Instr.field 80 (.agg #[a, b, c]) 2).run Try.prog w = .ok c w := by kernel_rfl
end Go.Proofs.Ytnbnalbomflafaa.RA
namespace Go.Proofs.Ytnbnalbomflafaa.GQ
open Go.RowKit YtnbnalbomflafaaW.PrintWords YtnbnalbomflafaaW.PrintLast YtnbnalbomflafaaW.PrintMore
open GA GB GD KA GR
attribute [local go_sem] RA.field80_0 RA.field80_1 RA.field80_2 max2_int min2_int max_two min_two max_three min_three max_four min_four
def errW : Option Int → Value
 | none => .nilIface
 | some c => .iface 0 (.int .i64 c)
theorem errW_none : errW none = .nilIface := rfl
theorem errW_some (c : Int) : errW (some c) = .iface 0 (.int .i64 c) := rfl
end Go.Proofs.Ytnbnalbomflafaa.GQ
namespace Go.Proofs.Ytnbnalbomflafaa.GQ
open Go.RowKit YtnbnalbomflafaaW.PrintWords YtnbnalbomflafaaW.PrintLast YtnbnalbomflafaaW.PrintMore
open GA GB GD KA GR
attribute [local go_sem] RA.field80_0 RA.field80_1 RA.field80_2 max2_int min2_int max_two min_two max_three min_three max_four min_four
def spec_hiGood.f (k : Nat) (l0_0 : List (List Int)) (a1 : Int) (a2 : Int) : Option (Bool) := (spec_hiGoals.f k l0_0 a1 a2).bind fun t140 => (if t140 = true then ((spec_hiCan.f k l0_0 a1 a2).bind fun t141 => (some t141)) else (some false))
set_option maxHeartbeats 8000000 in
set_option maxRecDepth 100000 in
theorem spec_hiGood.calls (k : Nat) (A0_0 : Option Addr) (c0_0 : Nat) (l0_0 : List (List Int)) (a1 : Int) (a2 : Int) (r : Bool) (w : World) (hr0_0 : Kd.C (Kd.slice 3 (Kd.int .i64)) w A0_0 l0_0.length l0_0) (hc0_0 : l0_0.length ≤ c0_0) (h : spec_hiGood.f k l0_0 a1 a2 = some r) :
  Calls Try.prog 87 #[.agg #[.slice A0_0 l0_0.length c0_0], .int .i64 a1, .int .i64 a2] w fun e w' => e = .returned (.bool r) ∧ Below w.heap.size w w' := by
 have hu30 := Try.underlying30
 have HR0_0 := Aside0.mk hr0_0
 have HC0_0 := Aside0.mk hc0_0
 clear hr0_0 hc0_0
 have HB := Aside0.mk (Below.refl w.heap.size w)
 have H : ((spec_hiGoals.f k l0_0 a1 a2).bind fun t140 => (if t140 = true then ((spec_hiCan.f k l0_0 a1 a2).bind fun t141 => (some t141)) else (some false))) = some r := h
 clear h
 replace H := Option.bind_eq_some_iff.mp H
 obtain ⟨t140, A40, H⟩ := H
 replace H : (if t140 = true then ((spec_hiCan.f k l0_0 a1 a2).bind fun t141 => (some t141)) else (some false)) = some r := H
 have A4 := Aside0.mk A40
 clear A40
 by_cases c5 : t140 = true
 ·subst c5
  have H1 : ((spec_hiCan.f k l0_0 a1 a2).bind fun t141 => (some t141)) = some r := by rw [if_pos rfl] at H; exact H
  clear H
  have H := H1
  clear H1
  replace H := Option.bind_eq_some_iff.mp H
  obtain ⟨t141, A60, H⟩ := H
  replace H : (some t141) = some r := H
  have A6 := Aside0.mk A60
  clear A60
  obtain rfl := Option.some.inj H
  go_enter Try.func87, Try.ntmps87
  go_wp2_with (first | ((with_reducible refine gate_dst (N := 3) rfl ?_); refine box_event ?hg (N := 3) ?hd (cs := #[.slice A0_0 l0_0.length c0_0]) (t := 30) ?hr ?_; (case hd => rfl); (case hg => rfl); (case hr => first | (go_simp; done) | (go_simp; rfl)); intro gb139 hg w7 hbox hb; have n0_ := Aside0.mk (bP_ (by repeat (first | (with_reducible first | exact HB.out | apply bA_ | apply bN_ | apply bD_) | exact HB.out)) hb); have n1_ := Aside0.mk (hbox); have n2_ := Aside0.mk ((by rw [hg]; exact (bZ_ (by repeat (first | (with_reducible first | exact HB.out | apply bA_ | apply bN_ | apply bD_) | exact HB.out))) : w.heap.size ≤ gb139)); have n3_ := Aside0.mk ((by rw [hg]; exact (bZ_ (by repeat (first | (with_reducible first | exact HB.out | apply bA_ | apply bN_ | apply bD_) | exact HB.out))) : w.heap.size ≤ gb139)); clear HB; have HB := n0_; have BK139 := n1_; have GW139 := n2_; have GE139 := n3_; clear n0_ n1_ n2_ n3_; clear hb hbox hg; have hcz8_0 : w7.cell? ⟨gb139, 0, none⟩ = some (.slice A0_0 l0_0.length c0_0) := (blk_cell BK139.out 0).trans rfl; have hfz8_0 := kF_ BK139.out 0) | ((with_reducible refine gate_callee (f := 79) rfl ?_); refine goesL_ (some 10) rfl rfl Try.func79 (by kernel_rfl) rfl #[.agg #[.slice A0_0 l0_0.length c0_0], .int .i64 a1, .int .i64 a2] rfl (by (try simp only [List.map_toArray, List.map_cons, List.map_nil]); first | done | rfl | (simp only [List.length_drop, List.length_take]; rfl)) ?_; (with_reducible refine (spec_hiGoals.calls k _ _ l0_0 a1 a2 true _ ?side1 ?side2 A4.out).mono ?_); (case side1 => repeat (first | exact (Kd.C_below HR0_0.out HB.out) | (with_reducible refine Kd.C_alloc ?_ _) | (with_reducible refine Kd.C_drewN ?_ _) | (with_reducible refine Kd.C_drew ?_))); (case side2 => exact HC0_0.out); rintro e w9 ⟨rfl, hb⟩; refine ⟨_, rfl, ?_⟩; have n0_ := Aside0.mk (blk_below (g := gb139) (o := .cells #[.slice A0_0 l0_0.length c0_0] 30 (0, 0)) (by (with_reducible repeat (first | refine kN_ ?_ _ | refine kD_ ?_ | refine kA_ ?_ _)); exact BK139.out) hb); have n1_ := Aside0.mk (bP_ (by repeat (first | (with_reducible first | exact HB.out | apply bA_ | apply bN_ | apply bD_ | refine bS_ ?_ GE139.out) | exact HB.out)) hb); clear BK139; clear HB; have BK139 := n0_; have HB := n1_; clear n0_ n1_; (try clear hb); (try clear hb2); (try clear hk); (try clear hi); have hcz10_0 : w9.cell? ⟨gb139, 0, none⟩ = some (.slice A0_0 l0_0.length c0_0) := (blk_cell BK139.out 0).trans rfl; have hfz10_0 := kF_ BK139.out 0) | (go_at_call 80; (with_reducible refine (spec_hiCan.calls k _ _ l0_0 a1 a2 t141 _ ?side1 ?side2 A6.out).mono ?_); (case side1 => repeat (first | exact (Kd.C_below HR0_0.out HB.out) | (with_reducible refine Kd.C_alloc ?_ _) | (with_reducible refine Kd.C_drewN ?_ _) | (with_reducible refine Kd.C_drew ?_))); (case side2 => exact HC0_0.out); rintro e w11 ⟨rfl, hb⟩; have n0_ := Aside0.mk (blk_below (g := gb139) (o := .cells #[.slice A0_0 l0_0.length c0_0] 30 (0, 0)) (by (with_reducible repeat (first | refine kN_ ?_ _ | refine kD_ ?_ | refine kA_ ?_ _)); exact BK139.out) hb); have n1_ := Aside0.mk (bP_ (by repeat (first | (with_reducible first | exact HB.out | apply bA_ | apply bN_ | apply bD_ | refine bS_ ?_ GE139.out) | exact HB.out)) hb); clear BK139; clear HB; have BK139 := n0_; have HB := n1_; clear n0_ n1_; (try clear hb); (try clear hb2); (try clear hk); (try clear hi)))
  go_ret
  exact ⟨by first | rfl | (simp [errW_none, errW_some] <;> rfl) | (simp [*, errW_none, errW_some] <;> rfl), by repeat (first | (with_reducible first | exact HB.out | apply bA_ | apply bN_ | apply bD_ | refine bS_ ?_ GE139.out) | exact HB.out)⟩
 ·replace c5 := Bool.eq_false_iff.mpr c5
  subst c5
  have H1 : (some false) = some r := by rw [if_neg (show ¬ (false = true) by decide)] at H; exact H
  clear H
  have H := H1
  clear H1
  obtain rfl := Option.some.inj H
  go_enter Try.func87, Try.ntmps87
  go_wp2_with (first | ((with_reducible refine gate_dst (N := 3) rfl ?_); refine box_event ?hg (N := 3) ?hd (cs := #[.slice A0_0 l0_0.length c0_0]) (t := 30) ?hr ?_; (case hd => rfl); (case hg => rfl); (case hr => first | (go_simp; done) | (go_simp; rfl)); intro gb139 hg w12 hbox hb; have n0_ := Aside0.mk (bP_ (by repeat (first | (with_reducible first | exact HB.out | apply bA_ | apply bN_ | apply bD_) | exact HB.out)) hb); have n1_ := Aside0.mk (hbox); have n2_ := Aside0.mk ((by rw [hg]; exact (bZ_ (by repeat (first | (with_reducible first | exact HB.out | apply bA_ | apply bN_ | apply bD_) | exact HB.out))) : w.heap.size ≤ gb139)); have n3_ := Aside0.mk ((by rw [hg]; exact (bZ_ (by repeat (first | (with_reducible first | exact HB.out | apply bA_ | apply bN_ | apply bD_) | exact HB.out))) : w.heap.size ≤ gb139)); clear HB; have HB := n0_; have BK139 := n1_; have GW139 := n2_; have GE139 := n3_; clear n0_ n1_ n2_ n3_; clear hb hbox hg; have hcz13_0 : w12.cell? ⟨gb139, 0, none⟩ = some (.slice A0_0 l0_0.length c0_0) := (blk_cell BK139.out 0).trans rfl; have hfz13_0 := kF_ BK139.out 0) | ((with_reducible refine gate_callee (f := 79) rfl ?_); refine goesL_ (some 10) rfl rfl Try.func79 (by kernel_rfl) rfl #[.agg #[.slice A0_0 l0_0.length c0_0], .int .i64 a1, .int .i64 a2] rfl (by (try simp only [List.map_toArray, List.map_cons, List.map_nil]); first | done | rfl | (simp only [List.length_drop, List.length_take]; rfl)) ?_; (with_reducible refine (spec_hiGoals.calls k _ _ l0_0 a1 a2 false _ ?side1 ?side2 A4.out).mono ?_); (case side1 => repeat (first | exact (Kd.C_below HR0_0.out HB.out) | (with_reducible refine Kd.C_alloc ?_ _) | (with_reducible refine Kd.C_drewN ?_ _) | (with_reducible refine Kd.C_drew ?_))); (case side2 => exact HC0_0.out); rintro e w14 ⟨rfl, hb⟩; refine ⟨_, rfl, ?_⟩; have n0_ := Aside0.mk (blk_below (g := gb139) (o := .cells #[.slice A0_0 l0_0.length c0_0] 30 (0, 0)) (by (with_reducible repeat (first | refine kN_ ?_ _ | refine kD_ ?_ | refine kA_ ?_ _)); exact BK139.out) hb); have n1_ := Aside0.mk (bP_ (by repeat (first | (with_reducible first | exact HB.out | apply bA_ | apply bN_ | apply bD_ | refine bS_ ?_ GE139.out) | exact HB.out)) hb); clear BK139; clear HB; have BK139 := n0_; have HB := n1_; clear n0_ n1_; (try clear hb); (try clear hb2); (try clear hk); (try clear hi)))
  go_ret
  exact ⟨by first | rfl | (simp [errW_none, errW_some] <;> rfl) | (simp [*, errW_none, errW_some] <;> rfl), by repeat (first | (with_reducible first | exact HB.out | apply bA_ | apply bN_ | apply bD_ | refine bS_ ?_ GE139.out) | exact HB.out)⟩
end Go.Proofs.Ytnbnalbomflafaa.GQ
namespace Go.Proofs.Ytnbnalbomflafaa.RA
open Go.RowKit YtnbnalbomflafaaW.PrintWords YtnbnalbomflafaaW.PrintLast YtnbnalbomflafaaW.PrintMore
open GA
open GB hiding rd_L1 at_L1
open GD
open GR hiding rd_L1 at_L1
open GQ
open HB hiding rd_L1 at_L1
open KA
theorem good_both (l : List (List Int)) (a b : Int) : ∃ u, (∀ k, 400 ≤ k → spec_hiGood.f k l a b = some u ∧ impl_canEnd.f k l a b = some u) ∧ (u = true → placeB l a = true ∧ placeB l b = true ∧ a ≠ b ∧ ∀ v : Int, 0 ≤ v → v < l.length → Ends l a b v) := by
 cases h : placeB l a && placeB l b && (a != b) with
 | false =>
  refine ⟨false, fun k hk => ⟨?_, can_none l a b h k (by omega)⟩, fun h => by cases h⟩
  unfold spec_hiGood.f
  rw [goals_eq l a b k (by omega), h]
  rfl
 | true =>
  obtain ⟨u, hu⟩ := can_both l a b h
  refine ⟨u, fun k hk => ⟨?_, (hu k (by omega)).2⟩, fun hut => ?_⟩
  ·unfold spec_hiGood.f
   rw [goals_eq l a b k (by omega), h, Option.bind_some, if_pos rfl, (hu k (by omega)).1]
   rfl
  ·simp only [Bool.and_eq_true, bne_iff_ne] at h
   obtain ⟨⟨h1, h2⟩, h3⟩ := h
   obtain ⟨hg, _, h8, _, _⟩ := place_is h1
   refine ⟨h1, h2, h3, fun v h0 hv => ?_⟩
   have hc := (hu 300 (Nat.le_refl _)).1
   rw [hut] at hc
   exact can_told l a b (by omega) 300 0 (Int.le_refl _) hc v h0 hv
open Classical in
noncomputable def goodB (l : List (List Int)) (a b : Int) : Bool := (good_both l a b).choose
theorem goodB_is (l : List (List Int)) (a b : Int) : (∀ k, 400 ≤ k → spec_hiGood.f k l a b = some (goodB l a b) ∧ impl_canEnd.f k l a b = some (goodB l a b)) ∧ (goodB l a b = true → placeB l a = true ∧ placeB l b = true ∧ a ≠ b ∧ ∀ v : Int, 0 ≤ v → v < l.length → Ends l a b v) := (good_both l a b).choose_spec
end Go.Proofs.Ytnbnalbomflafaa.RA
namespace Go.Proofs.Ytnbnalbomflafaa.RA
open Go.RowKit YtnbnalbomflafaaW.PrintWords YtnbnalbomflafaaW.PrintLast YtnbnalbomflafaaW.PrintMore
open GA
theorem lastS_ {P : Program} {md : Region.Mode} {ops : Array Oper} {Q : Exit → Act → World → Prop} {S : World → Prop} {ds : List Nat} {i : Nat} {oi : Oper} {fuel : Nat} {l : Array Bool} {a : Act} {w w1 : World} (l' : Array Bool) (hi : ops[i]? = some oi) (hN : oi.dst = none) (hc : readyB md ops l l' i = true) (hd : i ∈ ds)
  (hw : Region.wanted oi (yielded ops a.tmps) = true) (hrun : (execOp a.eval oi).run P w = .ok .skip w1) (h : wpAnyLast P md ops Q S ds fuel l' a w1) : wpAnyLast P md ops Q S ds (fuel + 1) l a w :=
 last_ l' hi hN hc hd fun _ hK => skip_ hw hN hrun (hK.out _ _ h)
theorem cell_heap {w w1 : World} (h : w1.heap = w.heap) (p : Addr) : w1.cell? p = w.cell? p := by
 unfold World.cell?
 rw [h]
end Go.Proofs.Ytnbnalbomflafaa.RA
