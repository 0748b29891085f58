/-
  Texts of the seat, merged (part 2).
-/
import Derived.Test.YtnbnalbomflafaaWMore
import Derived.Test.YtnbnalbomflafaaProg
import Derived.Below
import Derived.Deep.Draws
import Derived.Deep.AppendLies
import Derived.Maps.AppendAt
import Derived.OwnWalk
import Derived.Laws.BytesArg
import Derived.Laws.MakeOwn
import Derived.Laws.OwnMore
import Derived.Deep.OwnRows
import Derived.Tactics
import Derived.Lib.ConvBytes
import Derived.Laws.Slices
import Derived.WalkKit
import Derived.KernelRfl
import Derived.RowKit3
import Derived.Deep.LoopGhost
import Derived.Deep.QuietTactic
import Derived.BigQuiet
import Derived.WideLaws
import Derived.Deep.DeepCutAuto
import Derived.Deep.CutBlock
import Derived.Deep.RegionHeld3
import Derived.Laws.Rows
import Derived.Lib.AppendStr
import Derived.ArgAppend
import Derived.Laws.IdiomCopy
import Derived.OrdersHeld
import Derived.Laws.BitsLemmas
import Derived.RowKit
import Derived.Test.YtnbnalbomflafaaWWords
import Derived.Test.YtnbnalbomflafaaWLast
import Derived.Test.YtnbnalbomflafaaWTab
import Derived.Test.YtnbnalbomflafaaWFour
import Derived.Test.YtnbnalbomflafaaWQPut
import Derived.Test.YtnbnalbomflafaaWApart
import Derived.Test.YtnbnalbomflafaaWArr
import Derived.Test.YtnbnalbomflafaaWZeros
import Derived.Test.YtnbnalbomflafaaWFoot
import Derived.Test.YtnbnalbomflafaaWKept
import Derived.Test.YtnbnalbomflafaaWShare
import Derived.Test.YtnbnalbomflafaaWN
import Derived.Test.YtnbnalbomflafaaWFootNe
import Derived.Test.YtnbnalbomflafaaWAt
import Derived.Test.YtnbnalbomflafaaWEqStruct
import Derived.Test.YtnbnalbomflafaaWRepsOne
import Derived.Test.YtnbnalbomflafaaWInv
import Derived.Test.YtnbnalbomflafaaWInvWords
import Derived.Test.YtnbnalbomflafaaWGuard
import Derived.Test.YtnbnalbomflafaaWNEv
import Derived.Shelf.Bits.Mul64
import Derived.Shelf.Slices.Turned
import Derived.Ground.Names2Prog
import Derived.Shelf.Slices.Clone
import Derived.Ground.SlgnProg
import Derived.Shelf.SlicesE.Clone
import Derived.Ground.SlgfProg
import Derived.Shelf.SlicesE.IndexFunc
import Derived.Deep.Matrix
import Derived.Lib.SmallJoins
import Derived.ProofKit
import Derived.OpenShut
import Derived.ChangeSame
import Derived.Test.YtnbnalbomflafaaX151
/-! ## Ra -/
namespace Go.Proofs.Ytnbnalbomflafaa.RA
open Go.RowKit Go.Proofs.YtnbnalbomflafaaW.PrintWords Go.Proofs.YtnbnalbomflafaaW.PrintLast Go.Proofs.YtnbnalbomflafaaW.PrintMore
open Go.Proofs.Ytnbnalbomflafaa.GA
open Go.Proofs.Ytnbnalbomflafaa.GD hiding rd_L1 at_L1
set_option linter.unusedVariables false
set_option linter.unusedSimpArgs false
theorem wrap_id {x : Int} (h0 : -9223372036854775808 ≤ x) (h1 : x ≤ 9223372036854775807) : wrap64 x = x := by unfold wrap64; omega
theorem rd_at (l : List Int) (i : Nat) (h : i < l.length) : rd l (i : Int) = l[i] := by
  unfold rd
  rw [Int.toNat_natCast, List.getD_eq_getElem?_getD, List.getElem?_eq_getElem h]
  rfl
theorem eqIntS_loop (l : List Int) (hn : l.length ≤ 1000000000000) (d : Nat) : ∀ (k i : Nat), i + d = l.length → d < k → laws_eqIntS.l0 k l l (i : Int) = some true := by
  induction d with
  | zero =>
    intro k i hi hk
    obtain ⟨k, rfl⟩ : ∃ m, k = m + 1 := ⟨k - 1, by omega⟩
    simp only [laws_eqIntS.l0]
    rw [if_neg (by omega)]
  | succ d ih =>
    intro k i hi hk
    obtain ⟨k, rfl⟩ : ∃ m, k = m + 1 := ⟨k - 1, by omega⟩
    simp only [laws_eqIntS.l0]
    have e2 : wrap64 ((i : Int) + 1) = ((i + 1 : Nat) : Int) := by rw [wrap_id (by omega) (by omega)]; omega
    rw [if_pos (by omega), if_pos (by omega), if_pos (by omega), if_pos trivial, e2]
    exact ih k (i + 1) (by omega) (by omega)
theorem eqIntS_refl (l : List Int) (hn : l.length ≤ 1000000000000) (k : Nat) (hk : l.length < k) : laws_eqIntS.f k l l = some true := by
  unfold laws_eqIntS.f
  rw [if_pos rfl]
  exact eqIntS_loop l hn l.length k 0 (by omega) hk
def marks (n : Nat) (m : Int) : List Int := (List.range n).map fun (i : Nat) => m + (i : Int)
abbrev encI (r : List Int) : List Value := r.map (Value.int .i64)
def RowsL (w : World) (base : Nat) (rows : List (List Int)) (L : List Value) : Prop :=
  (∀ (i : Nat) (r : List Int), rows[i]? = some r → ∃ v, L[i]? = some v ∧ w.ownsRow base 3 1 v r.length (encI r)) ∧ ∀ (i j : Nat) (v u : Value) (k : Nat), L[i]? = some v → L[j]? = some u → i ≠ j → v.ownBlock = some k → u.ownBlock ≠ some k
def RowsD (w : World) (base : Nat) (vc : Value) (rows : List (List Int)) : Prop := ∃ L, w.ownsRow base 37 1 vc rows.length L ∧ RowsL w base rows L
section
variable {w w1 : World} {base : Nat} {vc : Value} {rows : List (List Int)} {L : List Value}
theorem RowsL.move (h : RowsL w base rows L) (hn : L.length = rows.length) (e : ∀ (i : Nat) (v : Value) (k : Nat), L[i]? = some v → v.ownBlock = some k → w1.heap[k]? = w.heap[k]?) : RowsL w1 base rows L := by
  refine ⟨fun i r hr => ?_, h.2⟩
  obtain ⟨v, h1, h2⟩ := h.1 i r hr
  exact ⟨v, h1, own_move h2 fun k hk => e i v k h1 hk⟩
theorem own_len {e : TypeId} {size n : Nat} (h : w.ownsRow base e size vc n L) : L.length = n * size := h.1
theorem RowsL.row (h : RowsL w base rows L) (hn : L.length = rows.length) {i : Nat} {v : Value} (hv : L[i]? = some v) : ∃ r, rows[i]? = some r ∧ w.ownsRow base 3 1 v r.length (encI r) := by
  have hi : i < rows.length := by rw [← hn]; exact (List.getElem?_eq_some_iff.1 hv).1
  obtain ⟨u, h1, h2⟩ := h.1 i rows[i] (List.getElem?_eq_getElem hi)
  rw [hv] at h1
  cases h1
  exact ⟨_, List.getElem?_eq_getElem hi, h2⟩
theorem RowsL.blk (h : RowsL w base rows L) (hn : L.length = rows.length) {i k : Nat} {v : Value} (hv : L[i]? = some v) (hk : v.ownBlock = some k) : base ≤ k ∧ k < w.heap.size ∧ ∃ cells, w.heap[k]? = some (.cells cells 3 (0, 0)) := by
  obtain ⟨r, _, ho⟩ := h.row hn hv
  exact ⟨own_base ho k hk, own_lt ho k hk, own_typed ho k hk⟩
theorem RowsD.nil (w : World) (base : Nat) : RowsD w base (.slice none 0 0) [] := ⟨[], own_nil _ _ _ _, fun i r h => by simp at h, fun i j v u k h => by simp at h⟩
theorem RowsD.keep (h : RowsD w base vc rows) (e : ∀ b, b < w.heap.size → w1.heap[b]? = w.heap[b]?) : RowsD w1 base vc rows := by
  obtain ⟨L, h1, h2⟩ := h
  have hn : L.length = rows.length := by have := own_len h1; omega
  exact ⟨L, own_move h1 (fun k hk => e k (own_lt h1 k hk)), h2.move hn fun i v k hv hk => e k (h2.blk hn hv hk).2.1⟩
theorem RowsD.drewN (h : RowsD w base vc rows) (n : Nat) : RowsD (w.drewN n) base vc rows := h.keep fun _ _ => by simp
theorem RowsD.alloc (h : RowsD w base vc rows) (o : Obj) : RowsD (w.alloc o) base vc rows := h.keep fun b hb => Below.heap_alloc w o b hb
theorem RowsD.below (h : RowsD w base vc rows) (hB : Below w.heap.size w w1) : RowsD w1 base vc rows := h.keep fun b hb => hB.block b hb
theorem rowI_reads {v : Value} {r : List Int} (h : w.ownsRow base 3 1 v r.length (encI r)) : ∃ A c, v = .slice A r.length c ∧ r.length ≤ c ∧ Kd.C (Kd.int .i64) w A r.length r :=
  Kd.R_reads (Kd.R_of_own (ok := fun _ => True) h (fun _ _ => trivial))
/-- Rows, as the printed contracts read them. -/
theorem rows_reads (ho : w.ownsRow base 37 1 vc rows.length L) (h : ∀ (i : Nat) (r : List Int), rows[i]? = some r → ∃ v, L[i]? = some v ∧ ∃ A c, v = .slice A r.length c ∧ r.length ≤ c ∧ Kd.C (Kd.int .i64) w A r.length r) :
    ∃ A c, vc = .slice A rows.length c ∧ rows.length ≤ c ∧ Kd.C (Kd.slice 3 (Kd.int .i64)) w A rows.length rows := by
  have hn : L.length = rows.length := by have := own_len ho; omega
  have hR : Reps (fun p c => (Kd.slice 3 (Kd.int .i64)).K w p c) 1 rows L := ⟨by omega, fun j p hp => by
    obtain ⟨v, h1, A, c, h2, h3, h4⟩ := h j p hp
    refine ⟨A, c, ?_, h3, h4⟩
    have hj := (List.getElem?_eq_some_iff.1 h1).1
    have e : L[j] = v := by rw [List.getElem?_eq_getElem hj] at h1; exact Option.some.inj h1
    rw [Nat.mul_one, List.drop_eq_getElem_cons hj, e, h2]
    rfl⟩
  obtain ⟨A, c, he, hr⟩ := own_reads_row ho hR rfl
  refine ⟨A, c, he, ?_, hr⟩
  rcases ho.2 with ⟨h1, h2⟩ | ⟨g, cap, cur, h1, _, _, h3, _⟩
  · rw [h1] at he
    injection he with _ e2 e3
    omega
  · rw [h1] at he
    injection he with _ e2 e3
    omega
theorem RowsD.reads (h : RowsD w base vc rows) : ∃ A c, vc = .slice A rows.length c ∧ rows.length ≤ c ∧ Kd.C (Kd.slice 3 (Kd.int .i64)) w A rows.length rows := by
  obtain ⟨L, h1, h2⟩ := h
  refine rows_reads h1 fun i r hr => ?_
  obtain ⟨v, q1, q2⟩ := h2.1 i r hr
  exact ⟨v, q1, rowI_reads q2⟩
/-- A row's place in the list. -/
theorem RowsD.at (h : w.ownsRow base 37 1 vc rows.length L) {i : Nat} {v : Value} (hv : L[i]? = some v) : ∃ g cap, vc = .slice (some ⟨g, 0, none⟩) rows.length cap ∧ base ≤ g ∧ w.cell? ⟨g, i, none⟩ = some v ∧ w.frozen? ⟨g, i, none⟩ = false := by
  have hi := (List.getElem?_eq_some_iff.1 hv).1
  have hn := own_len h
  rcases h.2 with ⟨h1, h2⟩ | ⟨g, cap, cur, h1, hb, hh, h3, h4, h5, h6⟩
  · omega
  · refine ⟨g, cap, h1, hb, (blk_cell hh i).trans ?_, blk_frozen hh i⟩
    rw [← h6, List.getElem?_take] at hv
    split at hv
    · simpa using hv
    · cases hv
/-- A row is written, in its own block. -/
theorem RowsD.put (h1 : w.ownsRow base 37 1 vc rows.length L) (h2 : RowsL w base rows L) {i : Nat} {v : Value} {r : List Int} (hi : L[i]? = some v) (hv : w1.ownsRow base 3 1 v r.length (encI r)) (e : ∀ b, b < w.heap.size → v.ownBlock ≠ some b → w1.heap[b]? = w.heap[b]?) :
    w1.ownsRow base 37 1 vc (rows.set i r).length L ∧ RowsL w1 base (rows.set i r) L := by
  have hn : L.length = rows.length := by have := own_len h1; omega
  have hil : i < rows.length := by rw [← hn]; exact (List.getElem?_eq_some_iff.1 hi).1
  rw [List.length_set]
  refine ⟨own_move h1 (fun k hk => e k (own_lt h1 k hk) (fun c => ?_)), fun j s hs => ?_, h2.2⟩
  · obtain ⟨_, _, cells, hc⟩ := h2.blk hn hi c
    obtain ⟨cells2, hc2⟩ := own_typed h1 k hk
    rw [hc] at hc2
    simp at hc2
  · by_cases q : i = j
    · subst q
      rw [List.getElem?_set_self hil] at hs
      cases hs
      exact ⟨v, hi, hv⟩
    · rw [List.getElem?_set_ne q] at hs
      obtain ⟨u, q1, q2⟩ := h2.1 j s hs
      exact ⟨u, q1, own_move q2 fun k hk => e k (own_lt q2 k hk) (fun c => h2.2 i j v u k hi q1 q c hk)⟩
end
theorem markIntS_from (n : Nat) (m : Int) (hm : 0 ≤ m ∧ m + (n : Int) ≤ 1000000000000) (d : Nat) : ∀ (k i : Nat) (l : List Int), l.length = n → i + d = n → d < k → l.take i = marks i m →
    laws_markIntS.l0 k l (m + (i : Int)) (i : Int) = some (m + (n : Int), marks n m) := by
  induction d with
  | zero =>
    intro k i l hl hi hk ht
    obtain ⟨k, rfl⟩ : ∃ m, k = m + 1 := ⟨k - 1, by omega⟩
    simp only [laws_markIntS.l0]
    obtain rfl : i = n := by omega
    rw [if_neg (by omega), ← ht, List.take_of_length_le (by omega)]
  | succ d ih =>
    intro k i l hl hi hk ht
    obtain ⟨k, rfl⟩ : ∃ m, k = m + 1 := ⟨k - 1, by omega⟩
    simp only [laws_markIntS.l0]
    have e1 : wrap64 (m + (i : Int) + 1) = m + ((i + 1 : Nat) : Int) := by rw [wrap_id (by omega) (by omega)]; omega
    have e2 : wrap64 ((i : Int) + 1) = ((i + 1 : Nat) : Int) := by rw [wrap_id (by omega) (by omega)]; omega
    rw [if_pos (by omega), if_pos (by omega), e1, e2, Int.toNat_natCast]
    refine ih k (i + 1) _ (by simpa using hl) (by omega) (by omega) ?_
    have hlt : i < l.length := by omega
    rw [List.take_add_one, List.take_set_of_le (by omega), ht]
    simp [marks, List.range_succ, hlt]
theorem markIntS_m (l : List Int) (m : Int) (hm : 0 ≤ m ∧ m + (l.length : Int) ≤ 1000000000000) (k : Nat) (hk : l.length < k) : laws_markIntS.f k l m = some (m + (l.length : Int), marks l.length m) := by
  unfold laws_markIntS.f
  have := markIntS_from l.length m hm l.length k 0 l rfl (by omega) hk (by simp [marks])
  simpa using this
theorem heldIntS_from (n : Nat) (m : Int) (hm : 0 ≤ m ∧ m + (n : Int) ≤ 1000000000000) (d : Nat) : ∀ (k i : Nat), i + d = n → d < k → laws_heldIntS.l0 k (marks n m) (m + (i : Int)) (i : Int) = some (m + (n : Int)) := by
  have hl : (marks n m).length = n := by simp [marks]
  induction d with
  | zero =>
    intro k i hi hk
    obtain ⟨k, rfl⟩ : ∃ m, k = m + 1 := ⟨k - 1, by omega⟩
    simp only [laws_heldIntS.l0]
    obtain rfl : i = n := by omega
    rw [if_neg (by omega)]
  | succ d ih =>
    intro k i hi hk
    obtain ⟨k, rfl⟩ : ∃ m, k = m + 1 := ⟨k - 1, by omega⟩
    simp only [laws_heldIntS.l0]
    have e1 : wrap64 (m + (i : Int) + 1) = m + ((i + 1 : Nat) : Int) := by rw [wrap_id (by omega) (by omega)]; omega
    have e2 : wrap64 ((i : Int) + 1) = ((i + 1 : Nat) : Int) := by rw [wrap_id (by omega) (by omega)]; omega
    have e3 : rd (marks n m) (i : Int) = m + (i : Int) := by rw [rd_at _ _ (by omega)]; simp [marks]
    rw [if_pos (by omega), if_pos (by omega), if_pos e3, e1, e2]
    exact ih k (i + 1) (by omega) (by omega)
theorem heldIntS_m (n : Nat) (m : Int) (hm : 0 ≤ m ∧ m + (n : Int) ≤ 1000000000000) (k : Nat) (hk : n < k) : laws_heldIntS.f k (marks n m) m = some (m + (n : Int)) := by
  unfold laws_heldIntS.f
  have := heldIntS_from n m hm n k 0 (by omega) hk
  simpa using this
def tot : List (List Int) → Int
  | [] => 0
  | r :: rs => (r.length : Int) + tot rs
def markRows : List (List Int) → Int → List (List Int)
  | [], _ => []
  | r :: rs, m => marks r.length m :: markRows rs (m + (r.length : Int))
theorem tot_pos : ∀ rs, 0 ≤ tot rs
  | [] => Int.le_refl _
  | r :: rs => by have := tot_pos rs; unfold tot; omega
theorem tot_app : ∀ a b, tot (a ++ b) = tot a + tot b
  | [], b => by simp [tot]
  | r :: a, b => by
    have := tot_app a b
    simp only [List.cons_append, tot, this]
    omega
theorem markRows_len : ∀ rs m, (markRows rs m).length = rs.length
  | [], _ => rfl
  | r :: rs, m => by simp [markRows, markRows_len rs]
theorem markRows_app : ∀ a b m, markRows (a ++ b) m = markRows a m ++ markRows b (m + tot a)
  | [], b, m => by simp [markRows, tot]
  | r :: a, b, m => by
    simp only [List.cons_append, markRows, tot]
    rw [markRows_app a b, Int.add_assoc]
/-- The rows in the middle of the loop. -/
def midRows (rows : List (List Int)) (m : Int) (i : Nat) : List (List Int) := markRows (rows.take i) m ++ rows.drop i
theorem mid_len (rows : List (List Int)) (m : Int) (i : Nat) : (midRows rows m i).length = rows.length := by
  unfold midRows
  rw [List.length_append, markRows_len, List.length_take, List.length_drop]
  omega
theorem mid_get {rows : List (List Int)} {m : Int} {i : Nat} (hi : i < rows.length) : (midRows rows m i)[i]? = some rows[i] := by
  unfold midRows
  rw [List.getElem?_append_right (by rw [markRows_len, List.length_take]; omega), markRows_len, List.length_take, List.getElem?_drop]
  rw [show i + (i - min i rows.length) = i by omega]
  exact List.getElem?_eq_getElem hi
theorem mid_set {rows : List (List Int)} {m : Int} {i : Nat} (hi : i < rows.length) : (midRows rows m i).set i (marks rows[i].length (m + tot (rows.take i))) = midRows rows m (i + 1) := by
  unfold midRows
  have hl : (markRows (rows.take i) m).length = i := by rw [markRows_len, List.length_take]; omega
  rw [List.take_succ_eq_append_getElem hi, markRows_app, List.drop_eq_getElem_cons hi]
  rw [List.set_append, if_neg (by omega), hl, Nat.sub_self, List.set_cons_zero, List.append_assoc]
  rfl
theorem tot_take {rows : List (List Int)} {i : Nat} (hi : i < rows.length) : tot (rows.take (i + 1)) = tot (rows.take i) + (rows[i].length : Int) := by
  rw [List.take_succ_eq_append_getElem hi, tot_app]
  simp [tot]
theorem tot_le (rows : List (List Int)) (i : Nat) : tot (rows.take i) ≤ tot rows := by
  have h := tot_app (rows.take i) (rows.drop i)
  rw [List.take_append_drop] at h
  have := tot_pos (rows.drop i)
  omega
theorem RowsD.slice {w : World} {base : Nat} {vc : Value} {rows : List (List Int)} (h : RowsD w base vc rows) : ∃ A c, vc = .slice A rows.length c ∧ rows.length ≤ c := by
  obtain ⟨A, c, h1, h2, _⟩ := h.reads
  exact ⟨A, c, h1, h2⟩
theorem rdL_at (l : List (List Int)) (i : Nat) (h : i < l.length) : rd_L1 l (i : Int) = l[i] := by
  unfold rd_L1
  rw [Int.toNat_natCast, List.getD_eq_getElem?_getD, List.getElem?_eq_getElem h]
  rfl
theorem eqIntSS_loop (l : List (List Int)) (hn : l.length ≤ 10000000) (N : Nat) (hN : ∀ r ∈ l, r.length ≤ N) (hN2 : N ≤ 10000000) (d : Nat) : ∀ (k i : Nat), i + d = l.length → N + d + 1 < k → laws_eqIntSS.l0 k l l (i : Int) = some true := by
  induction d with
  | zero =>
    intro k i hi hk
    obtain ⟨k, rfl⟩ : ∃ m, k = m + 1 := ⟨k - 1, by omega⟩
    simp only [laws_eqIntSS.l0]
    rw [if_neg (by omega)]
  | succ d ih =>
    intro k i hi hk
    obtain ⟨k, rfl⟩ : ∃ m, k = m + 1 := ⟨k - 1, by omega⟩
    have hin : i < l.length := by omega
    simp only [laws_eqIntSS.l0]
    have e2 : wrap64 ((i : Int) + 1) = ((i + 1 : Nat) : Int) := by rw [wrap_id (by omega) (by omega)]; omega
    have h3 := hN _ (List.getElem_mem hin)
    rw [if_pos (by omega), if_pos (by omega), if_pos (by omega), rdL_at l i hin, eqIntS_refl l[i] (by omega) k (by omega)]
    simp only [Option.bind_some, if_true]
    rw [e2]
    exact ih k (i + 1) (by omega) (by omega)
theorem eqIntSS_refl (l : List (List Int)) (hn : l.length ≤ 10000000) (N : Nat) (hN : ∀ r ∈ l, r.length ≤ N) (hN2 : N ≤ 10000000) : laws_eqIntSS.f (N + l.length + 2) l l = some true := by
  unfold laws_eqIntSS.f
  rw [if_pos rfl]
  exact eqIntSS_loop l hn N hN hN2 l.length _ 0 (by omega) (by omega)
/-- Rows, read: what the tests ask. -/
def RowsC (w : World) (vc : Value) (rows : List (List Int)) : Prop := ∃ A c, vc = .slice A rows.length c ∧ rows.length ≤ c ∧ Kd.C (Kd.slice 3 (Kd.int .i64)) w A rows.length rows
theorem RowsC.below {w w1 : World} {vc : Value} {rows : List (List Int)} (h : RowsC w vc rows) (hB : Below w.heap.size w w1) : RowsC w1 vc rows := by
  obtain ⟨A, c, h1, h2, h3⟩ := h
  exact ⟨A, c, h1, h2, Kd.C_below h3 hB⟩
/-- The world with its first n blocks alone. -/
def cutW (w : World) (n : Nat) : World := { w with heap := w.heap.extract 0 n }
theorem cutW_size {w : World} {n : Nat} (h : n ≤ w.heap.size) : (cutW w n).heap.size = n := by unfold cutW; simp; omega
theorem cutW_below {w : World} {n : Nat} (h : n ≤ w.heap.size) : Below (cutW w n).heap.size (cutW w n) w := by
  refine ⟨rfl, rfl, rfl, by rw [cutW_size h]; exact h, fun k hk => ?_⟩
  rw [cutW_size h] at hk
  unfold cutW
  simp only
  rw [Array.getElem?_extract, if_pos (by omega), Nat.zero_add]
theorem RowsD.moveIn {w w1 : World} {base : Nat} {vc : Value} {rows : List (List Int)} (h : RowsD w base vc rows) (e : ∀ b, base ≤ b → b < w.heap.size → w1.heap[b]? = w.heap[b]?) : RowsD w1 base vc rows := by
  obtain ⟨L, h1, h2⟩ := h
  have hn : L.length = rows.length := by have := own_len h1; omega
  exact ⟨L, own_move h1 (fun k hk => e k (own_base h1 k hk) (own_lt h1 k hk)), h2.move hn fun i v k hv hk => e k (h2.blk hn hv hk).1 (h2.blk hn hv hk).2.1⟩
theorem RowsD.upto {w w1 : World} {base n : Nat} {vc : Value} {rows : List (List Int)} (h : RowsD w base vc rows) (hB : Below w.heap.size w w1) : ∀ (L : List Value) (i : Nat) (v : Value) (k : Nat), w1.ownsRow n 37 1 vc rows.length L → L[i]? = some v → v.ownBlock = some k → k < w.heap.size := by
  intro L i v k hL hv hk
  obtain ⟨L2, h1, h2⟩ := h
  have e : L = L2 := by
    have h3 : w1.ownsRow base 37 1 vc rows.length L2 := own_move h1 fun b hb => hB.block b (own_lt h1 b hb)
    rcases hL.2 with ⟨q1, q2⟩ | ⟨g, cap, cur, q1, _, q3, _, _, _, q7⟩
    · have l1 := hL.1
      have l2 := h3.1
      rw [q2] at l1 l2
      simp at l1 l2
      rw [l1, l2]
    · rcases h3.2 with ⟨p1, _⟩ | ⟨g2, cap2, cur2, p1, _, p3, _, _, _, p7⟩
      · rw [q1] at p1; cases p1
      · rw [q1] at p1
        injection p1 with p1 _ _
        injection p1 with p1
        injection p1 with p1
        subst p1
        rw [q3] at p3
        simp at p3
        subst p3
        rw [← q7, ← p7]
  subst e
  have hn : L.length = rows.length := by have := own_len h1; omega
  exact (h2.blk hn hv hk).2.1
/-- Rows that a copy has made. -/
theorem rowsD_of_S {w : World} {base : Nat} {ok : Nat → Prop} {v : Value} {rows : List (List Int)} (h : Kd.S (Kd.slice 3 (Kd.int .i64)) 37 w base ok v rows) : RowsD w base v rows := by
  obtain ⟨f, h0, inner, ho, hr⟩ := h
  rw [List.length_zipIdx] at ho
  have hl : inner.length = rows.length := by have h1 : inner.length = rows.length * 1 := ho.1; omega
  have hat : ∀ (i : Nat) (r : List Int), rows[i]? = some r → ∃ u, inner[i]? = some u ∧ w.ownsRow base 3 1 u r.length (encI r) ∧ ∀ k, u.ownBlock = some k → f k = i := fun i r hi => by
    obtain ⟨u, h1, h2⟩ := hr.2 i (r, i) (Kd.zip_at hi)
    have hin : i < inner.length := by rw [hl]; exact (List.getElem?_eq_some_iff.1 hi).1
    have e : inner[i] = u := by
      have h1' : (inner.drop (i * 1)).take 1 = [u] := h1
      rw [Nat.mul_one, List.drop_eq_getElem_cons hin, List.take_succ_cons, List.take_zero] at h1'
      exact (List.cons.inj h1').1
    refine ⟨u, by rw [List.getElem?_eq_getElem hin, e], Kd.own_of_R h2, fun k hk => (h2.1 k hk).2⟩
  refine ⟨inner, ho, fun i r hi => ?_, fun i j x y k hx hy hij hk hk2 => ?_⟩
  · obtain ⟨u, h1, h2, _⟩ := hat i r hi
    exact ⟨u, h1, h2⟩
  · have hi : i < rows.length := by rw [← hl]; exact (List.getElem?_eq_some_iff.1 hx).1
    have hj : j < rows.length := by rw [← hl]; exact (List.getElem?_eq_some_iff.1 hy).1
    obtain ⟨u, h1, _, h3⟩ := hat i _ (List.getElem?_eq_getElem hi)
    obtain ⟨u2, h4, _, h5⟩ := hat j _ (List.getElem?_eq_getElem hj)
    rw [hx] at h1
    rw [hy] at h4
    cases h1
    cases h4
    exact hij ((h3 k hk).symm.trans (h5 k hk2))
def szR : List (List Int) → Int → Int
  | [], a => a
  | r :: rs, a => if a - (r.length : Int) < 0 then -1 else szR rs (a - (r.length : Int))
theorem szR_is : ∀ (rs : List (List Int)) (a : Int), 0 ≤ a → szR rs a = -1 ∨ (szR rs a = a - tot rs ∧ tot rs ≤ a)
  | [], a, h => .inr ⟨by simp [szR, tot], by simpa [tot] using h⟩
  | r :: rs, a, h => by
    unfold szR
    split
    · exact .inl rfl
    · rcases szR_is rs (a - (r.length : Int)) (by omega) with h1 | ⟨h1, h2⟩
      · exact .inl h1
      · exact .inr ⟨by rw [h1]; simp only [tot]; omega, by simp only [tot]; omega⟩
theorem szI_is (r : List Int) (a : Int) (h : 0 ≤ a ∧ a ≤ 1048576) (hl : (r.length : Int) ≤ 9223372036854775807) : laws_szIntS.f r a = some (if a - (r.length : Int) < 0 then -1 else a - (r.length : Int)) := by
  unfold laws_szIntS.f
  rw [wrap_id (x := a - (r.length : Int)) (by omega) (by omega)]
  split <;> rfl
theorem szSS_loop (rows : List (List Int)) (hl : (rows.length : Int) ≤ 1048576) (hr : ∀ r ∈ rows, (r.length : Int) ≤ 9223372036854775807) (d : Nat) : ∀ (k i : Nat) (a : Int), i + d = rows.length → d < k → 0 ≤ a → a ≤ 1048576 → laws_szIntSS.l0 k rows a (i : Int) = some (szR (rows.drop i) a) := by
  induction d with
  | zero =>
    intro k i a hi hk h0 h1
    obtain ⟨k, rfl⟩ : ∃ m, k = m + 1 := ⟨k - 1, by omega⟩
    simp only [laws_szIntSS.l0]
    rw [if_neg (by omega), List.drop_eq_nil_of_le (by omega)]
    rfl
  | succ d ih =>
    intro k i a hi hk h0 h1
    obtain ⟨k, rfl⟩ : ∃ m, k = m + 1 := ⟨k - 1, by omega⟩
    have hin : i < rows.length := by omega
    simp only [laws_szIntSS.l0]
    have e2 : wrap64 ((i : Int) + 1) = ((i + 1 : Nat) : Int) := by rw [wrap_id (by omega) (by omega)]; omega
    have e3 : rd_L1 rows (i : Int) = rows[i] := rdL_at rows i hin
    rw [if_pos (by omega), if_pos (by omega), e3, szI_is _ _ ⟨h0, h1⟩ (hr _ (List.getElem_mem hin)), List.drop_eq_getElem_cons hin]
    simp only [Option.bind_some]
    by_cases q : a - (rows[i].length : Int) < 0
    · rw [if_pos q, if_pos (by decide)]
      unfold szR
      rw [if_pos q]
    · rw [if_neg q, if_neg q, e2, ih k (i + 1) _ (by omega) (by omega) (by omega) (by omega)]
      conv => rhs; unfold szR
      rw [if_neg q]
theorem toS_loop (l : List Int) (hn : l.length ≤ 1048576) (d : Nat) : ∀ (k i : Nat) (x : List Int), x.length = l.length → i + d = l.length → d < k → x.take i = l.take i → laws_toIntS.l0 k l x (i : Int) = some l := by
  induction d with
  | zero =>
    intro k i x hx hi hk ht
    obtain ⟨k, rfl⟩ : ∃ m, k = m + 1 := ⟨k - 1, by omega⟩
    simp only [laws_toIntS.l0]
    rw [if_neg (by omega)]
    rw [List.take_of_length_le (by omega), List.take_of_length_le (by omega)] at ht
    rw [ht]
  | succ d ih =>
    intro k i x hx hi hk ht
    obtain ⟨k, rfl⟩ : ∃ m, k = m + 1 := ⟨k - 1, by omega⟩
    have hin : i < l.length := by omega
    simp only [laws_toIntS.l0]
    have e2 : wrap64 ((i : Int) + 1) = ((i + 1 : Nat) : Int) := by rw [wrap_id (by omega) (by omega)]; omega
    rw [if_pos (by omega), if_pos (by omega), if_pos (by omega), e2, rd_at l i hin, Int.toNat_natCast]
    refine ih k (i + 1) _ (by simpa using hx) (by omega) (by omega) ?_
    rw [List.take_succ_eq_append_getElem (by rw [List.length_set]; omega), List.take_set_of_le (by omega), ht, List.take_succ_eq_append_getElem hin]
    simp
theorem toS_is (l : List Int) (hn : l.length ≤ 1048576) (k : Nat) (hk : l.length < k) : laws_toIntS.f k l = some l := by
  unfold laws_toIntS.f
  rw [if_pos (by omega), if_pos (by omega), Int.toNat_natCast]
  exact toS_loop l hn l.length k 0 _ (by simp) (by omega) hk (by simp)
theorem toSS_loop (l : List (List Int)) (hn : l.length ≤ 1048576) (hr : ∀ r ∈ l, r.length ≤ 1048576) (d : Nat) : ∀ (k i : Nat) (x : List (List Int)), x.length = l.length → i + d = l.length → 1048576 + d + 1 < k → x.take i = l.take i → laws_toIntSS.l0 k l x (i : Int) = some l := by
  induction d with
  | zero =>
    intro k i x hx hi hk ht
    obtain ⟨k, rfl⟩ : ∃ m, k = m + 1 := ⟨k - 1, by omega⟩
    simp only [laws_toIntSS.l0]
    rw [if_neg (by omega)]
    rw [List.take_of_length_le (by omega), List.take_of_length_le (by omega)] at ht
    rw [ht]
  | succ d ih =>
    intro k i x hx hi hk ht
    obtain ⟨k, rfl⟩ : ∃ m, k = m + 1 := ⟨k - 1, by omega⟩
    have hin : i < l.length := by omega
    simp only [laws_toIntSS.l0]
    have e2 : wrap64 ((i : Int) + 1) = ((i + 1 : Nat) : Int) := by rw [wrap_id (by omega) (by omega)]; omega
    have e3 : rd_L1 l (i : Int) = l[i] := rdL_at l i hin
    have h1 := hr _ (List.getElem_mem hin)
    rw [if_pos (by omega), if_pos (by omega), e3, toS_is l[i] h1 k (by omega)]
    simp only [Option.bind_some]
    rw [if_pos (by omega), e2, Int.toNat_natCast]
    refine ih k (i + 1) _ (by simpa using hx) (by omega) (by omega) ?_
    rw [List.take_succ_eq_append_getElem (by rw [List.length_set]; omega), List.take_set_of_le (by omega), ht, List.take_succ_eq_append_getElem hin]
    simp
theorem toSS_is (l : List (List Int)) (hn : l.length ≤ 1048576) (hr : ∀ r ∈ l, r.length ≤ 1048576) : laws_toIntSS.f (1048576 + l.length + 2) l = some l := by
  unfold laws_toIntSS.f
  rw [if_pos (by omega), if_pos (by omega), Int.toNat_natCast]
  exact toSS_loop l hn hr l.length _ 0 _ (by simp) (by omega) (by omega) (by simp)
theorem tot_mem {rows : List (List Int)} : ∀ r ∈ rows, (r.length : Int) ≤ tot rows := fun r hr => by
  obtain ⟨i, hi, rfl⟩ := List.mem_iff_getElem.1 hr
  have h1 := tot_take hi
  have h2 := tot_le rows (i + 1)
  have h3 := tot_pos (rows.take i)
  omega
def RowsU (w : World) (base u : Nat) (vc : Value) (rows : List (List Int)) : Prop := RowsD w base vc rows ∧ (∀ k, vc.ownBlock = some k → k < u) ∧ ∀ (L : List Value) (i : Nat) (v : Value) (k : Nat), w.ownsRow base 37 1 vc rows.length L → L[i]? = some v → v.ownBlock = some k → k < u
theorem RowsD.toU {w : World} {base : Nat} {vc : Value} {rows : List (List Int)} (h : RowsD w base vc rows) : RowsU w base w.heap.size vc rows :=
  ⟨h, fun k hk => by obtain ⟨L, h1, _⟩ := h; exact own_lt h1 k hk, h.upto (Below.refl _ _)⟩
theorem RowsU.reads {w : World} {base u : Nat} {vc : Value} {rows : List (List Int)} (h : RowsU w base u vc rows) : RowsC w vc rows := h.1.reads
theorem RowsU.moveIn {w w1 : World} {base u : Nat} {vc : Value} {rows : List (List Int)} (h : RowsU w base u vc rows) (e : ∀ b, base ≤ b → b < u → w1.heap[b]? = w.heap[b]?) : RowsU w1 base u vc rows := by
  obtain ⟨⟨L, h1, h2⟩, h3, h4⟩ := h
  have hn : L.length = rows.length := by have := own_len h1; omega
  refine ⟨⟨L, own_move h1 (fun k hk => e k (own_base h1 k hk) (h3 k hk)), h2.move hn fun i v k hv hk => e k (h2.blk hn hv hk).1 (h4 L i v k h1 hv hk)⟩, h3, fun L2 i v k hL hv hk => ?_⟩
  exact h4 L2 i v k (own_move hL fun k hk => (e k (own_base hL k hk) (h3 k hk)).symm) hv hk
theorem RowsU.below {w w1 : World} {base u : Nat} {vc : Value} {rows : List (List Int)} (h : RowsU w base u vc rows) (hu : u ≤ w.heap.size) (hB : Below w.heap.size w w1) : RowsU w1 base u vc rows := h.moveIn fun b _ hb => hB.block b (by omega)
theorem RowsU.drewN {w : World} {base u : Nat} {vc : Value} {rows : List (List Int)} (h : RowsU w base u vc rows) (n : Nat) : RowsU (w.drewN n) base u vc rows := h.moveIn fun _ _ _ => by simp
def MarkU (w : World) (n u : Nat) (vc : Value) (rows : List (List Int)) (m : Int) (e : Ending) (w' : World) : Prop := e = .returned (.int .i64 (m + tot rows)) ∧ Below n w w' ∧ Aside0 (RowsU w' n u vc (markRows rows m)) ∧ Aside0 (∀ b, u ≤ b → b < w.heap.size → w'.heap[b]? = w.heap[b]?)
theorem own_same {w w1 : World} {base n : Nat} {vc : Value} {L L2 : List Value} (h1 : w.ownsRow base 37 1 vc n L) (h2 : w1.ownsRow base 37 1 vc n L2) (e : ∀ k, vc.ownBlock = some k → w1.heap[k]? = w.heap[k]?) : L = L2 := by
  have h3 : w1.ownsRow base 37 1 vc n L := own_move h1 e
  rcases h3.2 with ⟨q1, q2⟩ | ⟨g, cap, cur, q1, _, q3, _, _, _, q7⟩
  · have l1 := h3.1
    have l2 := h2.1
    rw [q2] at l1 l2
    simp at l1 l2
    rw [l1, l2]
  · rcases h2.2 with ⟨p1, _⟩ | ⟨g2, cap2, cur2, p1, _, p3, _, _, _, p7⟩
    · rw [q1] at p1; cases p1
    · rw [q1] at p1
      injection p1 with p1 _ _
      injection p1 with p1
      injection p1 with p1
      subst p1
      rw [q3] at p3
      simp at p3
      subst p3
      rw [← q7, ← p7]
set_option maxHeartbeats 4000000 in
set_option maxRecDepth 100000 in
theorem markIntSS_U (n u : Nat) (w : World) (hn : n ≤ w.heap.size) (vc : Value) (rows : List (List Int)) (m : Int) (hh : RowsU w n u vc rows) (hm : 0 ≤ m ∧ m + tot rows ≤ 1000000000) (hl : rows.length ≤ 10000000) : Calls Try.prog 67 #[vc, .int .i64 m] w (MarkU w n u vc rows m) := by
  obtain ⟨h, hvu, hu⟩ := hh
  obtain ⟨A, cap, hvc, hcap⟩ := h.slice
  subst hvc
  obtain ⟨L, hL, hE⟩ := h
  have HU : Aside0 (∀ (i : Nat) (v : Value) (k : Nat), L[i]? = some v → v.ownBlock = some k → k < u) := ⟨fun i v k => hu L i v k hL⟩
  have HVU := Aside0.mk hvu
  have HL := Aside0.mk (And.intro hL hE)
  obtain ⟨w0, hw0⟩ : ∃ w0, w0 = cutW w n := ⟨_, rfl⟩
  have HN : Aside0 (w0.heap.size = n) := ⟨by rw [hw0]; exact cutW_size hn⟩
  have HB0 : Aside0 (Below w0.heap.size w0 w) := ⟨by rw [hw0]; exact cutW_below hn⟩
  clear hL hE hu hvu hw0
  go_enter Try.func67, Try.ntmps67
  go_wp2_with (fail)
  go_loopg [1, 5] rows.length (fun q v1 v5 wr => ∃ (i : Nat), v1 = .int .i64 (m + tot (rows.take i)) ∧ v5 = .int .i64 (i : Int) ∧ Aside0 (i + q = rows.length) ∧ Aside0 (wr.ownsRow n 37 1 (.slice A rows.length cap) rows.length L ∧ RowsL wr n (midRows rows m i) L) ∧ Aside0 (Below n w wr) ∧ Aside0 (∀ b, u ≤ b → b < w.heap.size → wr.heap[b]? = w.heap[b]?))
  case atStart => exact ⟨0, by simp [tot], rfl, ⟨by omega⟩, ⟨by simpa [midRows, markRows] using HL.out⟩, ⟨Below.refl _ _⟩, ⟨fun _ _ _ => rfl⟩⟩
  case round =>
    clear HL
    obtain ⟨i, rfl, rfl, HI, HL, HB, HK⟩ := hrel
    cases gk with
    | zero =>
      have hi : ¬ ((i : Int) < (rows.length : Int)) := by have := HI.out; omega
      have hir : i = rows.length := by have := HI.out; omega
      subst hir
      have e1 : Aside0 (rows.take rows.length = rows ∧ midRows rows m rows.length = markRows rows m) := ⟨by rw [List.take_of_length_le (Nat.le_refl _)]; simp [midRows]⟩
      go_wp2_with (fail)
      go_ret
      refine ⟨by first | rfl | (rw [e1.out.1]; rfl), HB.out, ⟨⟨L, ?_, ?_⟩, HVU.out, fun L2 i v k hL2 hv hk => ?_⟩, HK⟩
      · rw [markRows_len]; exact HL.out.1
      · rw [← e1.out.2]; exact HL.out.2
      · rw [markRows_len] at hL2
        have := own_same HL.out.1 hL2 (fun _ _ => rfl)
        subst this
        exact HU.out i v k hv hk
    | succ q =>
      have hin : i < rows.length := by have := HI.out; omega
      have hi : (i : Int) < (rows.length : Int) := by omega
      have hw := wrap_id (x := (i : Int) + 1) (by omega) (by omega)
      obtain ⟨v, hv, hown⟩ := HL.out.2.1 i rows[i] (mid_get hin)
      have ho1 := HL.out.1
      have ho2 : wr.ownsRow n 37 1 (.slice A rows.length cap) (midRows rows m i).length L := by rw [mid_len]; exact ho1
      obtain ⟨g, cap', hA, _, hcell, _⟩ := RowsD.at ho2 hv
      injection hA with hA hA2 hA3
      clear hA2
      subst hA hA3
      have hmm : 0 ≤ m + tot (rows.take i) ∧ m + tot (rows.take i) + (rows[i].length : Int) ≤ 1000000000000 := by
        have h1 := tot_pos (rows.take i)
        have h2 := tot_le rows (i + 1)
        rw [tot_take hin] at h2
        omega
      have HM := Aside0.mk (markIntS_m rows[i] _ hmm (rows[i].length + 1) (by omega))
      have HT := Aside0.mk (tot_take hin)
      have HS := Aside0.mk (mid_set (m := m) hin)
      have HV := Aside0.mk (And.intro hv hown)
      have hR : Aside0 (Kd.R (Kd.int .i64) 3 wr w0.heap.size (fun k => v.ownBlock = some k) v rows[i]) := ⟨by rw [HN.out]; exact Kd.R_of_own hown (fun _ hk => hk)⟩
      have HBw : Aside0 (Below w0.heap.size w0 wr) := ⟨HB0.out.trans (by rw [HN.out]; exact HB.out)⟩
      clear hv hown ho1 ho2 hmm
      generalize rows[i] = r at *
      generalize hmi : m + tot (rows.take i) = mi at *
      replace hmi := Aside0.mk hmi
      go_wp2_with (first | (go_at_call 36; refine (laws_markIntS.calls (r.length + 1) (fun k => v.ownBlock = some k) v r mi _ _ w0 _ HBw.out hR.out HM.out).mono ?_; rintro e w1 ⟨rfl, ho, hb, hk⟩; have HK1 := Aside0.mk hk; have HO := Aside0.mk (Kd.own_of_R ho); have HB1 := Aside0.mk hb; clear ho hb hk))
      go_roundg q
      case measure => omega
      case rel =>
        have hown1 : w1.ownsRow n 3 1 v (marks r.length mi).length (encI (marks r.length mi)) := by have := HO.out; rw [HN.out] at this; exact this
        have hput := RowsD.put (w1 := w1) (r := marks r.length mi) (by rw [mid_len]; exact HL.out.1) HL.out.2 HV.out.1 hown1 (fun b hb hne => HK1.out.2 b hb (fun c => hne c))
        rw [HS.out] at hput
        rw [mid_len] at hput
        have hb1 : Below n w w1 := by
          have h1 := HB1.out
          rw [HN.out] at h1
          have h0 := HB0.out
          rw [HN.out] at h0
          refine ⟨h1.os.trans h0.os.symm, h1.tape.trans h0.tape.symm, h1.output.trans h0.output.symm, Nat.le_trans HB.out.size HK1.out.1, fun k hk => (h1.block k hk).trans (h0.block k hk).symm⟩
        refine ⟨i + 1, by rw [HT.out, ← Int.add_assoc, hmi.out], by first | rfl | go_num, ⟨by have := HI.out; omega⟩, ⟨hput⟩, ⟨hb1⟩, ⟨fun b h1 h2 => ?_⟩⟩
        exact (HK1.out.2 b (by have := HB.out.size; omega) (fun c => by have := HU.out i v b HV.out.1 c; omega)).trans (HK.out b h1 h2)
def ListD (w : World) (base : Nat) (v : Value) (l : List Int) : Prop := w.ownsRow base 3 1 v l.length (encI l)
def ListC (w : World) (v : Value) (l : List Int) : Prop := ∃ A c, v = .slice A l.length c ∧ l.length ≤ c ∧ Kd.C (Kd.int .i64) w A l.length l
def ListU (w : World) (base u : Nat) (v : Value) (l : List Int) : Prop := ListD w base v l ∧ ∀ k, v.ownBlock = some k → k < u
theorem ListC.below {w w1 : World} {v : Value} {l : List Int} (h : ListC w v l) (hB : Below w.heap.size w w1) : ListC w1 v l := by
  obtain ⟨A, c, h1, h2, h3⟩ := h
  exact ⟨A, c, h1, h2, Kd.C_below h3 hB⟩
theorem ListD.reads {w : World} {base : Nat} {v : Value} {l : List Int} (h : ListD w base v l) : ListC w v l := rowI_reads h
theorem ListD.toU {w : World} {base : Nat} {v : Value} {l : List Int} (h : ListD w base v l) : ListU w base w.heap.size v l := ⟨h, fun k hk => own_lt h k hk⟩
theorem ListU.reads {w : World} {base u : Nat} {v : Value} {l : List Int} (h : ListU w base u v l) : ListC w v l := h.1.reads
theorem ListU.moveIn {w w1 : World} {base u : Nat} {v : Value} {l : List Int} (h : ListU w base u v l) (e : ∀ b, base ≤ b → b < u → w1.heap[b]? = w.heap[b]?) : ListU w1 base u v l :=
  ⟨own_move h.1 fun k hk => e k (own_base h.1 k hk) (h.2 k hk), h.2⟩
theorem ListU.below {w w1 : World} {base u : Nat} {v : Value} {l : List Int} (h : ListU w base u v l) (hu : u ≤ w.heap.size) (hB : Below w.heap.size w w1) : ListU w1 base u v l := h.moveIn fun b _ hb => hB.block b (by omega)
theorem ListU.drewN {w : World} {base u : Nat} {v : Value} {l : List Int} (h : ListU w base u v l) (n : Nat) : ListU (w.drewN n) base u v l := h.moveIn fun _ _ _ => by simp
def MarkL (w : World) (n u : Nat) (v : Value) (l : List Int) (m : Int) (e : Ending) (w' : World) : Prop := e = .returned (.int .i64 (m + (l.length : Int))) ∧ Below n w w' ∧ Aside0 (ListU w' n u v (marks l.length m)) ∧ Aside0 (∀ b, u ≤ b → b < w.heap.size → w'.heap[b]? = w.heap[b]?)
theorem markIntS_U (n u : Nat) (w : World) (hn : n ≤ w.heap.size) (v : Value) (l : List Int) (m : Int) (h : ListU w n u v l) (hm : 0 ≤ m ∧ m + (l.length : Int) ≤ 1000000000) : Calls Try.prog 36 #[v, .int .i64 m] w (MarkL w n u v l m) := by
  have hs := cutW_size hn
  have hb := cutW_below hn
  have hR : Kd.R (Kd.int .i64) 3 w (cutW w n).heap.size (fun k => v.ownBlock = some k) v l := by rw [hs]; exact Kd.R_of_own h.1 (fun _ hk => hk)
  refine (laws_markIntS.calls (l.length + 1) (fun k => v.ownBlock = some k) v l m _ _ (cutW w n) w hb hR (markIntS_m l m (by omega) (l.length + 1) (by omega))).mono ?_
  rintro e w1 ⟨rfl, ho, h1, hk⟩
  rw [hs] at h1 hb
  have ho2 := Kd.own_of_R ho
  rw [hs] at ho2
  exact ⟨rfl, ⟨h1.os.trans hb.os.symm, h1.tape.trans hb.tape.symm, h1.output.trans hb.output.symm, hk.1, fun k hlt => (h1.block k hlt).trans (hb.block k hlt).symm⟩, ⟨ho2, h.2⟩, ⟨fun b h2 h3 => hk.2 b h3 fun c => by have := h.2 b c; omega⟩⟩
theorem eqIntS_calls (w : World) (v u : Value) (l : List Int) (hv : ListC w v l) (hu : ListC w u l) (hn : l.length ≤ 10000000) : Calls Try.prog 30 #[v, u] w fun e w' => e = .returned (.bool true) ∧ Drawn0 w w' := by
  obtain ⟨A, c, rfl, hc, hC⟩ := hv
  obtain ⟨A2, c2, rfl, hc2, hC2⟩ := hu
  exact laws_eqIntS.calls (l.length + 2) A c l A2 c2 l true w hC hc hC2 hc2 (eqIntS_refl l (by omega) _ (by omega))
theorem heldIntS_calls (w : World) (v : Value) (l : List Int) (m : Int) (hv : ListC w v (marks l.length m)) (hm : 0 ≤ m ∧ m + (l.length : Int) ≤ 1000000000) : Calls Try.prog 37 #[v, .int .i64 m] w fun e w' => e = .returned (.int .i64 (m + (l.length : Int))) ∧ Drawn0 w w' := by
  obtain ⟨A, c, rfl, hc, hC⟩ := hv
  exact laws_heldIntS.calls (l.length + 2) A c (marks l.length m) m _ w hC hc (heldIntS_m l.length m (by omega) _ (by omega))
/-- The size test, with what it tells. -/
def Small (l : List (List Int)) : Prop := l.length ≤ 1048576 ∧ tot l ≤ 1048576 ∧ ∀ r ∈ l, r.length ≤ 1048576
theorem RowsC.maxs {w : World} {vc : Value} {rows : List (List Int)} (h : RowsC w vc rows) : (rows.length : Int) ≤ 9223372036854775807 ∧ ∀ r ∈ rows, (r.length : Int) ≤ 9223372036854775807 := by
  obtain ⟨A, c, rfl, hc, hC⟩ := h
  refine ⟨by have := hC.2.1; omega, fun r hr => ?_⟩
  obtain ⟨i, hi, rfl⟩ := List.mem_iff_getElem.1 hr
  obtain ⟨ad, A0, c0, _, _, _, h4⟩ := at_L1 hC (i : Int) (by omega) (by omega)
  rw [rdL_at rows i hi] at h4
  have := h4.2.1
  omega
def szZ (l : List (List Int)) (x : Int) : Int := if x - (l.length : Int) < 0 then -1 else szR l (x - (l.length : Int))
theorem szZ_is (rows : List (List Int)) (x : Int) (hx : 0 ≤ x ∧ x ≤ 1048576) : szZ rows x = -1 ∨ (0 ≤ szZ rows x ∧ szZ rows x ≤ 1048576 ∧ Small rows) := by
  unfold szZ
  split
  · exact .inl rfl
  · rcases szR_is rows (x - (rows.length : Int)) (by omega) with h1 | ⟨h1, h2⟩
    · exact .inl h1
    · have h3 := tot_pos rows
      refine .inr ⟨by omega, by omega, by omega, by omega, fun r hr => ?_⟩
      have := tot_mem r hr
      omega
theorem szSS_f (rows : List (List Int)) (x : Int) (hx : 0 ≤ x ∧ x ≤ 1048576) (hl : (rows.length : Int) ≤ 9223372036854775807) (hr : ∀ r ∈ rows, (r.length : Int) ≤ 9223372036854775807) : laws_szIntSS.f (rows.length + 1) rows x = some (szZ rows x) := by
  unfold laws_szIntSS.f szZ
  rw [wrap_id (x := x - (rows.length : Int)) (by omega) (by omega)]
  by_cases q : x - (rows.length : Int) < 0
  · rw [if_pos q, if_pos q]
  · rw [if_neg q, if_neg q]
    have := szSS_loop rows (by omega) hr rows.length (rows.length + 1) 0 (x - (rows.length : Int)) (by omega) (by omega) (by omega) (by omega)
    rw [show ((0 : Nat) : Int) = 0 from rfl, List.drop_zero] at this
    exact this
def FitsL (R : List Int) : Prop := R.length ≤ 1000000
theorem eqRL_c (w : World) (v u : Value) (l : List Int) (hv : ListC w v l) (hu : ListC w u l) (hs : FitsL l) : Calls Try.prog 30 #[v, u] w fun e w' => e = .returned (.bool true) ∧ Drawn0 w w' :=
  eqIntS_calls w v u l hv hu (by unfold FitsL at hs; omega)
theorem heldRL_c (w : World) (v : Value) (R : List Int) (h : ListC w v (marks R.length 1)) (hf : FitsL R) : Calls Try.prog 37 #[v, .int .i64 1] w fun e w' => e = .returned (.int .i64 (1 + (R.length : Int))) ∧ Drawn0 w w' :=
  heldIntS_calls w v R 1 h (by unfold FitsL at hf; omega)
theorem markRL_U (n u : Nat) (w : World) (hn : n ≤ w.heap.size) (v : Value) (R : List Int) (m : Int) (hm1 : m = 1) (h : ListU w n u v R) (hf : FitsL R) : Calls Try.prog 36 #[v, .int .i64 m] w (MarkL w n u v R m) :=
  markIntS_U n u w hn v R m h (by unfold FitsL at hf; omega)
end Go.Proofs.Ytnbnalbomflafaa.RA
/-! ## Rb -/
namespace Go.Proofs.Ytnbnalbomflafaa.RA
open Go.RowKit Go.Proofs.YtnbnalbomflafaaW.PrintWords Go.Proofs.YtnbnalbomflafaaW.PrintLast Go.Proofs.YtnbnalbomflafaaW.PrintMore
open Go.Proofs.Ytnbnalbomflafaa.GA
open Go.Proofs.Ytnbnalbomflafaa.GD hiding rd_L1 at_L1
set_option linter.unusedVariables false
set_option linter.unusedSimpArgs false
theorem RowsU.moveIn' {w w1 : World} {base u : Nat} {vc : Value} {rows : List (List Int)} (h : RowsU w base u vc rows) (e : ∀ b, b < w.heap.size → w1.heap[b]? = w.heap[b]?) : RowsU w1 base u vc rows := by
  obtain ⟨⟨L, h1, h2⟩, h3, h4⟩ := h
  have hn : L.length = rows.length := by have := own_len h1; omega
  refine ⟨⟨L, own_move h1 (fun k hk => e k (own_lt h1 k hk)), h2.move hn fun i v k hv hk => e k (h2.blk hn hv hk).2.1⟩, h3, fun L2 i v k hL hv hk => ?_⟩
  exact h4 L2 i v k (own_move hL fun k hk => (e k (own_lt h1 k hk)).symm) hv hk
theorem cell_same {w w1 : World} {g : Nat} (h : w1.heap[g]? = w.heap[g]?) (i : Nat) : w1.cell? ⟨g, i, none⟩ = w.cell? ⟨g, i, none⟩ := by
  unfold World.cell?
  simp only [h]
theorem box_20 (w : World) (v : Value) (t : TypeId) (u : Value) (s : TypeId) : ((w.alloc (.cells #[v] t)).alloc (.cells #[u] s)).cell? ⟨w.heap.size, 0, none⟩ = some v := (blk_cell (blk_alloc (blk_new w _) _) 0).trans rfl
theorem box_21 (w : World) (v : Value) (t : TypeId) (u : Value) (s : TypeId) : ((w.alloc (.cells #[v] t)).alloc (.cells #[u] s)).cell? ⟨w.heap.size + 1, 0, none⟩ = some u := by
  have h := blk_new (w.alloc (.cells #[v] t)) (.cells #[u] s)
  rw [show (w.alloc (.cells #[v] t)).heap.size = w.heap.size + 1 by simp] at h
  exact (blk_cell h 0).trans rfl
theorem szG_c (w : World) (v : Value) (l : List (List Int)) (h : RowsC w v l) (x : Int) (hx : 0 ≤ x ∧ x ≤ 1048576) : Calls Try.prog 19 #[.agg #[v], .int .i64 x] w fun e w' => e = .returned (.int .i64 (szZ l x)) ∧ Below w.heap.size w w' := by
  have h2 := szSS_f l x hx h.maxs.1 h.maxs.2
  have h3 := szZ_is l x hx
  obtain ⟨A, c, rfl, hc, hC⟩ := h
  refine laws_szGraph.calls (l.length + 1) A c l x _ w hC hc ?_
  unfold laws_szGraph.f
  rw [h2, Option.bind_some]
  rcases h3 with h3 | ⟨h3, _⟩
  · rw [h3]; rfl
  · rw [if_neg (by omega)]
theorem toG_c (w : World) (v : Value) (l : List (List Int)) (h : RowsC w v l) (hs : Small l) : Calls Try.prog 21 #[.agg #[v]] w fun e w' => ∃ u, e = .returned (.agg #[u]) ∧ Below w.heap.size w w' ∧ Aside0 (RowsD w' w.heap.size u l) := by
  obtain ⟨A, c, rfl, hc, hC⟩ := h
  refine (laws_toGraph.calls (1048576 + l.length + 2) A c l l w hC hc ?_).mono ?_
  · unfold laws_toGraph.f
    rw [toSS_is l hs.1 hs.2.2]
    rfl
  · rintro e w' ⟨u, rfl, hS, hB⟩
    exact ⟨u, rfl, hB, ⟨rowsD_of_S hS⟩⟩
theorem eqG_c (w : World) (v u : Value) (l : List (List Int)) (hv : RowsC w v l) (hu : RowsC w u l) (hs : Small l) : Calls Try.prog 24 #[.agg #[v], .agg #[u]] w fun e w' => e = .returned (.bool true) ∧ Below w.heap.size w w' := by
  obtain ⟨A, c, rfl, hc, hC⟩ := hv
  obtain ⟨A2, c2, rfl, hc2, hC2⟩ := hu
  refine laws_eqGraph.calls (1048576 + l.length + 2) A c l A2 c2 l true w hC hc hC2 hc2 ?_
  unfold laws_eqGraph.f
  rw [eqIntSS_refl l (by have := hs.1; omega) 1048576 hs.2.2 (by decide)]
  rfl
set_option maxHeartbeats 1000000 in
set_option maxRecDepth 100000 in
theorem markG_F (n u : Nat) (w : World) (hn : n ≤ w.heap.size) (v : Value) (l : List (List Int)) (m : Int) (h : RowsU w n u v l) (hm : m + tot l ≤ 1000000000) (hl : l.length ≤ 10000000) (h0 : 0 ≤ m) : Calls Try.prog 35 #[.agg #[v], .int .i64 m] w (MarkU w n u v l m) := by
  have HM := Aside0.mk (markIntSS_U n u (w.alloc (.cells #[v] 30)) (by simp; omega) v l m (h.moveIn' (fun b hb => Below.heap_alloc w _ b hb)) (by omega) hl)
  obtain ⟨A, c, hv, hc⟩ := h.1.slice
  subst hv
  have q0 := (blk_cell (blk_new w (.cells #[.slice A l.length c] 30)) 0).trans rfl
  go_enter Try.func35, Try.ntmps35
  go_wp2_with (first | (go_at_call 67; refine HM.out.mono ?_; rintro e w1 ⟨rfl, hB, hU, hK⟩))
  go_ret
  refine ⟨rfl, ⟨hB.os, hB.tape, hB.output, Nat.le_trans (by simp) hB.size, fun k hk => (hB.block k hk).trans (Below.heap_alloc w _ k (by omega))⟩, hU, ⟨fun b h1 h2 => (hK.out b h1 (by simp; omega)).trans (Below.heap_alloc w _ b h2)⟩⟩
theorem markG_U (n u : Nat) (w : World) (hn : n ≤ w.heap.size) (v : Value) (l : List (List Int)) (m : Int) (h : RowsU w n u v l) (hs : Small l) (hm : 0 ≤ m + tot l ∧ m + tot l ≤ 100000000) (h0 : 0 ≤ m) : Calls Try.prog 35 #[.agg #[v], .int .i64 m] w (MarkU w n u v l m) :=
  markG_F n u w hn v l m h (by omega) (by have := hs.1; omega) h0
theorem szS_c (w : World) (v : Value) (l : List (List Int)) (h : RowsC w v l) (x : Int) (hx : 0 ≤ x ∧ x ≤ 1048576) : Calls Try.prog 53 #[.agg #[v], .int .i64 x] w fun e w' => e = .returned (.int .i64 (szZ l x)) ∧ Below w.heap.size w w' := by
  have h2 := szSS_f l x hx h.maxs.1 h.maxs.2
  have h3 := szZ_is l x hx
  obtain ⟨A, c, rfl, hc, hC⟩ := h
  refine laws_szStacks.calls (l.length + 1) A c l x _ w hC hc ?_
  unfold laws_szStacks.f
  rw [h2, Option.bind_some]
  rcases h3 with h3 | ⟨h3, _⟩
  · rw [h3]; rfl
  · rw [if_neg (by omega)]
theorem toS_c (w : World) (v : Value) (l : List (List Int)) (h : RowsC w v l) (hs : Small l) : Calls Try.prog 55 #[.agg #[v]] w fun e w' => ∃ u, e = .returned (.agg #[u]) ∧ Below w.heap.size w w' ∧ Aside0 (RowsD w' w.heap.size u l) := by
  obtain ⟨A, c, rfl, hc, hC⟩ := h
  refine (laws_toStacks.calls (1048576 + l.length + 2) A c l l w hC hc ?_).mono ?_
  · unfold laws_toStacks.f
    rw [toSS_is l hs.1 hs.2.2]
    rfl
  · rintro e w' ⟨u, rfl, hS, hB⟩
    exact ⟨u, rfl, hB, ⟨rowsD_of_S hS⟩⟩
theorem eqS_c (w : World) (v u : Value) (l : List (List Int)) (hv : RowsC w v l) (hu : RowsC w u l) (hs : Small l) : Calls Try.prog 57 #[.agg #[v], .agg #[u]] w fun e w' => e = .returned (.bool true) ∧ Below w.heap.size w w' := by
  obtain ⟨A, c, rfl, hc, hC⟩ := hv
  obtain ⟨A2, c2, rfl, hc2, hC2⟩ := hu
  refine laws_eqStacks.calls (1048576 + l.length + 2) A c l A2 c2 l true w hC hc hC2 hc2 ?_
  unfold laws_eqStacks.f
  rw [eqIntSS_refl l (by have := hs.1; omega) 1048576 hs.2.2 (by decide)]
  rfl
set_option maxHeartbeats 1000000 in
set_option maxRecDepth 100000 in
theorem markS_F (n u : Nat) (w : World) (hn : n ≤ w.heap.size) (v : Value) (l : List (List Int)) (m : Int) (h : RowsU w n u v l) (hm : m + tot l ≤ 1000000000) (hl : l.length ≤ 10000000) (h0 : 0 ≤ m) : Calls Try.prog 60 #[.agg #[v], .int .i64 m] w (MarkU w n u v l m) := by
  have HM := Aside0.mk (markIntSS_U n u (w.alloc (.cells #[v] 59)) (by simp; omega) v l m (h.moveIn' (fun b hb => Below.heap_alloc w _ b hb)) (by omega) hl)
  obtain ⟨A, c, hv, hc⟩ := h.1.slice
  subst hv
  have q0 := (blk_cell (blk_new w (.cells #[.slice A l.length c] 59)) 0).trans rfl
  go_enter Try.func60, Try.ntmps60
  go_wp2_with (first | (go_at_call 67; refine HM.out.mono ?_; rintro e w1 ⟨rfl, hB, hU, hK⟩))
  go_ret
  refine ⟨rfl, ⟨hB.os, hB.tape, hB.output, Nat.le_trans (by simp) hB.size, fun k hk => (hB.block k hk).trans (Below.heap_alloc w _ k (by omega))⟩, hU, ⟨fun b h1 h2 => (hK.out b h1 (by simp; omega)).trans (Below.heap_alloc w _ b h2)⟩⟩
theorem markS_U (n u : Nat) (w : World) (hn : n ≤ w.heap.size) (v : Value) (l : List (List Int)) (m : Int) (h : RowsU w n u v l) (hs : Small l) (hm : 0 ≤ m + tot l ∧ m + tot l ≤ 100000000) (h0 : 0 ≤ m) : Calls Try.prog 60 #[.agg #[v], .int .i64 m] w (MarkU w n u v l m) :=
  markS_F n u w hn v l m h (by omega) (by have := hs.1; omega) h0
end Go.Proofs.Ytnbnalbomflafaa.RA
/-! ## GB0 -/
namespace Go.Proofs.Ytnbnalbomflafaa.GB
open Go.RowKit Go.Proofs.YtnbnalbomflafaaW.PrintWords Go.Proofs.YtnbnalbomflafaaW.PrintLast Go.Proofs.YtnbnalbomflafaaW.PrintMore
open Go.Proofs.Ytnbnalbomflafaa.GA
attribute [local go_sem] max2_int min2_int max_two min_two max_three min_three max_four min_four   -- for this text's walks alone
set_option linter.unusedVariables false
set_option linter.unusedSimpArgs false
def errW : Option Int → Value
  | none => .nilIface
  | some c => .iface 0 (.int .i64 c)
theorem errW_none : errW none = .nilIface := rfl
theorem errW_some (c : Int) : errW (some c) = .iface 0 (.int .i64 c) := rfl
theorem info3 : (Try.prog.info? 3).map (fun i => (i.zero, i.size, i.bytes)) = some (some (.int .i64 0), 1, 8) := by kernel_rfl
theorem info37 : (Try.prog.info? 37).map (fun i => (i.zero, i.size, i.bytes)) = some (some (.slice none 0 0), 1, 24) := by kernel_rfl
def rd_L1 (xs : List (List Int)) (i : Int) : (List Int) := xs.getD i.toNat ([] : List Int)
theorem at_L1 {w : World} {A : Option Addr} {n : Nat} {xs : List (List Int)} (h : Kd.C (Kd.slice 3 (Kd.int .i64)) w A n xs) (i : Int) (h0 : 0 ≤ i) (h1 : i < n) : ∃ ad A0 c0, A = some ad ∧ w.cell? (ad.add i.toNat) = some (.slice A0 (rd_L1 xs i).length c0) ∧ (rd_L1 xs i).length ≤ c0 ∧ (Kd.int .i64).C w A0 (rd_L1 xs i).length (rd_L1 xs i) := by
  obtain ⟨ad, c, e, _, hK, hc0⟩ := Kd.C_get h ([] : List Int) i h0 h1
  have hc : ∀ j u, c[j]? = some u → w.cell? (ad.add (i.toNat * 1 + j)) = some u := hc0
  obtain ⟨A0, c0, rfl, l0, g0⟩ := hK
  exact ⟨ad, A0, c0, e, by have hq := hc 0 _ rfl; rwa [Nat.mul_one, Nat.add_zero] at hq, l0, g0⟩
end Go.Proofs.Ytnbnalbomflafaa.GB
/-! ## GB1 -/
namespace Go.Proofs.Ytnbnalbomflafaa.GB
open Go.RowKit Go.Proofs.YtnbnalbomflafaaW.PrintWords Go.Proofs.YtnbnalbomflafaaW.PrintLast Go.Proofs.YtnbnalbomflafaaW.PrintMore
open Go.Proofs.Ytnbnalbomflafaa.GA
attribute [local go_sem] max2_int min2_int max_two min_two max_three min_three max_four min_four   -- for this text's walks alone
set_option linter.unusedVariables false
set_option linter.unusedSimpArgs false
mutual
def spec_grFar.l0 : Nat → Int → List Int → Int → Int → List (List Int) → Option (List Int)
  | 0, _, _, _, _, _ => none
  | k + 1, x1, x5, x16, x17, x145000 => if x17 < x16 then (if 0 ≤ x17 then (if x17 < (x5.length : Int) then (spec_grFar.l0 k x1 (x5.set (x17 : Int).toNat (-1)) x16 (wrap64 (x17 + 1)) x145000) else (none)) else (none)) else (if 0 ≤ x1 then (if x1 < (x5.length : Int) then (spec_grFar.l1 k (x5.set (x1 : Int).toNat 0) (([x1] : List Int)) 0 x145000) else (none)) else (none))
def spec_grFar.l1 : Nat → List Int → List Int → Int → List (List Int) → Option (List Int)
  | 0, _, _, _, _ => none
  | k + 1, x5, x7, x8, x145000 => if x8 < (x7.length : Int) then (if 0 ≤ x8 then (if 0 ≤ (rd x7 x8) then (if (rd x7 x8) < (x145000.length : Int) then (spec_grFar.l2 k x5 x7 x8 (rd_L1 x145000 (rd x7 x8)) ((rd_L1 x145000 (rd x7 x8)).length : Int) 0 x145000) else (none)) else (none)) else (none)) else (some x5)
def spec_grFar.l2 : Nat → List Int → List Int → Int → List Int → Int → Int → List (List Int) → Option (List Int)
  | 0, _, _, _, _, _, _, _ => none
  | k + 1, x5, x7, x8, x42, x43, x44, x145000 => if x44 < x43 then (if 0 ≤ x44 then (if x44 < (x42.length : Int) then (if 0 ≤ (rd x42 x44) then (if (rd x42 x44) < (x5.length : Int) then (if (rd x5 (rd x42 x44)) < 0 then (if 0 ≤ x8 then (if x8 < (x7.length : Int) then (if 0 ≤ (rd x7 x8) then (if (rd x7 x8) < (x5.length : Int) then (if x7.length < 17592186044416 then (spec_grFar.l2 k (x5.set ((rd x42 x44) : Int).toNat (wrap64 ((rd x5 (rd x7 x8)) + 1))) (x7 ++ [rd x42 x44]) x8 x42 x43 (wrap64 (x44 + 1)) x145000) else (none)) else (none)) else (none)) else (none)) else (none)) else (spec_grFar.l2 k x5 x7 x8 x42 x43 (wrap64 (x44 + 1)) x145000)) else (none)) else (none)) else (none)) else (none)) else (spec_grFar.l1 k x5 x7 (wrap64 (x8 + 1)) x145000)
end
def spec_grFar.f (k : Nat) (l0_0 : List (List Int)) (a1 : Int) : Option (List Int) := if 0 ≤ (l0_0.length : Int) then (if ((l0_0.length : Int) : Int).toNat ≤ 35184372088832 then ((some (List.replicate ((l0_0.length : Int) : Int).toNat 0 : List Int)).bind fun y145 => (spec_grFar.l0 k a1 y145 (y145.length : Int) 0 l0_0)) else (none)) else (none)
end Go.Proofs.Ytnbnalbomflafaa.GB
/-! ## GB2 -/
namespace Go.Proofs.Ytnbnalbomflafaa.GB
open Go.RowKit Go.Proofs.YtnbnalbomflafaaW.PrintWords Go.Proofs.YtnbnalbomflafaaW.PrintLast Go.Proofs.YtnbnalbomflafaaW.PrintMore
open Go.Proofs.Ytnbnalbomflafaa.GA
attribute [local go_sem] max2_int min2_int max_two min_two max_three min_three max_four min_four   -- for this text's walks alone
set_option linter.unusedVariables false
set_option linter.unusedSimpArgs false
def spec_hiCan.l0 : Nat → Int → Int → List (List Int) → Int → Int → List (List Int) → Option (Bool)
  | 0, _, _, _, _, _, _ => none
  | k + 1, x1, x2, x11, x12, x13, x164000 => if x13 < x12 then (if 0 ≤ x13 then (if x13 < (x11.length : Int) then ((spec_grFar.f k x164000 x13).bind fun t165 => (if 0 ≤ x1 then (if x1 < (t165.length : Int) then (if (rd t165 x1) < 0 then (if 0 ≤ x2 then (if x2 < (t165.length : Int) then (if (rd t165 x2) < 0 then (some false) else (if x13 = x1 then (spec_hiCan.l0 k x1 x2 x11 x12 (wrap64 (x13 + 1)) x164000) else (if x13 = x2 then (spec_hiCan.l0 k x1 x2 x11 x12 (wrap64 (x13 + 1)) x164000) else (if ((rd_L1 x11 x13).length : Int) = 0 then (some false) else (spec_hiCan.l0 k x1 x2 x11 x12 (wrap64 (x13 + 1)) x164000))))) else (none)) else (none)) else (if x13 = x1 then (spec_hiCan.l0 k x1 x2 x11 x12 (wrap64 (x13 + 1)) x164000) else (if x13 = x2 then (spec_hiCan.l0 k x1 x2 x11 x12 (wrap64 (x13 + 1)) x164000) else (if ((rd_L1 x11 x13).length : Int) = 0 then (some false) else (spec_hiCan.l0 k x1 x2 x11 x12 (wrap64 (x13 + 1)) x164000))))) else (none)) else (none))) else (none)) else (none)) else (some true)
end Go.Proofs.Ytnbnalbomflafaa.GB
/-! ## Sh -/
namespace Go.Proofs
open Go.Shelf
def Try.laysSlH8_f108_ren : Go.Shelf.Ren := ⟨fun | 8 => 108 | 6 => 127 | n => n, fun | 22 => 37 | 23 => 3 | 25 => 104 | 4 => 4 | 3 => 3 | 0 => 0 | n => n, fun | n => n⟩
theorem Try.laysSlH8_f108 : Go.Proofs.SlLaysH.n8 Try.prog Try.laysSlH8_f108_ren := {
  mixed := by kernel_rfl
  f6 := ⟨Try.f127.name, by decide, Try.func127.trans (congrArg some (by kernel_rfl))⟩
  f8 := ⟨Try.f108.name, by decide, Try.func108.trans (congrArg some (by kernel_rfl))⟩
  t0 := Try.underlying0
  a0 := Try.isAgg0
  z0 := Try.sizeOf0
  v0 := Try.zeroValue0
  t3 := Try.underlying3
  a3 := Try.isAgg3
  z3 := Try.sizeOf3
  v3 := Try.zeroValue3
  t4 := Try.underlying4
  a4 := Try.isAgg4
  z4 := Try.sizeOf4
  v4 := Try.zeroValue4
  t22 := Try.underlying37
  a22 := Try.isAgg37
  z22 := Try.sizeOf37
  v22 := Try.zeroValue37
  a23 := Try.isAgg3
  z23 := Try.sizeOf3
  t25 := Try.underlying104
  a25 := Try.isAgg104
  z25 := Try.sizeOf104
  v25 := Try.zeroValue104 }
open Go.RowKit Go.Lib in
/-- slices.ContainsFunc: "ContainsFunc reports whether at least one element e of s satisfies f(e).": ITS CALLEE slices.IndexFunc IS MET BY ITS OWN CONTRACT. (LAID AT THE INSTANCE 'slices.ContainsFunc[[]int,int]': no walk: one application.) -/
theorem Try.slices_ContainsFunc {α : Type} [Inhabited α] (enc : α → Value) (p : α → Bool) (g : Nat) (lb : Array Value) (eg : ∀ args w, (callFunc g args).run Try.prog w = .ok (.enter g args) w) (b off n c : Nat) (zs : List α) (w : World) (hp : PredAt Try.prog g lb enc p w) (hz : n ≤ zs.length) (hbig : n ≤ 9223372036854775807) (hc : ∀ j, j < zs.length → w.cell? ⟨b, off + j, none⟩ = some (enc zs[j]!)) :
    Calls Try.prog 108 #[.slice (some ⟨b, off, none⟩) n c, .func (.func g) #[] lb] w fun e w' => e = .returned (.bool ((zs.take n).any p)) ∧ ∃ q, w' = w.drewN q := AnyE.slices_ContainsFunc Try.laysSlH8_f108 enc p g lb eg b off n c zs w hp hz hbig hc
open Go.RowKit Go.Lib in
/-- The same at a slice of length 0, a nil one too. (LAID AT THE INSTANCE 'slices.ContainsFunc[[]int,int]': no walk: one application.) -/
theorem Try.slices_ContainsFunc_empty {α : Type} [Inhabited α] (a : Option Addr) (c : Nat) (fv : Value) (w : World) :
    Calls Try.prog 108 #[.slice a 0 c, fv] w fun e w' => e = .returned (.bool false) ∧ w' = w := AnyE.slices_ContainsFunc_empty Try.laysSlH8_f108 a c fv w
end Go.Proofs
/-! ## Ka -/
namespace Go.Proofs.Ytnbnalbomflafaa.KA
open Go.RowKit Go.Proofs.YtnbnalbomflafaaW.PrintWords Go.Proofs.YtnbnalbomflafaaW.PrintLast Go.Proofs.YtnbnalbomflafaaW.PrintMore
open Go.Proofs.Ytnbnalbomflafaa.GA
open Go.Shelf Go.Lib
set_option linter.unusedVariables false
set_option linter.unusedSimpArgs false
/-- The address of a row that has an element bears no spot. -/
theorem addr_plain {w : World} {ad : Addr} {v : Value} (h : w.cell? ad = some v) : ad = ⟨ad.block, ad.off, none⟩ := by
  obtain ⟨b, o, s⟩ := ad
  cases s with
  | none => rfl
  | some s =>
    simp only [World.cell?] at h
    split at h
    · simp at h
    · cases h
theorem ints_get (l : List Int) (j : Nat) (h : j < l.length) : l.getD j 0 = l[j]! := by
  rw [getElem!_pos l j h, List.getD_eq_getElem?_getD, List.getElem?_eq_getElem h]
  rfl
/-- slices.ContainsFunc, at a list of whole numbers that is read, be it empty or not. -/
theorem contains_calls (p : Int → Bool) (g : Nat) (lb : Array Value) (eg : ∀ args w, (callFunc g args).run Try.prog w = .ok (.enter g args) w) (A : Option Addr) (c : Nat) (l : List Int) (w : World)
    (hp : PredAt Try.prog g lb (Value.int .i64) p w) (hr : Kd.C (Kd.int .i64) w A l.length l) :
    Calls Try.prog 108 #[.slice A l.length c, .func (.func g) #[] lb] w fun e w' => e = .returned (.bool (l.any p)) ∧ ∃ q, w' = w.drewN q := by
  rcases Nat.eq_zero_or_pos l.length with h0 | h0
  · obtain rfl : l = [] := List.eq_nil_of_length_eq_zero h0
    refine (Try.slices_ContainsFunc_empty (α := Int) A c _ w).mono ?_
    rintro e w' ⟨rfl, rfl⟩
    exact ⟨rfl, 0, rfl⟩
  · have hcell : ∀ j, j < l.length → ∃ ad, A = some ad ∧ w.cell? (ad.add j) = some (.int .i64 (l.getD j 0)) := fun j hj => by
      obtain ⟨ad, e, hc⟩ := Kd.at_int hr (j : Int) (by omega) (by omega)
      rw [Int.toNat_natCast] at hc
      exact ⟨ad, e, by simpa [rd] using hc⟩
    obtain ⟨ad, rfl, hc0⟩ := hcell 0 h0
    have hpl : ad = ⟨ad.block, ad.off, none⟩ := addr_plain (by simpa [Addr.add] using hc0)
    have hc : ∀ j, j < l.length → w.cell? ⟨ad.block, ad.off + j, none⟩ = some (.int .i64 l[j]!) := fun j hj => by
      obtain ⟨ad', e, hc⟩ := hcell j hj
      injection e with e
      subst e
      rw [← ints_get l j hj, ← hc]
      congr 1
      unfold Addr.add
      split
      · rename_i h; subst h; exact hpl.symm
      · rfl
    rw [hpl]
    have hlen : l.length ≤ 9223372036854775807 := hr.2.1
    refine (Try.slices_ContainsFunc (Value.int .i64) p g lb eg ad.block ad.off l.length c l w hp (Nat.le_refl _) hlen hc).mono ?_
    rintro e w' ⟨rfl, h⟩
    rw [List.take_of_length_le (Nat.le_refl _)]
    exact ⟨rfl, h⟩
def inB (n lo hi : Int) : Bool := decide (lo ≤ n ∧ n ≤ hi)
theorem in_eq (a lo hi : Int) : impl_in.f a lo hi = some (inB a lo hi) := by
  unfold impl_in.f inB
  by_cases h1 : lo ≤ a
  · simp [h1]
  · simp [h1]
def okRow (n : Int) (row : List Int) : Bool := decide (row.length ≤ 5) && !(row.any fun q => !inB q 0 (n - 1))
def isGraphB (l : List (List Int)) : Bool := decide (1 ≤ l.length ∧ l.length ≤ 8) && l.all (okRow l.length)
theorem pred126 (n : Int) (B : Nat) (w : World) (hB : B < w.heap.size) (hcell : w.cell? ⟨B, 0, none⟩ = some (.int .i64 n)) (h0 : 0 ≤ n) (h1 : n ≤ 100) :
    PredAt Try.prog 126 #[.pointer (some ⟨B, 0, none⟩)] (Value.int .i64) (fun q => !inB q 0 (n - 1)) w := fun W x hb => by
  have hc : W.cell? ⟨B, 0, none⟩ = some (.int .i64 n) := (hb.cell (p := ⟨B, 0, none⟩) hB).trans hcell
  have HI := Aside0.mk (in_eq x 0 (n - 1))
  show Calls Try.prog 126 #[.int .i64 x, .pointer (some ⟨B, 0, none⟩)] W _
  obtain ⟨b, hbb⟩ : ∃ b, b = inB x 0 (n - 1) := ⟨_, rfl⟩
  rw [← hbb] at HI
  replace hbb := Aside0.mk hbb
  cases b
  all_goals go_enter Try.func126, Try.ntmps126
  all_goals go_wp2_with (go_at_call 77; (with_reducible refine (impl_in.calls x 0 (n - 1) _ _ HI.out).mono ?_); rintro e w' ⟨rfl, ⟨nd, rfl⟩⟩)
  all_goals (go_ret; exact ⟨by rw [← hbb.out]; rfl, nd, rfl⟩)
theorem enters126 : ∀ args w, (callFunc 126 args).run Try.prog w = .ok (.enter 126 args) w := enters_of Try.func126 (by kernel_rfl) rfl
theorem at_row {w : World} {A : Option Addr} {l : List (List Int)} (h : Kd.C (Kd.slice 3 (Kd.int .i64)) w A l.length l) (i : Nat) (hi : i < l.length) :
    ∃ ad A1 c1, A = some ad ∧ w.cell? (ad.add i) = some (.slice A1 l[i].length c1) ∧ l[i].length ≤ c1 ∧ Kd.C (Kd.int .i64) w A1 l[i].length l[i] := by
  obtain ⟨ad, A1, c1, e, hx, hl, hc⟩ := at_L1 h (i : Int) (by omega) (by omega)
  have e1 : rd_L1 l (i : Int) = l[i] := by simp [rd_L1, List.getD_eq_getElem?_getD, hi]
  rw [e1] at hx hl hc
  exact ⟨ad, A1, c1, e, hx, hl, hc⟩
theorem box_at1 (w : World) (o : Obj) (v : Value) (n : Nat) : (((w.alloc o).alloc (.cells #[v] 3)).drewN n).cell? ⟨w.heap.size + 1, 0, none⟩ = some v := by
  have h := (blk_cell (blk_new (w.alloc o) (.cells #[v] 3)) 0)
  rw [show (w.alloc o).heap.size = w.heap.size + 1 by simp] at h
  exact h.trans rfl
set_option maxHeartbeats 4000000 in
set_option maxRecDepth 100000 in
theorem impl_isGraph.walk (A0_0 : Option Addr) (c0_0 : Nat) (l : List (List Int)) (w : World) (hr0_0 : Kd.C (Kd.slice 3 (Kd.int .i64)) w A0_0 l.length l) :
    Calls Try.prog 107 #[.agg #[.slice A0_0 l.length c0_0]] w fun e w' => e = .returned (.bool (isGraphB l)) ∧ Below w.heap.size w w' := by
  have HR := Aside0.mk hr0_0
  clear hr0_0
  by_cases hn : 1 ≤ l.length ∧ l.length ≤ 8
  · have HI := in_eq (l.length : Int) 1 8
    rw [show inB (l.length : Int) 1 8 = true from by simp [inB]; omega] at HI
    replace HI := Aside0.mk HI
    have hr : isGraphB l = l.all (okRow l.length) := by simp [isGraphB, hn.1, hn.2]
    rw [hr]
    clear hr
    obtain ⟨r, hr⟩ : ∃ r, r = l.all (okRow l.length) := ⟨_, rfl⟩
    rw [← hr]
    replace hr := Aside0.mk hr
    have hu30 := Try.underlying30
    go_enter Try.func107, Try.ntmps107
    go_wp2_with (go_at_call 77; (with_reducible refine (impl_in.calls (l.length : Int) 1 8 true _ HI.out).mono ?_); rintro e w' ⟨rfl, ⟨nd, rfl⟩⟩)
    have W0 := Aside0.mk (below_alloc (below_alloc (Below.refl w.heap.size w) (.cells #[.slice A0_0 l.length c0_0] 30)) (.cells #[.int .i64 (l.length : Int)] 3))
    go_loopg [15] l.length (fun kq v15 wr => ∃ i : Nat, v15 = .int .i64 (i : Int) ∧ Aside0 (i + kq = l.length ∧ (l.drop i).all (okRow l.length) = r) ∧ Aside0 (wr.cell? ⟨w.heap.size + 1, 0, none⟩ = some (.int .i64 (l.length : Int)) ∧ w.heap.size + 1 < wr.heap.size) ∧ Aside0 (Below w.heap.size w wr))
    case atStart => exact ⟨0, rfl, ⟨by omega, by rw [List.drop_zero]; exact hr.out.symm⟩, ⟨box_at1 _ _ _ _, by simp⟩, ⟨pw_below_drewN W0.out _⟩⟩
    case round =>
      clear W0 hr
      obtain ⟨i, rfl, HA, HC, HB⟩ := hrel
      by_cases hlt : i < l.length
      · obtain ⟨k1, rfl⟩ : ∃ m, gk = m + 1 := ⟨gk - 1, by have := HA.out.1; omega⟩
        have h2 := HA.out.2
        rw [List.drop_eq_getElem_cons hlt, List.all_cons] at h2
        replace h2 := Aside0.mk h2
        obtain ⟨ad, A1, c1, rfl, hx, hl1, hC1⟩ := at_row HR.out i hlt
        replace hx := (HB.out.cell (World.block_lt_of_cell? w _ hx)).trans hx
        have hCr := Kd.C_below hC1 HB.out
        generalize l[i] = row at *
        have hi1 : (0 : Int) ≤ (i : Int) := by omega
        have hi2 : (i : Int) < (l.length : Int) := by omega
        by_cases h5 : row.length ≤ 5
        · have h5' : decide (5 < (row.length : Int)) = false := decide_eq_false (by omega)
          have h5'' : decide (5 < row.length) = false := decide_eq_false (by omega)
          have HP := pred126 (l.length : Int) (w.heap.size + 1) wr HC.out.2 HC.out.1 (by omega) (by omega)
          replace HP := Aside0.mk HP
          replace hCr := Aside0.mk hCr
          replace hl1 := Aside0.mk hl1
          replace hC1 := Aside0.mk hC1
          obtain ⟨b, hb⟩ : ∃ b, b = row.any (fun q => !inB q 0 ((l.length : Int) - 1)) := ⟨_, rfl⟩
          replace hb := Aside0.mk hb
          have h6 : okRow (l.length : Int) row = !b := by unfold okRow; rw [hb.out, decide_eq_true h5, Bool.true_and]
          replace h6 := Aside0.mk h6
          cases b with
          | true =>
            go_wp2_with (go_at_call 108; refine (contains_calls _ 126 _ enters126 A1 c1 row _ HP.out hCr.out).mono ?_; rw [← hb.out]; rintro e w' ⟨rfl, ⟨nd2, rfl⟩⟩)
            go_ret
            exact ⟨by have := h2.out; rw [h6.out] at this; simp at this; rw [← this]; rfl, pw_below_drewN HB.out _⟩
          | false =>
            go_wp2_with (go_at_call 108; refine (contains_calls _ 126 _ enters126 A1 c1 row _ HP.out hCr.out).mono ?_; rw [← hb.out]; rintro e w' ⟨rfl, ⟨nd2, rfl⟩⟩)
            go_roundg k1
            case measure => omega
            case rel => exact ⟨i + 1, by go_num, ⟨by have := HA.out.1; omega, by have := h2.out; rw [h6.out] at this; simpa using this⟩, HC, ⟨pw_below_drewN HB.out _⟩⟩
        · have h5' : decide (5 < (row.length : Int)) = true := decide_eq_true (by omega)
          have h5'' : decide (5 < row.length) = true := decide_eq_true (by omega)
          have h6 : okRow (l.length : Int) row = false := by unfold okRow; rw [decide_eq_false h5, Bool.false_and]
          replace h6 := Aside0.mk h6
          go_wp2_with (fail)
          go_ret
          exact ⟨by have := h2.out; rw [h6.out] at this; simp at this; rw [← this]; rfl, HB.out⟩
      · have h2 := HA.out.2
        rw [List.drop_of_length_le (by omega), List.all_nil] at h2
        replace h2 := Aside0.mk h2
        go_wp2_with (fail)
        go_ret
        exact ⟨by rw [← h2.out]; rfl, HB.out⟩
  · have HI := in_eq (l.length : Int) 1 8
    rw [show inB (l.length : Int) 1 8 = false from by simp [inB]; omega] at HI
    replace HI := Aside0.mk HI
    have hr : isGraphB l = false := by unfold isGraphB; rw [decide_eq_false hn, Bool.false_and]
    rw [hr]
    have hu30 := Try.underlying30
    go_enter Try.func107, Try.ntmps107
    go_wp2_with (go_at_call 77; (with_reducible refine (impl_in.calls (l.length : Int) 1 8 false _ HI.out).mono ?_); rintro e w' ⟨rfl, ⟨nd, rfl⟩⟩)
    go_ret
    exact ⟨rfl, pw_below_drewN (below_alloc (below_alloc (Below.refl _ _) _) _) _⟩
end Go.Proofs.Ytnbnalbomflafaa.KA
/-! ## Kb -/
namespace Go.Proofs.Ytnbnalbomflafaa.KA
open Go.RowKit Go.Proofs.YtnbnalbomflafaaW.PrintWords Go.Proofs.YtnbnalbomflafaaW.PrintLast Go.Proofs.YtnbnalbomflafaaW.PrintMore
open Go.Proofs.Ytnbnalbomflafaa.GA
open Go.Shelf Go.Lib
set_option linter.unusedVariables false
set_option linter.unusedSimpArgs false
theorem pred109 (A : Option Addr) (n c : Nat) (B : Nat) (w : World) (hB : B < w.heap.size) (hcell : w.cell? ⟨B, 0, none⟩ = some (.slice A n c)) (h1 : n ≤ 100) :
    PredAt Try.prog 109 #[.pointer (some ⟨B, 0, none⟩)] (Value.int .i64) (fun q => !inB q 0 ((n : Int) - 1)) w := fun W x hb => by
  have hc : W.cell? ⟨B, 0, none⟩ = some (.slice A n c) := (hb.cell (p := ⟨B, 0, none⟩) hB).trans hcell
  have HI := in_eq x 0 ((n : Int) - 1)
  show Calls Try.prog 109 #[.int .i64 x, .pointer (some ⟨B, 0, none⟩)] W _
  obtain ⟨b, hbb⟩ : ∃ b, b = inB x 0 ((n : Int) - 1) := ⟨_, rfl⟩
  rw [← hbb] at HI
  replace HI := Aside0.mk HI
  replace hbb := Aside0.mk hbb
  cases b
  all_goals go_enter Try.func109, Try.ntmps109
  all_goals go_wp2_with (go_at_call 77; (with_reducible refine (impl_in.calls x 0 ((n : Int) - 1) _ _ HI.out).mono ?_); rintro e w' ⟨rfl, ⟨nd, rfl⟩⟩)
  all_goals (go_ret; exact ⟨by rw [← hbb.out]; rfl, nd, rfl⟩)
theorem enters109 : ∀ args w, (callFunc 109 args).run Try.prog w = .ok (.enter 109 args) w := enters_of Try.func109 (by kernel_rfl) rfl
def hasB (l0 : List (List Int)) (l1 : List Int) : Bool := isGraphB l0 && !(l1.any fun q => !inB q 0 ((l0.length : Int) - 1))
theorem graph_len {l : List (List Int)} (h : isGraphB l = true) : 1 ≤ l.length ∧ l.length ≤ 8 := by
  unfold isGraphB at h
  simp only [Bool.and_eq_true, decide_eq_true_eq] at h
  exact h.1
set_option maxHeartbeats 4000000 in
set_option maxRecDepth 100000 in
theorem impl_has.walk (A0 : Option Addr) (c0 : Nat) (l : List (List Int)) (A1 : Option Addr) (c1 : Nat) (ps : List Int) (w : World) (hr0 : Kd.C (Kd.slice 3 (Kd.int .i64)) w A0 l.length l) (hr1 : Kd.C (Kd.int .i64) w A1 ps.length ps) :
    Calls Try.prog 76 #[.agg #[.slice A0 l.length c0], .slice A1 ps.length c1] w fun e w' => e = .returned (.bool (hasB l ps)) ∧ Below w.heap.size w w' := by
  have HR0 := Aside0.mk (Kd.C_alloc hr0 (.cells #[.slice A0 l.length c0] 30))
  have HR1 := Aside0.mk (Kd.C_alloc hr1 (.cells #[.slice A0 l.length c0] 30))
  clear hr0 hr1
  have hu30 := Try.underlying30
  have hbx : (w.alloc (.cells #[.slice A0 l.length c0] 30)).cell? ⟨w.heap.size, 0, none⟩ = some (.slice A0 l.length c0) := (blk_cell (blk_new w (.cells #[.slice A0 l.length c0] 30)) 0).trans rfl
  cases hg : isGraphB l with
  | false =>
    have h0 : hasB l ps = false := by unfold hasB; rw [hg]; rfl
    rw [h0]
    replace hg := Aside0.mk hg
    go_enter Try.func76, Try.ntmps76
    go_wp2_with (go_at_call 107; refine (impl_isGraph.walk A0 c0 l _ HR0.out).mono ?_; rw [hg.out]; rintro e w1 ⟨rfl, hB⟩; have HB := Aside0.mk hB; clear hB)
    go_ret
    exact ⟨rfl, below_then (below_alloc (Below.refl _ _) _) (by simp) HB.out⟩
  | true =>
    have h8 := (graph_len hg).2
    have h0 : hasB l ps = !(ps.any fun q => !inB q 0 ((l.length : Int) - 1)) := by unfold hasB; rw [hg]; rfl
    rw [h0]
    obtain ⟨b, hb⟩ : ∃ b, b = ps.any (fun q => !inB q 0 ((l.length : Int) - 1)) := ⟨_, rfl⟩
    rw [← hb]
    replace hb := Aside0.mk hb
    replace hg := Aside0.mk hg
    clear h0
    go_enter Try.func76, Try.ntmps76
    go_wp2_with (first | (go_at_call 107; refine (impl_isGraph.walk A0 c0 l _ HR0.out).mono ?_; rw [hg.out]; rintro e w1 ⟨rfl, hB⟩; have HB := Aside0.mk hB; have HC := Aside0.mk (Kd.C_below HR1.out hB); have HP := Aside0.mk (pred109 A0 l.length c0 w.heap.size w1 (by have := hB.size; simp at this; omega) ((hB.cell (p := ⟨w.heap.size, 0, none⟩) (by simp)).trans hbx) (by omega)); clear hB) | (go_at_call 108; refine (contains_calls _ 109 _ enters109 A1 c1 ps _ HP.out HC.out).mono ?_; rw [← hb.out]; rintro e w' ⟨rfl, ⟨nd2, rfl⟩⟩))
    go_ret
    exact ⟨by cases b <;> rfl, pw_below_drewN (below_then (below_alloc (Below.refl _ _) _) (by simp) HB.out) _⟩
end Go.Proofs.Ytnbnalbomflafaa.KA
/-! ## Kp -/
namespace Go.Proofs.Ytnbnalbomflafaa.KA
open Go.RowKit Go.Proofs.YtnbnalbomflafaaW.PrintWords Go.Proofs.YtnbnalbomflafaaW.PrintLast
open Go.Proofs.Ytnbnalbomflafaa.GA
set_option linter.unusedVariables false
set_option linter.unusedSimpArgs false
theorem wrap_id {x : Int} (h0 : -9223372036854775808 ≤ x) (h1 : x ≤ 9223372036854775807) : wrap64 x = x := by unfold wrap64; omega
theorem wrap_up {i n : Nat} (h : i < n) (hn : n ≤ 1000000000000) : wrap64 ((i : Int) + 1) = ((i + 1 : Nat) : Int) := by rw [wrap_id (by omega) (by omega)]; omega
theorem rd_at (l : List Int) (i : Nat) (h : i < l.length) : rd l (i : Int) = l[i] := by
  unfold rd
  rw [Int.toNat_natCast, List.getD_eq_getElem?_getD, List.getElem?_eq_getElem h]
  rfl
theorem rdL_at (l : List (List Int)) (i : Nat) (h : i < l.length) : rd_L1 l (i : Int) = l[i] := by
  unfold rd_L1
  rw [Int.toNat_natCast, List.getD_eq_getElem?_getD, List.getElem?_eq_getElem h]
  rfl
theorem succ_of {d k : Nat} (h : d < k) : ∃ m, k = m + 1 := ⟨k - 1, by omega⟩
theorem szS (r : List Int) (x : Int) (hr : r.length ≤ 9223372036854775807) (h0 : 0 ≤ x) (h1 : x ≤ 1048576) : ∃ y, laws_szIntS.f r x = some y ∧ (y < 0 ∨ (0 ≤ y ∧ y ≤ 1048576 ∧ r.length ≤ 1048576)) := by
  unfold laws_szIntS.f
  rw [wrap_id (by omega) (by omega)]
  split
  · exact ⟨_, rfl, .inl (by decide)⟩
  · exact ⟨_, rfl, .inr ⟨by omega, by omega, by omega⟩⟩
theorem szSS_loop (l : List (List Int)) (hl : l.length ≤ 1048576) (h2 : ∀ r ∈ l, r.length ≤ 9223372036854775807) (d : Nat) : ∀ (k i : Nat) (x : Int), i + d = l.length → d < k → 0 ≤ x → x ≤ 1048576 →
    ∃ y, (∀ j, laws_szIntSS.l0 (k + j) l x (i : Int) = some y) ∧ (y < 0 ∨ ∀ r ∈ l.drop i, r.length ≤ 1048576) := by
  induction d with
  | zero =>
    intro k i x hi hk h0 h1
    refine ⟨x, fun j => ?_, .inr (by rw [List.drop_of_length_le (by omega)]; simp)⟩
    obtain ⟨k, rfl⟩ := succ_of hk
    rw [show k + 1 + j = (k + j) + 1 by omega]
    simp only [laws_szIntSS.l0]
    rw [if_neg (by omega)]
  | succ d ih =>
    intro k i x hi hk h0 h1
    obtain ⟨k, rfl⟩ := succ_of hk
    have hlt : i < l.length := by omega
    obtain ⟨y, hy, hy2⟩ := szS l[i] x (h2 _ (List.getElem_mem hlt)) h0 h1
    rcases (show y < 0 ∨ 0 ≤ y by omega) with hneg | hpos
    · refine ⟨-1, fun j => ?_, .inl (by decide)⟩
      rw [show k + 1 + j = (k + j) + 1 by omega]
      simp only [laws_szIntSS.l0]
      rw [if_pos (by omega), if_pos (by omega), rdL_at l i hlt, hy]
      simp only [Option.bind_some]
      rw [if_pos hneg]
    · have hb : 0 ≤ y ∧ y ≤ 1048576 ∧ l[i].length ≤ 1048576 := by omega
      obtain ⟨z, hz, hz2⟩ := ih k (i + 1) y (by omega) (by omega) hb.1 hb.2.1
      refine ⟨z, fun j => ?_, ?_⟩
      · rw [show k + 1 + j = (k + j) + 1 by omega]
        simp only [laws_szIntSS.l0]
        rw [if_pos (by omega), if_pos (by omega), rdL_at l i hlt, hy]
        simp only [Option.bind_some]
        rw [if_neg (by omega), wrap_up hlt (by omega)]
        exact hz j
      · rcases hz2 with h | h
        · exact .inl h
        · right
          rw [List.drop_eq_getElem_cons hlt]
          intro r hr
          rcases List.mem_cons.1 hr with rfl | hr
          · exact hb.2.2
          · exact h r hr
theorem toS_loop (l : List Int) (hl : l.length ≤ 1048576) (d : Nat) : ∀ (k i : Nat) (x : List Int), i + d = l.length → d < k → x.length = l.length → x.take i = l.take i → laws_toIntS.l0 k l x (i : Int) = some l := by
  induction d with
  | zero =>
    intro k i x hi hk hx ht
    obtain ⟨k, rfl⟩ := succ_of hk
    simp only [laws_toIntS.l0]
    rw [if_neg (by omega)]
    rw [List.take_of_length_le (by omega), List.take_of_length_le (by omega)] at ht
    rw [ht]
  | succ d ih =>
    intro k i x hi hk hx ht
    obtain ⟨k, rfl⟩ := succ_of hk
    have hlt : i < l.length := by omega
    simp only [laws_toIntS.l0]
    rw [if_pos (by omega), if_pos (by omega), if_pos (by omega), rd_at l i hlt, wrap_up hlt (by omega), Int.toNat_natCast]
    refine ih k (i + 1) _ (by omega) (by omega) (by simpa using hx) ?_
    rw [List.take_succ_eq_append_getElem hlt, List.take_succ_eq_append_getElem (by rw [List.length_set]; omega), List.take_set_of_le (Nat.le_refl _), ht]
    simp
theorem toS (l : List Int) (hl : l.length ≤ 1048576) (k : Nat) (hk : l.length < k) : laws_toIntS.f k l = some l := by
  unfold laws_toIntS.f
  rw [if_pos (by omega), if_pos (by simp; omega)]
  exact toS_loop l hl l.length k 0 _ (by omega) hk (by simp) (by simp)
theorem toSS_loop (l : List (List Int)) (hl : l.length ≤ 1048576) (h2 : ∀ r ∈ l, r.length ≤ 1048576) (d : Nat) : ∀ (k i : Nat) (x : List (List Int)), i + d = l.length → d + 1048577 < k → x.length = l.length → x.take i = l.take i → laws_toIntSS.l0 k l x (i : Int) = some l := by
  induction d with
  | zero =>
    intro k i x hi hk hx ht
    obtain ⟨k, rfl⟩ := succ_of hk
    simp only [laws_toIntSS.l0]
    rw [if_neg (by omega)]
    rw [List.take_of_length_le (by omega), List.take_of_length_le (by omega)] at ht
    rw [ht]
  | succ d ih =>
    intro k i x hi hk hx ht
    obtain ⟨k, rfl⟩ := succ_of hk
    have hlt : i < l.length := by omega
    simp only [laws_toIntSS.l0]
    rw [if_pos (by omega), if_pos (by omega), rdL_at l i hlt, toS l[i] (h2 _ (List.getElem_mem hlt)) k (by have := h2 _ (List.getElem_mem hlt); omega)]
    simp only [Option.bind_some]
    rw [if_pos (by omega), wrap_up hlt (by omega), Int.toNat_natCast]
    refine ih k (i + 1) _ (by omega) (by omega) (by simpa using hx) ?_
    rw [List.take_succ_eq_append_getElem hlt, List.take_succ_eq_append_getElem (by rw [List.length_set]; omega), List.take_set_of_le (Nat.le_refl _), ht]
    simp
theorem l1In_eq (a lo hi : Int) : spec_l1In.f a lo hi = some (inB a lo hi) := by
  unfold spec_l1In.f inB
  by_cases h1 : lo ≤ a
  · simp [h1]
  · simp [h1]
theorem l1All_loop (lo hi : Int) (l : List Int) (hn : l.length ≤ 1000000000) (d : Nat) : ∀ (k i : Nat), i + d = l.length → d < k → spec_l1All.l0 k lo hi l (l.length : Int) (i : Int) = some ((l.drop i).all fun x => inB x lo hi) := by
  induction d with
  | zero =>
    intro k i hi hk
    obtain ⟨k, rfl⟩ := succ_of hk
    unfold spec_l1All.l0
    rw [if_neg (by omega), List.drop_of_length_le (by omega)]
    rfl
  | succ d ih =>
    intro k i hi' hk
    obtain ⟨k, rfl⟩ := succ_of hk
    have hlt : i < l.length := by omega
    unfold spec_l1All.l0
    rw [if_pos (by omega), if_pos (by omega), if_pos (by omega), rd_at l i hlt, l1In_eq, List.drop_eq_getElem_cons hlt]
    simp only [Option.bind_some, List.all_cons]
    cases hx : inB l[i] lo hi with
    | true =>
      rw [if_pos rfl, wrap_up hlt (by omega), ih k (i + 1) (by omega) (by omega), Bool.true_and]
    | false => rw [if_neg (by decide), Bool.false_and]
theorem l1All_eq (lo hi : Int) (l : List Int) (hn : l.length ≤ 1000000000) (k : Nat) (hk : l.length < k) : spec_l1All.f k l lo hi = some (l.all fun x => inB x lo hi) := by
  have := l1All_loop lo hi l hn l.length k 0 (by omega) hk
  simpa [spec_l1All.f] using this
theorem okRow_eq (n : Int) (row : List Int) : okRow n row = (decide (row.length ≤ 5) && row.all fun x => inB x 0 (n - 1)) := by
  unfold okRow
  congr 1
  rw [List.not_any_eq_all_not]
  simp
theorem grGood_loop (l : List (List Int)) (hn : l.length ≤ 8) (d : Nat) : ∀ (k i : Nat), i + d = l.length → d + 7 < k → spec_grGood.l0 k (l.length : Int) l (l.length : Int) (i : Int) = some ((l.drop i).all (okRow l.length)) := by
  induction d with
  | zero =>
    intro k i hi hk
    obtain ⟨k, rfl⟩ := succ_of hk
    unfold spec_grGood.l0
    rw [if_neg (by omega), List.drop_of_length_le (by omega)]
    rfl
  | succ d ih =>
    intro k i hi hk
    obtain ⟨k, rfl⟩ := succ_of hk
    have hlt : i < l.length := by omega
    unfold spec_grGood.l0
    rw [if_pos (by omega), if_pos (by omega), if_pos (by omega), rdL_at l i hlt, List.drop_eq_getElem_cons hlt, List.all_cons, okRow_eq]
    by_cases h5 : l[i].length ≤ 5
    · rw [if_neg (by omega), wrap_id (by omega) (by omega), l1All_eq _ _ _ (by omega) k (by omega), decide_eq_true h5, Bool.true_and]
      simp only [Option.bind_some]
      cases hx : l[i].all fun x => inB x 0 ((l.length : Int) - 1) with
      | true => rw [if_pos rfl, wrap_up hlt (by omega), ih k (i + 1) (by omega) (by omega), Bool.true_and]
      | false => rw [if_neg (by decide), Bool.false_and]
    · rw [if_pos (by omega), decide_eq_false h5, Bool.false_and, Bool.false_and]
theorem grGood_eq (l : List (List Int)) (k : Nat) (hk : 20 ≤ k) : spec_grGood.f k l = some (isGraphB l) := by
  unfold spec_grGood.f
  rw [l1In_eq]
  simp only [Option.bind_some]
  by_cases hn : 1 ≤ l.length ∧ l.length ≤ 8
  · rw [show inB (l.length : Int) 1 8 = true from by simp [inB]; omega, if_pos rfl]
    have := grGood_loop l hn.2 l.length k 0 (by omega) (by omega)
    rw [List.drop_zero] at this
    rw [show (0 : Int) = ((0 : Nat) : Int) from rfl, this]
    simp [isGraphB, hn.1, hn.2]
  · rw [show inB (l.length : Int) 1 8 = false from by simp [inB]; omega, if_neg (by decide)]
    unfold isGraphB
    rw [decide_eq_false hn, Bool.false_and]
/-- There are a graph and a place of it. -/
def placeB (l : List (List Int)) (p : Int) : Bool := isGraphB l && inB p 0 ((l.length : Int) - 1)
theorem hasB_one (l : List (List Int)) (p : Int) : hasB l [p] = placeB l p := by simp [hasB, placeB]
theorem grPlace_eq (l : List (List Int)) (p : Int) (k : Nat) (hk : 20 ≤ k) : spec_grPlace.f k l p = some (placeB l p) := by
  unfold spec_grPlace.f placeB
  rw [grGood_eq l k hk]
  simp only [Option.bind_some]
  cases hg : isGraphB l with
  | false => rfl
  | true =>
    have := graph_len hg
    rw [if_pos rfl, wrap_id (by omega) (by omega), l1In_eq]
    rfl
theorem place_is {l : List (List Int)} {p : Int} (h : placeB l p = true) : isGraphB l = true ∧ 1 ≤ l.length ∧ l.length ≤ 8 ∧ 0 ≤ p ∧ p < l.length := by
  unfold placeB at h
  simp only [Bool.and_eq_true] at h
  have h1 := graph_len h.1
  have h2 := h.2
  simp only [inB, decide_eq_true_eq] at h2
  exact ⟨h.1, h1.1, h1.2, h2.1, by omega⟩
theorem graph_row {l : List (List Int)} (h : isGraphB l = true) {r : List Int} (hr : r ∈ l) : r.length ≤ 5 ∧ ∀ q ∈ r, 0 ≤ q ∧ q < l.length := by
  unfold isGraphB at h
  simp only [Bool.and_eq_true, List.all_eq_true] at h
  have h2 := h.2 r hr
  rw [okRow_eq] at h2
  simp only [Bool.and_eq_true, decide_eq_true_eq, List.all_eq_true] at h2
  exact ⟨h2.1, fun q hq => by have := h2.2 q hq; simp only [inB, decide_eq_true_eq] at this; omega⟩
end Go.Proofs.Ytnbnalbomflafaa.KA
/-! ## Kt -/
namespace Go.Proofs.Ytnbnalbomflafaa.KA
open Go.RowKit Go.Proofs.YtnbnalbomflafaaW.PrintWords Go.Proofs.YtnbnalbomflafaaW.PrintLast Go.Proofs.YtnbnalbomflafaaW.PrintMore
open Go.Proofs.Ytnbnalbomflafaa.GA
open Go.Shelf Go.Lib
set_option linter.unusedVariables false
set_option linter.unusedSimpArgs false
theorem pred122 (ad : Addr) (n c : Nat) (B B2 i m : Nat) (A1 : Option Addr) (c1 : Nat) (w : World) (hB : B < w.heap.size) (hB2 : B2 < w.heap.size) (hcell : w.cell? ⟨B, 0, none⟩ = some (.slice (some ad) n c)) (hp : w.cell? ⟨B2, 0, none⟩ = some (.int .i64 (i : Int)))
    (hrow : w.cell? (ad.add i) = some (.slice A1 m c1)) (hi : i < n) (h1 : m ≤ 100) :
    PredAt Try.prog 122 #[.pointer (some ⟨B, 0, none⟩), .pointer (some ⟨B2, 0, none⟩)] (Value.int .i64) (fun q => !inB q 0 ((m : Int) - 1)) w := fun W x hb => by
  have hc : W.cell? ⟨B, 0, none⟩ = some (.slice (some ad) n c) := (hb.cell (p := ⟨B, 0, none⟩) hB).trans hcell
  have hc2 : W.cell? ⟨B2, 0, none⟩ = some (.int .i64 (i : Int)) := (hb.cell (p := ⟨B2, 0, none⟩) hB2).trans hp
  have hc3 : W.cell? (ad.add i) = some (.slice A1 m c1) := (hb.cell (World.block_lt_of_cell? w _ hrow)).trans hrow
  have HI := in_eq x 0 ((m : Int) - 1)
  have hi1 : (0 : Int) ≤ (i : Int) := by omega
  have hi2 : (i : Int) < (n : Int) := by omega
  show Calls Try.prog 122 #[.int .i64 x, .pointer (some ⟨B, 0, none⟩), .pointer (some ⟨B2, 0, none⟩)] W _
  obtain ⟨b, hbb⟩ : ∃ b, b = inB x 0 ((m : Int) - 1) := ⟨_, rfl⟩
  rw [← hbb] at HI
  replace HI := Aside0.mk HI
  replace hbb := Aside0.mk hbb
  clear hcell hp hrow
  cases b
  all_goals go_enter Try.func122, Try.ntmps122
  all_goals go_wp2_with (go_at_call 77; (with_reducible refine (impl_in.calls x 0 ((m : Int) - 1) _ _ HI.out).mono ?_); rintro e w' ⟨rfl, ⟨nd, rfl⟩⟩)
  all_goals (go_ret; exact ⟨by rw [← hbb.out]; rfl, nd, rfl⟩)
theorem enters122 : ∀ args w, (callFunc 122 args).run Try.prog w = .ok (.enter 122 args) w := enters_of Try.func122 (by kernel_rfl) rfl
def okStack (n : Nat) (row : List Int) : Bool := decide (row.length ≤ 12) && !(row.any fun q => !inB q 0 ((n : Int) - 1))
/-- Each list is fine for the exits of its place. -/
def okStacks : List (List Int) → List (List Int) → Bool
  | e :: l, r :: s => okStack e.length r && okStacks l s
  | _, _ => true
def stacksB (l : List (List Int)) (a : Int) (s : List (List Int)) : Bool := placeB l a && decide (s.length = l.length) && decide ((s.getD a.toNat []).length = 0) && okStacks l s
def impl_areStacks.f (l0_0 : List (List Int)) (a1 : Int) (l2_0 : List (List Int)) : Option Bool := some (stacksB l0_0 a1 l2_0)
theorem at_row' {w : World} {ad : Addr} {l : List (List Int)} (h : Kd.C (Kd.slice 3 (Kd.int .i64)) w (some ad) l.length l) (i : Nat) (hi : i < l.length) :
    ∃ A1 c1, w.cell? (ad.add i) = some (.slice A1 l[i].length c1) ∧ l[i].length ≤ c1 ∧ Kd.C (Kd.int .i64) w A1 l[i].length l[i] := by
  obtain ⟨ad', A1, c1, e, hx, hl, hc⟩ := at_row h i hi
  injection e with e
  subst e
  exact ⟨A1, c1, hx, hl, hc⟩
theorem box3 (W : World) (v : Value) : (W.alloc (.cells #[v] 3)).cell? ⟨W.heap.size, 0, none⟩ = some v := (blk_cell (blk_new W (.cells #[v] 3)) 0).trans rfl
theorem okStacks_drop (l s : List (List Int)) (i : Nat) (h1 : i < l.length) (h2 : i < s.length) : okStacks (l.drop i) (s.drop i) = (okStack l[i].length s[i] && okStacks (l.drop (i + 1)) (s.drop (i + 1))) := by
  rw [List.drop_eq_getElem_cons h1, List.drop_eq_getElem_cons h2]
  rfl
set_option maxHeartbeats 4000000 in
set_option maxRecDepth 100000 in
theorem impl_areStacks.walk (A0 : Option Addr) (c0 : Nat) (l : List (List Int)) (a1 : Int) (A2 : Option Addr) (c2 : Nat) (s : List (List Int)) (w : World) (hr0 : Kd.C (Kd.slice 3 (Kd.int .i64)) w A0 l.length l) (hc0 : l.length ≤ c0) (hr2 : Kd.C (Kd.slice 3 (Kd.int .i64)) w A2 s.length s) :
    Calls Try.prog 98 #[.agg #[.slice A0 l.length c0], .int .i64 a1, .agg #[.slice A2 s.length c2]] w fun e w' => e = .returned (.bool (stacksB l a1 s)) ∧ Below w.heap.size w w' := by
  have hu30 := Try.underlying30
  have hu59 := Try.underlying59
  have W0 := below_alloc (below_alloc (Below.refl w.heap.size w) (.cells #[.slice A0 l.length c0] 30)) (.cells #[.slice A2 s.length c2] 59)
  have W1 := below_alloc W0 (.cells #[.int .i64 a1] 3)
  have HR0 := Aside0.mk (Kd.C_below hr0 W1)
  have HR1 := Kd.C_of_reads (enc := Value.int .i64) (h1 := fun _ => rfl) (d := (0 : Int)) (w := ((w.alloc (.cells #[.slice A0 l.length c0] 30)).alloc (.cells #[.slice A2 s.length c2] 59)).alloc (.cells #[.int .i64 a1] 3)) (A := some ⟨w.heap.size + 2, 0, none⟩) (n := 1) (xs := [a1]) ⟨rfl, by decide, fun _ => ⟨_, rfl, fun j hj => by
    obtain rfl : j = 0 := by omega
    have h := (blk_cell (blk_new ((w.alloc (.cells #[.slice A0 l.length c0] 30)).alloc (.cells #[.slice A2 s.length c2] 59)) (.cells #[.int .i64 a1] 3)) 0)
    simpa [Addr.add] using h⟩⟩
  replace HR1 := Aside0.mk HR1
  replace W0 := Aside0.mk W0
  replace W1 := Aside0.mk W1
  cases hp : placeB l a1 with
  | false =>
    have h0 : stacksB l a1 s = false := by unfold stacksB; rw [hp]; rfl
    rw [h0]
    have hp2 := hasB_one l a1
    rw [hp] at hp2
    replace hp2 := Aside0.mk hp2
    clear hr0 hr2 h0 hp
    go_enter Try.func98, Try.ntmps98
    go_wp2_with (go_at_call 76; refine (impl_has.walk A0 c0 l _ 1 [a1] _ HR0.out HR1.out).mono ?_; rw [hp2.out]; rintro e w1 ⟨rfl, hB⟩; have HB := Aside0.mk hB; clear hB)
    go_ret
    exact ⟨rfl, below_then W1.out (by simp; omega) HB.out⟩
  | true =>
    obtain ⟨hg, hl1, hl8, ha0, hal⟩ := place_is hp
    obtain ⟨a, rfl⟩ := Int.eq_ofNat_of_zero_le ha0
    obtain ⟨ad0, _, _, rfl, _, _, _⟩ := at_row hr0 a (by omega)
    have hp2 := hasB_one l (a : Int)
    rw [hp] at hp2
    replace hp2 := Aside0.mk hp2
    have b0 : (((w.alloc (.cells #[.slice (some ad0) l.length c0] 30)).alloc (.cells #[.slice A2 s.length c2] 59)).alloc (.cells #[.int .i64 (a : Int)] 3)).cell? ⟨w.heap.size, 0, none⟩ = some (.slice (some ad0) l.length c0) := by
      rw [World.cell?_alloc_lt _ _ _ (by simp; omega), World.cell?_alloc_lt _ _ _ (by simp)]
      exact (blk_cell (blk_new w (.cells #[.slice (some ad0) l.length c0] 30)) 0).trans rfl
    have b1 : (((w.alloc (.cells #[.slice (some ad0) l.length c0] 30)).alloc (.cells #[.slice A2 s.length c2] 59)).alloc (.cells #[.int .i64 (a : Int)] 3)).cell? ⟨w.heap.size + 1, 0, none⟩ = some (.slice A2 s.length c2) := by
      rw [World.cell?_alloc_lt _ _ _ (by simp)]
      have h := (blk_cell (blk_new (w.alloc (.cells #[.slice (some ad0) l.length c0] 30)) (.cells #[.slice A2 s.length c2] 59)) 0)
      rw [show (w.alloc (.cells #[.slice (some ad0) l.length c0] 30)).heap.size = w.heap.size + 1 by simp] at h
      exact h.trans rfl
    replace b0 := Aside0.mk b0
    replace b1 := Aside0.mk b1
    by_cases hsl : s.length = l.length
    · obtain ⟨ad2, A3, c3, rfl, hx3, hl3, hC3⟩ := at_row hr2 a (by omega)
      have hx3 := W1.out.cell (World.block_lt_of_cell? w _ hx3) |>.trans hx3
      have hgd : s.getD ((a : Int)).toNat [] = s[a] := by rw [Int.toNat_natCast, List.getD_eq_getElem?_getD, List.getElem?_eq_getElem (by omega)]; rfl
      have e1 : ((s.length : Int) != (l.length : Int)) = false := by simp; omega
      have e2 : (s.length != l.length) = false := by simpa using hsl
      have i1 : (0 : Int) ≤ (a : Int) := by omega
      have i2 : (a : Int) < (s.length : Int) := by omega
      by_cases hz : s[a].length = 0
      · have hr : stacksB l (a : Int) s = okStacks l s := by unfold stacksB; rw [hp, decide_eq_true hsl, hgd, decide_eq_true hz]; rfl
        rw [hr]
        obtain ⟨r, hr⟩ : ∃ r, r = okStacks l s := ⟨_, rfl⟩
        rw [← hr]
        replace hr := Aside0.mk hr
        have e3 : ((s[a].length : Int) != 0) = false := by rw [bne_eq_false_iff_eq]; omega
        have e4 : (s[a].length != 0) = false := by simpa using hz
        generalize s[a] = row0 at *
        replace hz := Aside0.mk hz
        replace hsl := Aside0.mk hsl
        replace hgd := Aside0.mk hgd
        have HS := Aside0.mk hr2
        have HL := Aside0.mk hr0
        clear hp hr2 hr0
        go_enter Try.func98, Try.ntmps98
        go_wp2_with (go_at_call 76; refine (impl_has.walk (some ad0) c0 l _ 1 [(a : Int)] _ HR0.out HR1.out).mono ?_; rw [hp2.out]; rintro e w1 ⟨rfl, hB⟩; have HB := Aside0.mk hB; have k0 := (hB.cell (p := ⟨w.heap.size, 0, none⟩) (by simp; omega)).trans b0.out; have k1 := (hB.cell (p := ⟨w.heap.size + 1, 0, none⟩) (by simp)).trans b1.out; have k2 := (hB.cell (World.block_lt_of_cell? _ _ hx3)).trans hx3; have KB := Aside0.mk (below_then W1.out (by simp; omega) hB); have kz := hB.size; simp at kz; clear hB)
        clear k2
        go_loopg [35] s.length (fun kq v35 wr => ∃ i : Nat, v35 = .int .i64 (i : Int) ∧ Aside0 (i + kq = s.length ∧ okStacks (l.drop i) (s.drop i) = r) ∧ Aside0 (wr.cell? ⟨w.heap.size, 0, none⟩ = some (.slice (some ad0) l.length c0) ∧ w.heap.size < wr.heap.size) ∧ Aside0 (Below w.heap.size w wr))
        case atStart => exact ⟨0, rfl, ⟨by omega, by rw [List.drop_zero, List.drop_zero]; exact hr.out.symm⟩, ⟨k0, by omega⟩, KB⟩
        case round =>
          clear k0 k1 KB hr
          obtain ⟨i, rfl, HA, HC, HB⟩ := hrel
          by_cases hlt : i < s.length
          · obtain ⟨q1, rfl⟩ : ∃ m, gk = m + 1 := ⟨gk - 1, by have := HA.out.1; omega⟩
            have hil : i < l.length := by have := hsl.out; omega
            have h2 := HA.out.2
            rw [okStacks_drop l s i hil hlt] at h2
            replace h2 := Aside0.mk h2
            obtain ⟨A5, c5, hx5, hl5, hC5⟩ := at_row' HL.out i (by have := hsl.out; omega)
            obtain ⟨A6, c6, hx6, hl6, hC6⟩ := at_row' HS.out i hlt
            replace hx6 := (HB.out.cell (World.block_lt_of_cell? w _ hx6)).trans hx6
            replace hx5 := (HB.out.cell (World.block_lt_of_cell? w _ hx5)).trans hx5
            have hC6r := Kd.C_alloc (Kd.C_below hC6 HB.out) (.cells #[.int .i64 (i : Int)] 3)
            have h100 : l[i].length ≤ 100 := by have := (graph_row hg (List.getElem_mem hil)).1; omega
            generalize l[i] = lrow at *
            generalize s[i] = srow at *
            have hi1 : (0 : Int) ≤ (i : Int) := by omega
            have hi2 : (i : Int) < (s.length : Int) := by omega
            have HP := pred122 ad0 l.length c0 w.heap.size wr.heap.size i lrow.length A5 c5 (wr.alloc (.cells #[.int .i64 (i : Int)] 3)) (by simp; have := HC.out.2; omega) (by simp) ((World.cell?_alloc_lt _ _ _ (by have := HC.out.2; omega)).trans HC.out.1) (box3 _ _)
              ((World.cell?_alloc_lt _ _ _ (World.block_lt_of_cell? wr _ hx5)).trans hx5) (by have := hsl.out; omega) h100
            replace HP := Aside0.mk HP
            replace hx5 := Aside0.mk hx5
            replace hC5 := Aside0.mk hC5
            replace hC6 := Aside0.mk hC6
            replace hC6r := Aside0.mk hC6r
            obtain ⟨b, hb⟩ : ∃ b, b = srow.any (fun q => !inB q 0 ((lrow.length : Int) - 1)) := ⟨_, rfl⟩
            replace hb := Aside0.mk hb
            have HB2 := Aside0.mk (below_alloc HB.out (.cells #[.int .i64 (i : Int)] 3))
            have HC2 := Aside0.mk ((World.cell?_alloc_lt wr (.cells #[.int .i64 (i : Int)] 3) ⟨w.heap.size, 0, none⟩ (by have := HC.out.2; omega)).trans HC.out.1)
            by_cases h12 : srow.length ≤ 12
            · have h5' : decide (12 < (srow.length : Int)) = false := decide_eq_false (by omega)
              have h5'' : decide (12 < srow.length) = false := decide_eq_false (by omega)
              have h6 : okStack lrow.length srow = !b := by unfold okStack; rw [hb.out, decide_eq_true h12, Bool.true_and]
              replace h6 := Aside0.mk h6
              cases b with
              | true =>
                go_wp2_with (go_at_call 108; refine (contains_calls _ 122 _ enters122 A6 c6 srow _ HP.out hC6r.out).mono ?_; rw [← hb.out]; rintro e w' ⟨rfl, ⟨nd2, rfl⟩⟩)
                go_ret
                exact ⟨by have := h2.out; rw [h6.out] at this; simp at this; rw [← this]; rfl, pw_below_drewN HB2.out _⟩
              | false =>
                go_wp2_with (go_at_call 108; refine (contains_calls _ 122 _ enters122 A6 c6 srow _ HP.out hC6r.out).mono ?_; rw [← hb.out]; rintro e w' ⟨rfl, ⟨nd2, rfl⟩⟩)
                go_roundg q1
                case measure => omega
                case rel => exact ⟨i + 1, by go_num, ⟨by have := HA.out.1; omega, by have := h2.out; rw [h6.out] at this; simpa using this⟩, ⟨HC2.out, Nat.lt_of_lt_of_le HC.out.2 (by simp)⟩, ⟨pw_below_drewN HB2.out _⟩⟩
            · have h5' : decide (12 < (srow.length : Int)) = true := decide_eq_true (by omega)
              have h5'' : decide (12 < srow.length) = true := decide_eq_true (by omega)
              have h6 : okStack lrow.length srow = false := by unfold okStack; rw [decide_eq_false h12, Bool.false_and]
              replace h6 := Aside0.mk h6
              go_wp2_with (fail)
              go_ret
              exact ⟨by have := h2.out; rw [h6.out] at this; simp at this; rw [← this]; rfl, HB2.out⟩
          · have h2 := HA.out.2
            rw [List.drop_of_length_le (by have := hsl.out; omega), List.drop_of_length_le (by omega)] at h2
            replace h2 := Aside0.mk h2
            go_wp2_with (fail)
            go_ret
            exact ⟨by rw [← h2.out]; rfl, HB.out⟩
      · have h0 : stacksB l (a : Int) s = false := by unfold stacksB; rw [hgd, decide_eq_false hz]; simp
        rw [h0]
        have e3 : ((s[a].length : Int) != 0) = true := by rw [bne_iff_ne]; omega
        have e4 : (s[a].length != 0) = true := by simpa using hz
        generalize s[a] = row0 at *
        clear hr0 hr2 h0 hp hsl hz hgd
        go_enter Try.func98, Try.ntmps98
        go_wp2_with (go_at_call 76; refine (impl_has.walk (some ad0) c0 l _ 1 [(a : Int)] _ HR0.out HR1.out).mono ?_; rw [hp2.out]; rintro e w1 ⟨rfl, hB⟩; have HB := Aside0.mk hB; have k0 := (hB.cell (p := ⟨w.heap.size, 0, none⟩) (by simp; omega)).trans b0.out; have k1 := (hB.cell (p := ⟨w.heap.size + 1, 0, none⟩) (by simp)).trans b1.out; have k2 := (hB.cell (World.block_lt_of_cell? _ _ hx3)).trans hx3; clear hB)
        go_ret
        exact ⟨rfl, below_then W1.out (by simp; omega) HB.out⟩
    · have h0 : stacksB l (a : Int) s = false := by unfold stacksB; rw [decide_eq_false hsl]; simp
      rw [h0]
      have e1 : ((s.length : Int) != (l.length : Int)) = true := by simp; omega
      have e2 : (s.length != l.length) = true := by simpa using hsl
      clear hr0 hr2 h0 hp hsl
      go_enter Try.func98, Try.ntmps98
      go_wp2_with (go_at_call 76; refine (impl_has.walk (some ad0) c0 l _ 1 [(a : Int)] _ HR0.out HR1.out).mono ?_; rw [hp2.out]; rintro e w1 ⟨rfl, hB⟩; have HB := Aside0.mk hB; have k0 := (hB.cell (p := ⟨w.heap.size, 0, none⟩) (by simp; omega)).trans b0.out; have k1 := (hB.cell (p := ⟨w.heap.size + 1, 0, none⟩) (by simp)).trans b1.out; clear hB)
      go_ret
      exact ⟨rfl, below_then W1.out (by simp; omega) HB.out⟩
theorem impl_areStacks.calls (A0_0 : Option Addr) (c0_0 : Nat) (l0_0 : List (List Int)) (a1 : Int) (A2_0 : Option Addr) (c2_0 : Nat) (l2_0 : List (List Int)) (r : Bool) (w : World) (hr0_0 : Kd.C (Kd.slice 3 (Kd.int .i64)) w A0_0 l0_0.length l0_0) (hc0_0 : l0_0.length ≤ c0_0) (hr2_0 : Kd.C (Kd.slice 3 (Kd.int .i64)) w A2_0 l2_0.length l2_0) (hc2_0 : l2_0.length ≤ c2_0) (h : impl_areStacks.f l0_0 a1 l2_0 = some r) :
    Calls Try.prog 98 #[.agg #[.slice A0_0 l0_0.length c0_0], .int .i64 a1, .agg #[.slice A2_0 l2_0.length c2_0]] w fun e w' => e = .returned (.bool r) ∧ Below w.heap.size w w' := by
  obtain rfl := Option.some.inj h
  exact impl_areStacks.walk A0_0 c0_0 l0_0 a1 A2_0 c2_0 l2_0 w hr0_0 hc0_0 hr2_0
end Go.Proofs.Ytnbnalbomflafaa.KA
/-! ## GR0 -/
namespace Go.Proofs.Ytnbnalbomflafaa.GR
open Go.RowKit Go.Proofs.YtnbnalbomflafaaW.PrintWords Go.Proofs.YtnbnalbomflafaaW.PrintLast Go.Proofs.YtnbnalbomflafaaW.PrintMore
open Go.Proofs.Ytnbnalbomflafaa.GA Go.Proofs.Ytnbnalbomflafaa.GB Go.Proofs.Ytnbnalbomflafaa.GD Go.Proofs.Ytnbnalbomflafaa.KA
attribute [local go_sem] max2_int min2_int max_two min_two max_three min_three max_four min_four   -- for this text's walks alone
set_option linter.unusedVariables false
set_option linter.unusedSimpArgs false
def errW : Option Int → Value
  | none => .nilIface
  | some c => .iface 0 (.int .i64 c)
theorem errW_none : errW none = .nilIface := rfl
theorem errW_some (c : Int) : errW (some c) = .iface 0 (.int .i64 c) := rfl
theorem info3 : (Try.prog.info? 3).map (fun i => (i.zero, i.size, i.bytes)) = some (some (.int .i64 0), 1, 8) := by kernel_rfl
theorem info37 : (Try.prog.info? 37).map (fun i => (i.zero, i.size, i.bytes)) = some (some (.slice none 0 0), 1, 24) := by kernel_rfl
def rd_L1 (xs : List (List Int)) (i : Int) : (List Int) := xs.getD i.toNat ([] : List Int)
theorem at_L1 {w : World} {A : Option Addr} {n : Nat} {xs : List (List Int)} (h : Kd.C (Kd.slice 3 (Kd.int .i64)) w A n xs) (i : Int) (h0 : 0 ≤ i) (h1 : i < n) : ∃ ad A0 c0, A = some ad ∧ w.cell? (ad.add i.toNat) = some (.slice A0 (rd_L1 xs i).length c0) ∧ (rd_L1 xs i).length ≤ c0 ∧ (Kd.int .i64).C w A0 (rd_L1 xs i).length (rd_L1 xs i) := by
  obtain ⟨ad, c, e, _, hK, hc0⟩ := Kd.C_get h ([] : List Int) i h0 h1
  have hc : ∀ j u, c[j]? = some u → w.cell? (ad.add (i.toNat * 1 + j)) = some u := hc0
  obtain ⟨A0, c0, rfl, l0, g0⟩ := hK
  exact ⟨ad, A0, c0, e, by have hq := hc 0 _ rfl; rwa [Nat.mul_one, Nat.add_zero] at hq, l0, g0⟩
end Go.Proofs.Ytnbnalbomflafaa.GR
/-! ## GR1 -/
namespace Go.Proofs.Ytnbnalbomflafaa.GR
open Go.RowKit Go.Proofs.YtnbnalbomflafaaW.PrintWords Go.Proofs.YtnbnalbomflafaaW.PrintLast Go.Proofs.YtnbnalbomflafaaW.PrintMore
open Go.Proofs.Ytnbnalbomflafaa.GA Go.Proofs.Ytnbnalbomflafaa.GB Go.Proofs.Ytnbnalbomflafaa.GD Go.Proofs.Ytnbnalbomflafaa.KA
attribute [local go_sem] max2_int min2_int max_two min_two max_three min_three max_four min_four   -- for this text's walks alone
set_option linter.unusedVariables false
set_option linter.unusedSimpArgs false
def impl_TopsOf.f (k : Nat) (l0_0 : List (List Int)) (a1 : Int) (l2_0 : List (List Int)) : Option (List Int × Bool) := (impl_areStacks.f l0_0 a1 l2_0).bind fun t192 => (if t192 = true then ((impl_Stacks_tops.f k l2_0 a1).bind fun bt193 => (some (bt193.1, bt193.2))) else (some (([] : List Int), false)))
set_option maxHeartbeats 8000000 in
set_option maxRecDepth 100000 in
theorem impl_TopsOf.calls (k : Nat) (A0_0 : Option Addr) (c0_0 : Nat) (l0_0 : List (List Int)) (a1 : Int) (A2_0 : Option Addr) (c2_0 : Nat) (l2_0 : List (List Int)) (r1 : List Int) (r2 : Bool) (w : World) (hr0_0 : Kd.C (Kd.slice 3 (Kd.int .i64)) w A0_0 l0_0.length l0_0) (hc0_0 : l0_0.length ≤ c0_0) (hr2_0 : Kd.C (Kd.slice 3 (Kd.int .i64)) w A2_0 l2_0.length l2_0) (hc2_0 : l2_0.length ≤ c2_0) (h : impl_TopsOf.f k l0_0 a1 l2_0 = some (r1, r2)) :
    Calls Try.prog 59 #[.agg #[.slice A0_0 l0_0.length c0_0], .int .i64 a1, .agg #[.slice A2_0 l2_0.length c2_0]] w fun e w' => ∃ v0_ : Value, e = .returned (.tuple #[v0_, .bool r2]) ∧ Kd.R (Kd.int .i64) 3 w' w.heap.size (fun _ => True) v0_ r1 ∧ Below w.heap.size w w' := by
  have hu30 := Try.underlying30
  have hu59 := Try.underlying59
  have HR0_0 := Aside0.mk hr0_0
  have HC0_0 := Aside0.mk hc0_0
  clear hr0_0 hc0_0
  have HR2_0 := Aside0.mk hr2_0
  have HC2_0 := Aside0.mk hc2_0
  clear hr2_0 hc2_0
  have HB := Aside0.mk (Below.refl w.heap.size w)
  have H : ((impl_areStacks.f l0_0 a1 l2_0).bind fun t192 => (if t192 = true then ((impl_Stacks_tops.f k l2_0 a1).bind fun bt193 => (some (bt193.1, bt193.2))) else (some (([] : List Int), false)))) = some (r1, r2) := h
  clear h
  replace H := Option.bind_eq_some_iff.mp H
  obtain ⟨t192, A40, H⟩ := H
  replace H : (if t192 = true then ((impl_Stacks_tops.f k l2_0 a1).bind fun bt193 => (some (bt193.1, bt193.2))) else (some (([] : List Int), false))) = some (r1, r2) := H
  have A4 := Aside0.mk A40
  clear A40
  by_cases c5 : t192 = true
  · subst c5
    have H1 : ((impl_Stacks_tops.f k l2_0 a1).bind fun bt193 => (some (bt193.1, bt193.2))) = some (r1, r2) := by rw [if_pos rfl] at H; exact H
    clear H
    have H := H1
    clear H1
    replace H := Option.bind_eq_some_iff.mp H
    obtain ⟨⟨t193, t196⟩, A60, H⟩ := H
    replace H : (some (t193, t196)) = some (r1, r2) := H
    have A6 := Aside0.mk A60
    clear A60
    simp only [Option.some.injEq, Prod.mk.injEq] at H
    obtain ⟨rfl, rfl⟩ := H
    go_enter Try.func59, Try.ntmps59
    go_wp2_with (first | ((with_reducible refine gate_dst (N := 3) rfl ?_); refine box_event ?hg (N := 3) ?hd (cs := #[.slice A0_0 l0_0.length c0_0]) (t := 30) ?hr ?_; (case hd => rfl); (case hg => rfl); (case hr => first | (go_simp; done) | (go_simp; rfl)); intro gb190 hg w7 hbox hb; have n0_ := Aside0.mk (below_step (by repeat (first | (with_reducible first | exact HB.out | apply below_alloc | apply pw_below_drewN | apply below_drew1) | exact HB.out)) hb); have n1_ := Aside0.mk (hbox); have n2_ := Aside0.mk ((by rw [hg]; exact (below_size (by repeat (first | (with_reducible first | exact HB.out | apply below_alloc | apply pw_below_drewN | apply below_drew1) | exact HB.out))) : w.heap.size ≤ gb190)); have n3_ := Aside0.mk ((by rw [hg]; exact (below_size (by repeat (first | (with_reducible first | exact HB.out | apply below_alloc | apply pw_below_drewN | apply below_drew1) | exact HB.out))) : w.heap.size ≤ gb190)); clear HB; have HB := n0_; have BK190 := n1_; have GW190 := n2_; have GE190 := n3_; clear n0_ n1_ n2_ n3_; clear hb hbox hg) | ((with_reducible refine gate_dst (N := 5) rfl ?_); refine box_event ?hg (N := 5) ?hd (cs := #[.slice A2_0 l2_0.length c2_0]) (t := 59) ?hr ?_; (case hd => rfl); (case hg => rfl); (case hr => first | (go_simp; done) | (go_simp; rfl)); intro gb191 hg w8 hbox hb; have n0_ := Aside0.mk (blk_below (g := gb190) (o := .cells #[.slice A0_0 l0_0.length c0_0] 30 (0, 0)) (by (with_reducible repeat (first | refine blk_drewN ?_ _ | refine blk_drew ?_ | refine blk_alloc ?_ _)); exact BK190.out) hb); have n1_ := Aside0.mk (below_step (by repeat (first | (with_reducible first | exact HB.out | apply below_alloc | apply pw_below_drewN | apply below_drew1 | refine below_set ?_ GE190.out) | exact HB.out)) hb); have n2_ := Aside0.mk (hbox); have n3_ := Aside0.mk ((by rw [hg]; exact (below_size (by repeat (first | (with_reducible first | exact HB.out | apply below_alloc | apply pw_below_drewN | apply below_drew1 | refine below_set ?_ GE190.out) | exact HB.out))) : w.heap.size ≤ gb191)); have n4_ := Aside0.mk ((by rw [hg]; exact (below_size (by repeat (first | (with_reducible first | exact HB.out | apply below_alloc | apply pw_below_drewN | apply below_drew1 | refine below_set ?_ GE190.out) | exact HB.out))) : w.heap.size ≤ gb191)); have n5_ := Aside0.mk ((by rw [hg]; exact Nat.ne_of_lt (blk_lt (g := gb190) (o := .cells #[.slice A0_0 l0_0.length c0_0] 30 (0, 0)) (by (with_reducible repeat (first | refine blk_drewN ?_ _ | refine blk_drew ?_ | refine blk_alloc ?_ _)); exact BK190.out)) : gb190 ≠ gb191)); have n6_ := Aside0.mk ((by rw [hg]; exact Nat.ne_of_gt (blk_lt (g := gb190) (o := .cells #[.slice A0_0 l0_0.length c0_0] 30 (0, 0)) (by (with_reducible repeat (first | refine blk_drewN ?_ _ | refine blk_drew ?_ | refine blk_alloc ?_ _)); exact BK190.out)) : gb191 ≠ gb190)); clear BK190; clear HB; have BK190 := n0_; have HB := n1_; have BK191 := n2_; have GW191 := n3_; have GE191 := n4_; have NB190_191 := n5_; have NB191_190 := n6_; clear n0_ n1_ n2_ n3_ n4_ n5_ n6_; clear hb hbox hg; have hnb9 := NB190_191.out; have hnc9 := NB191_190.out; have hcz10_0 : w8.cell? ⟨gb190, 0, none⟩ = some (.slice A0_0 l0_0.length c0_0) := (blk_cell BK190.out 0).trans rfl; have hfz10_0 := blk_frozen BK190.out 0; have hcz11_0 : w8.cell? ⟨gb191, 0, none⟩ = some (.slice A2_0 l2_0.length c2_0) := (blk_cell BK191.out 0).trans rfl; have hfz11_0 := blk_frozen BK191.out 0) | ((with_reducible refine gate_callee (f := 98) rfl ?_); refine goesL_ (some 11) rfl rfl Try.func98 (by kernel_rfl) rfl #[.agg #[.slice A0_0 l0_0.length c0_0], .int .i64 a1, .agg #[.slice A2_0 l2_0.length c2_0]] rfl (by (try simp only [List.map_toArray, List.map_cons, List.map_nil]); first | done | rfl | (simp only [List.length_drop, List.length_take]; rfl)) ?_; (with_reducible refine (impl_areStacks.calls _ _ l0_0 a1 _ _ l2_0 true _ ?side1 ?side2 ?side3 ?side4 A4.out).mono ?_); (case side1 => repeat (first | exact (Kd.C_below HR0_0.out HB.out) | (with_reducible refine Kd.C_alloc ?_ _) | (with_reducible refine Kd.C_drewN ?_ _) | (with_reducible refine Kd.C_drew ?_))); (case side2 => exact HC0_0.out); (case side3 => repeat (first | exact (Kd.C_below HR2_0.out HB.out) | (with_reducible refine Kd.C_alloc ?_ _) | (with_reducible refine Kd.C_drewN ?_ _) | (with_reducible refine Kd.C_drew ?_))); (case side4 => exact HC2_0.out); rintro e w12 ⟨rfl, hb⟩; refine ⟨_, rfl, ?_⟩; have n0_ := Aside0.mk (blk_below (g := gb190) (o := .cells #[.slice A0_0 l0_0.length c0_0] 30 (0, 0)) (by (with_reducible repeat (first | refine blk_drewN ?_ _ | refine blk_drew ?_ | refine blk_alloc ?_ _)); exact BK190.out) hb); have n1_ := Aside0.mk (blk_below (g := gb191) (o := .cells #[.slice A2_0 l2_0.length c2_0] 59 (0, 0)) (by (with_reducible repeat (first | refine blk_drewN ?_ _ | refine blk_drew ?_ | refine blk_alloc ?_ _)); exact BK191.out) hb); have n2_ := Aside0.mk (below_step (by repeat (first | (with_reducible first | exact HB.out | apply below_alloc | apply pw_below_drewN | apply below_drew1 | refine below_set ?_ GE190.out | refine below_set ?_ GE191.out) | exact HB.out)) hb); clear BK190; clear BK191; clear HB; have BK190 := n0_; have BK191 := n1_; have HB := n2_; clear n0_ n1_ n2_; (try clear hb); (try clear hb2); (try clear hk); (try clear hi); have hcz13_0 : w12.cell? ⟨gb191, 0, none⟩ = some (.slice A2_0 l2_0.length c2_0) := (blk_cell BK191.out 0).trans rfl; have hfz13_0 := blk_frozen BK191.out 0) | ((with_reducible refine gate_callee (f := 100) rfl ?_); refine goesL_ (some 15) rfl rfl Try.func100 (by kernel_rfl) rfl #[.agg #[.slice A2_0 l2_0.length c2_0], .int .i64 a1] rfl (by (try simp only [List.map_toArray, List.map_cons, List.map_nil]); first | done | rfl | (simp only [List.length_drop, List.length_take]; rfl)) ?_; (with_reducible refine (impl_Stacks_tops.calls k _ _ l2_0 a1 t193 t196 _ ?side1 ?side2 A6.out).mono ?_); (case side1 => repeat (first | exact (Kd.C_below HR2_0.out HB.out) | (with_reducible refine Kd.C_alloc ?_ _) | (with_reducible refine Kd.C_drewN ?_ _) | (with_reducible refine Kd.C_drew ?_))); (case side2 => exact HC2_0.out); rintro e w14 ⟨v194, rfl, ho0, hb⟩; refine ⟨_, rfl, ?_⟩; have n0_ := Aside0.mk (Kd.R_lower ho0 (below_size (by repeat (first | (with_reducible first | exact HB.out | apply below_alloc | apply pw_below_drewN | apply below_drew1 | refine below_set ?_ GE190.out | refine below_set ?_ GE191.out) | exact HB.out)))); have n1_ := Aside0.mk (blk_below (g := gb190) (o := .cells #[.slice A0_0 l0_0.length c0_0] 30 (0, 0)) (by (with_reducible repeat (first | refine blk_drewN ?_ _ | refine blk_drew ?_ | refine blk_alloc ?_ _)); exact BK190.out) hb); have n2_ := Aside0.mk (blk_below (g := gb191) (o := .cells #[.slice A2_0 l2_0.length c2_0] 59 (0, 0)) (by (with_reducible repeat (first | refine blk_drewN ?_ _ | refine blk_drew ?_ | refine blk_alloc ?_ _)); exact BK191.out) hb); have n3_ := Aside0.mk (below_step (by repeat (first | (with_reducible first | exact HB.out | apply below_alloc | apply pw_below_drewN | apply below_drew1 | refine below_set ?_ GE190.out | refine below_set ?_ GE191.out) | exact HB.out)) hb); clear BK190; clear BK191; clear HB; have HO195 := n0_; have BK190 := n1_; have BK191 := n2_; have HB := n3_; clear n0_ n1_ n2_ n3_; (try clear hb); (try clear hb2); (try clear hk); (try clear hi); (try clear ho0)))
    go_ret2
    exact ⟨_, by first | rfl | (simp [errW_none, errW_some] <;> rfl) | (simp [*, errW_none, errW_some] <;> rfl), by (with_reducible repeat (first | apply Kd.R_alloc | apply Kd.R_drewN | apply Kd.R_drew)); exact HO195.out, by repeat (first | (with_reducible first | exact HB.out | apply below_alloc | apply pw_below_drewN | apply below_drew1 | refine below_set ?_ GE190.out | refine below_set ?_ GE191.out) | exact HB.out)⟩
  · replace c5 := Bool.eq_false_iff.mpr c5
    subst c5
    have H1 : (some (([] : List Int), false)) = some (r1, r2) := by rw [if_neg (show ¬ (false = true) by decide)] at H; exact H
    clear H
    have H := H1
    clear H1
    simp only [Option.some.injEq, Prod.mk.injEq] at H
    obtain ⟨rfl, rfl⟩ := H
    go_enter Try.func59, Try.ntmps59
    go_wp2_with (first | ((with_reducible refine gate_dst (N := 3) rfl ?_); refine box_event ?hg (N := 3) ?hd (cs := #[.slice A0_0 l0_0.length c0_0]) (t := 30) ?hr ?_; (case hd => rfl); (case hg => rfl); (case hr => first | (go_simp; done) | (go_simp; rfl)); intro gb190 hg w15 hbox hb; have n0_ := Aside0.mk (below_step (by repeat (first | (with_reducible first | exact HB.out | apply below_alloc | apply pw_below_drewN | apply below_drew1) | exact HB.out)) hb); have n1_ := Aside0.mk (hbox); have n2_ := Aside0.mk ((by rw [hg]; exact (below_size (by repeat (first | (with_reducible first | exact HB.out | apply below_alloc | apply pw_below_drewN | apply below_drew1) | exact HB.out))) : w.heap.size ≤ gb190)); have n3_ := Aside0.mk ((by rw [hg]; exact (below_size (by repeat (first | (with_reducible first | exact HB.out | apply below_alloc | apply pw_below_drewN | apply below_drew1) | exact HB.out))) : w.heap.size ≤ gb190)); clear HB; have HB := n0_; have BK190 := n1_; have GW190 := n2_; have GE190 := n3_; clear n0_ n1_ n2_ n3_; clear hb hbox hg) | ((with_reducible refine gate_dst (N := 5) rfl ?_); refine box_event ?hg (N := 5) ?hd (cs := #[.slice A2_0 l2_0.length c2_0]) (t := 59) ?hr ?_; (case hd => rfl); (case hg => rfl); (case hr => first | (go_simp; done) | (go_simp; rfl)); intro gb191 hg w16 hbox hb; have n0_ := Aside0.mk (blk_below (g := gb190) (o := .cells #[.slice A0_0 l0_0.length c0_0] 30 (0, 0)) (by (with_reducible repeat (first | refine blk_drewN ?_ _ | refine blk_drew ?_ | refine blk_alloc ?_ _)); exact BK190.out) hb); have n1_ := Aside0.mk (below_step (by repeat (first | (with_reducible first | exact HB.out | apply below_alloc | apply pw_below_drewN | apply below_drew1 | refine below_set ?_ GE190.out) | exact HB.out)) hb); have n2_ := Aside0.mk (hbox); have n3_ := Aside0.mk ((by rw [hg]; exact (below_size (by repeat (first | (with_reducible first | exact HB.out | apply below_alloc | apply pw_below_drewN | apply below_drew1 | refine below_set ?_ GE190.out) | exact HB.out))) : w.heap.size ≤ gb191)); have n4_ := Aside0.mk ((by rw [hg]; exact (below_size (by repeat (first | (with_reducible first | exact HB.out | apply below_alloc | apply pw_below_drewN | apply below_drew1 | refine below_set ?_ GE190.out) | exact HB.out))) : w.heap.size ≤ gb191)); have n5_ := Aside0.mk ((by rw [hg]; exact Nat.ne_of_lt (blk_lt (g := gb190) (o := .cells #[.slice A0_0 l0_0.length c0_0] 30 (0, 0)) (by (with_reducible repeat (first | refine blk_drewN ?_ _ | refine blk_drew ?_ | refine blk_alloc ?_ _)); exact BK190.out)) : gb190 ≠ gb191)); have n6_ := Aside0.mk ((by rw [hg]; exact Nat.ne_of_gt (blk_lt (g := gb190) (o := .cells #[.slice A0_0 l0_0.length c0_0] 30 (0, 0)) (by (with_reducible repeat (first | refine blk_drewN ?_ _ | refine blk_drew ?_ | refine blk_alloc ?_ _)); exact BK190.out)) : gb191 ≠ gb190)); clear BK190; clear HB; have BK190 := n0_; have HB := n1_; have BK191 := n2_; have GW191 := n3_; have GE191 := n4_; have NB190_191 := n5_; have NB191_190 := n6_; clear n0_ n1_ n2_ n3_ n4_ n5_ n6_; clear hb hbox hg; have hnb17 := NB190_191.out; have hnc17 := NB191_190.out; have hcz18_0 : w16.cell? ⟨gb190, 0, none⟩ = some (.slice A0_0 l0_0.length c0_0) := (blk_cell BK190.out 0).trans rfl; have hfz18_0 := blk_frozen BK190.out 0; have hcz19_0 : w16.cell? ⟨gb191, 0, none⟩ = some (.slice A2_0 l2_0.length c2_0) := (blk_cell BK191.out 0).trans rfl; have hfz19_0 := blk_frozen BK191.out 0) | ((with_reducible refine gate_callee (f := 98) rfl ?_); refine goesL_ (some 11) rfl rfl Try.func98 (by kernel_rfl) rfl #[.agg #[.slice A0_0 l0_0.length c0_0], .int .i64 a1, .agg #[.slice A2_0 l2_0.length c2_0]] rfl (by (try simp only [List.map_toArray, List.map_cons, List.map_nil]); first | done | rfl | (simp only [List.length_drop, List.length_take]; rfl)) ?_; (with_reducible refine (impl_areStacks.calls _ _ l0_0 a1 _ _ l2_0 false _ ?side1 ?side2 ?side3 ?side4 A4.out).mono ?_); (case side1 => repeat (first | exact (Kd.C_below HR0_0.out HB.out) | (with_reducible refine Kd.C_alloc ?_ _) | (with_reducible refine Kd.C_drewN ?_ _) | (with_reducible refine Kd.C_drew ?_))); (case side2 => exact HC0_0.out); (case side3 => repeat (first | exact (Kd.C_below HR2_0.out HB.out) | (with_reducible refine Kd.C_alloc ?_ _) | (with_reducible refine Kd.C_drewN ?_ _) | (with_reducible refine Kd.C_drew ?_))); (case side4 => exact HC2_0.out); rintro e w20 ⟨rfl, hb⟩; refine ⟨_, rfl, ?_⟩; have n0_ := Aside0.mk (blk_below (g := gb190) (o := .cells #[.slice A0_0 l0_0.length c0_0] 30 (0, 0)) (by (with_reducible repeat (first | refine blk_drewN ?_ _ | refine blk_drew ?_ | refine blk_alloc ?_ _)); exact BK190.out) hb); have n1_ := Aside0.mk (blk_below (g := gb191) (o := .cells #[.slice A2_0 l2_0.length c2_0] 59 (0, 0)) (by (with_reducible repeat (first | refine blk_drewN ?_ _ | refine blk_drew ?_ | refine blk_alloc ?_ _)); exact BK191.out) hb); have n2_ := Aside0.mk (below_step (by repeat (first | (with_reducible first | exact HB.out | apply below_alloc | apply pw_below_drewN | apply below_drew1 | refine below_set ?_ GE190.out | refine below_set ?_ GE191.out) | exact HB.out)) hb); clear BK190; clear BK191; clear HB; have BK190 := n0_; have BK191 := n1_; have HB := n2_; clear n0_ n1_ n2_; (try clear hb); (try clear hb2); (try clear hk); (try clear hi)))
    go_ret2
    exact ⟨_, by first | rfl | (simp [errW_none, errW_some] <;> rfl) | (simp [*, errW_none, errW_some] <;> rfl), by first | exact Kd.R_nil _ _ _ _ _ | exact Kd.N_nil _ _ _ _ _ | exact Kd.V_nil _ _ _ _ _ | exact Kd.Q_nil _ _ _ _ _ | exact Kd.S_nil _ _ _ _ _, by repeat (first | (with_reducible first | exact HB.out | apply below_alloc | apply pw_below_drewN | apply below_drew1 | refine below_set ?_ GE190.out | refine below_set ?_ GE191.out) | exact HB.out)⟩
mutual
def impl_isWalk.j0 : Nat → Bool → List (List Int) → List Int → Int → Option (Bool)
  | 0, _, _, _, _ => none
  | k + 1, x21, x261000, x262000, x262001 => if x21 = true then (some false) else (impl_isWalk.l0 k x262000 (x262000.length : Int) 0 x261000)
def impl_isWalk.l0 : Nat → List Int → Int → Int → List (List Int) → Option (Bool)
  | 0, _, _, _, _ => none
  | k + 1, x23, x24, x25, x261000 => if x25 < x24 then (if 0 ≤ x25 then (if x25 < (x23.length : Int) then (if x25 < (x261000.length : Int) then ((impl_in.f (rd x23 x25) 0 (mx (wrap64 (((rd_L1 x261000 x25).length : Int) - 1)) 0)).bind fun t268 => (if t268 = true then (impl_isWalk.l0 k x23 x24 (wrap64 (x25 + 1)) x261000) else (some false))) else (none)) else (none)) else (none)) else (some true)
end
end Go.Proofs.Ytnbnalbomflafaa.GR
/-! ## GR2 -/
namespace Go.Proofs.Ytnbnalbomflafaa.GR
open Go.RowKit Go.Proofs.YtnbnalbomflafaaW.PrintWords Go.Proofs.YtnbnalbomflafaaW.PrintLast Go.Proofs.YtnbnalbomflafaaW.PrintMore
open Go.Proofs.Ytnbnalbomflafaa.GA Go.Proofs.Ytnbnalbomflafaa.GB Go.Proofs.Ytnbnalbomflafaa.GD Go.Proofs.Ytnbnalbomflafaa.KA
attribute [local go_sem] max2_int min2_int max_two min_two max_three min_three max_four min_four   -- for this text's walks alone
set_option linter.unusedVariables false
set_option linter.unusedSimpArgs false
mutual
def impl_RotorStacks.j0 : Nat → Int → List Int → Int → Bool → List (List Int) → Option ((List (List Int)) × Bool)
  | 0, _, _, _, _, _ => none
  | k + 1, x1, x2, x3, x30, x272000 => if x30 = true then (some (([] : List (List Int)), false)) else (impl_RotorStacks.l0 k x1 x2 x3 x272000 (x272000.length : Int) 0 ([] : List (List Int)))
def impl_RotorStacks.l0 : Nat → Int → List Int → Int → List (List Int) → Int → Int → List (List Int) → Option ((List (List Int)) × Bool)
  | 0, _, _, _, _, _, _, _ => none
  | k + 1, x1, x2, x3, x34, x35, x36, x280000 => if x36 < x35 then (if 0 ≤ x36 then (if x36 < (x34.length : Int) then (impl_RotorStacks.l1 k x1 x2 x3 x36 (rd_L1 x34 x36) (([] : List Int)) 1 x34 x35 x36 x280000) else (none)) else (none)) else (some (x280000, true))
def impl_RotorStacks.l1 : Nat → Int → List Int → Int → Int → List Int → List Int → Int → List (List Int) → Int → Int → List (List Int) → Option ((List (List Int)) × Bool)
  | 0, _, _, _, _, _, _, _, _, _, _, _ => none
  | k + 1, x1, x2, x3, x11, x12, x13, x14, x34, x35, x36, x280000 => if x14 ≤ x3 then (if x11 = x1 then (if x280000.length < 5864062014805 then (impl_RotorStacks.l0 k x1 x2 x3 x34 x35 (wrap64 (x36 + 1)) (x280000 ++ [x13])) else (none)) else (if (x12.length : Int) > 0 then (if 0 ≤ x11 then (if x11 < (x2.length : Int) then (if (x12.length : Int) = 0 then (none) else (if x13.length < 17592186044416 then (impl_RotorStacks.l1 k x1 x2 x3 x11 x12 (x13 ++ [Int.tmod (wrap64 ((rd x2 x11) + x14)) (x12.length : Int)]) (wrap64 (x14 + 1)) x34 x35 x36 x280000) else (none))) else (none)) else (none)) else (if x280000.length < 5864062014805 then (impl_RotorStacks.l0 k x1 x2 x3 x34 x35 (wrap64 (x36 + 1)) (x280000 ++ [x13])) else (none)))) else (if x280000.length < 5864062014805 then (impl_RotorStacks.l0 k x1 x2 x3 x34 x35 (wrap64 (x36 + 1)) (x280000 ++ [x13])) else (none))
end
end Go.Proofs.Ytnbnalbomflafaa.GR
/-! ## Ku -/
namespace Go.Proofs.Ytnbnalbomflafaa.KA
open Go.RowKit Go.Proofs.YtnbnalbomflafaaW.PrintWords Go.Proofs.YtnbnalbomflafaaW.PrintLast
open Go.Proofs.Ytnbnalbomflafaa.GA Go.Proofs.Ytnbnalbomflafaa.GD
set_option linter.unusedVariables false
set_option linter.unusedSimpArgs false
theorem rdGD (l : List (List Int)) (i : Int) : GD.rd_L1 l i = GA.rd_L1 l i := rfl
theorem okStack_eq (n : Nat) (row : List Int) : okStack n row = (decide (row.length ≤ 12) && row.all fun x => inB x 0 ((n : Int) - 1)) := by
  unfold okStack
  congr 1
  rw [List.not_any_eq_all_not]
  simp
theorem skGood_loop (l s : List (List Int)) (hn : l.length ≤ 8) (hsl : s.length = l.length) (h5 : ∀ r ∈ l, r.length ≤ 5) (d : Nat) : ∀ (k i : Nat), i + d = s.length → d + 15 < k → spec_skGood.l0 k s (s.length : Int) (i : Int) l = some (okStacks (l.drop i) (s.drop i)) := by
  induction d with
  | zero =>
    intro k i hi hk
    obtain ⟨k, rfl⟩ := succ_of hk
    unfold spec_skGood.l0
    rw [if_neg (by omega), List.drop_of_length_le (by omega), List.drop_of_length_le (by omega)]
    rfl
  | succ d ih =>
    intro k i hi hk
    obtain ⟨k, rfl⟩ := succ_of hk
    have hlt : i < s.length := by omega
    have hil : i < l.length := by omega
    have := h5 _ (List.getElem_mem hil)
    unfold spec_skGood.l0
    rw [if_pos (by omega), if_pos (by omega), if_pos (by omega), rdGD, rdGD, rdL_at s i hlt, rdL_at l i hil, okStacks_drop l s i hil hlt, okStack_eq]
    by_cases h12 : s[i].length ≤ 12
    · rw [if_neg (by omega), if_pos (by omega), wrap_id (by omega) (by omega), l1All_eq _ _ _ (by omega) k (by omega), decide_eq_true h12, Bool.true_and]
      simp only [Option.bind_some]
      cases hx : s[i].all fun x => inB x 0 ((l[i].length : Int) - 1) with
      | true => rw [if_pos rfl, wrap_up hlt (by omega), ih k (i + 1) (by omega) (by omega), Bool.true_and]
      | false => rw [if_neg (by decide), Bool.false_and]
    · rw [if_pos (by omega), decide_eq_false h12, Bool.false_and, Bool.false_and]
theorem skGood_eq (l : List (List Int)) (a : Int) (s : List (List Int)) (k : Nat) (hk : 100 ≤ k) : spec_skGood.f k l a s = some (stacksB l a s) := by
  obtain ⟨k, rfl⟩ := succ_of (show 0 < k by omega)
  unfold spec_skGood.f stacksB
  rw [grPlace_eq l a _ (by omega)]
  simp only [Option.bind_some]
  cases hp : placeB l a with
  | false => simp [spec_skGood.j0]
  | true =>
    obtain ⟨hg, h1, h8, ha0, hal⟩ := place_is hp
    obtain ⟨a, rfl⟩ := Int.eq_ofNat_of_zero_le ha0
    rw [if_pos rfl]
    by_cases hsl : s.length = l.length
    · have has : a < s.length := by omega
      rw [if_pos (by omega), if_pos ha0, if_pos (by omega), rdGD, rdL_at s a has, Int.toNat_natCast]
      rw [show s.getD a [] = s[a] by rw [List.getD_eq_getElem?_getD, List.getElem?_eq_getElem has]; rfl]
      simp only [spec_skGood.j0]
      by_cases hz : s[a].length = 0
      · have := skGood_loop l s h8 hsl (fun r hr => (graph_row hg hr).1) s.length k 0 (by omega) (by omega)
        rw [List.drop_zero, List.drop_zero] at this
        rw [show decide ((s[a].length : Int) > 0) = false from decide_eq_false (by omega), if_neg (by decide), show (0 : Int) = ((0 : Nat) : Int) from rfl, this]
        simp [hsl, hz]
      · rw [show decide ((s[a].length : Int) > 0) = true from decide_eq_true (by omega), if_pos rfl]
        simp [hz]
    · rw [if_neg (by omega)]
      simp [spec_skGood.j0, hsl]
end Go.Proofs.Ytnbnalbomflafaa.KA
/-! ## Rc -/
namespace Go.Proofs.Ytnbnalbomflafaa.RA
open Go.RowKit Go.Proofs.YtnbnalbomflafaaW.PrintWords Go.Proofs.YtnbnalbomflafaaW.PrintLast Go.Proofs.YtnbnalbomflafaaW.PrintMore
open Go.Proofs.Ytnbnalbomflafaa.GA
open Go.Proofs.Ytnbnalbomflafaa.GD hiding rd_L1 at_L1
open Go.Proofs.Ytnbnalbomflafaa.GR hiding rd_L1 at_L1
open Go.Proofs.Ytnbnalbomflafaa.KA (stacksB placeB skGood_eq succ_of wrap_up impl_areStacks.f okStacks)
set_option linter.unusedVariables false
set_option linter.unusedSimpArgs false
/-- The answers: lists. -/
def ResC (w : World) (R : List Int) (ok : Bool) (e : Ending) (w' : World) : Prop := ∃ v, e = .returned (.tuple #[v, .bool ok]) ∧ Below w.heap.size w w' ∧ Aside0 (ListC w' v R)
def ResD (w : World) (R : List Int) (ok : Bool) (e : Ending) (w' : World) : Prop := ∃ v, e = .returned (.tuple #[v, .bool ok]) ∧ Below w.heap.size w w' ∧ Aside0 (ListD w' w.heap.size v R)
def topsL (a : Int) : List (List Int) → Int → Option (List Int)
  | [], _ => some []
  | r :: s, i => if i = a then (topsL a s (i + 1)).map (0 :: ·) else if r.length = 0 then none else (topsL a s (i + 1)).map (rd r 0 :: ·)
theorem topsL_len (a : Int) : ∀ (s : List (List Int)) (i : Int) (t : List Int), topsL a s i = some t → t.length = s.length
  | [], _, t, h => by unfold topsL at h; cases h; rfl
  | r :: s, i, t, h => by
    unfold topsL at h
    split at h
    · obtain ⟨u, h1, rfl⟩ := Option.map_eq_some_iff.1 h
      simp [topsL_len a s _ u h1]
    · split at h
      · cases h
      · obtain ⟨u, h1, rfl⟩ := Option.map_eq_some_iff.1 h
        simp [topsL_len a s _ u h1]
def topsV (a : Int) (s : List (List Int)) : List Int × Bool := match topsL a s 0 with
  | some t => (t, true)
  | none => ([], false)
theorem topsV_len (a : Int) (s : List (List Int)) : (topsV a s).1.length ≤ s.length := by
  unfold topsV
  cases h : topsL a s 0 with
  | none => simp
  | some t => have := topsL_len a s 0 t h; simp; omega
theorem rdD (l : List (List Int)) (i : Int) : GD.rd_L1 l i = GA.rd_L1 l i := rfl
def ansT (pre : List Int) : Option (List Int) → List Int × Bool
  | some t => (pre ++ t, true)
  | none => ([], false)
theorem impl_tops_loop (a : Int) (s : List (List Int)) (hl : s.length ≤ 1000000) (d : Nat) : ∀ (k i : Nat) (pre : List Int), i + d = s.length → pre.length = i → d < k → impl_Stacks_tops.l0 k a pre s (s.length : Int) (i : Int) = some (ansT pre (topsL a (s.drop i) (i : Int))) := by
  induction d with
  | zero =>
    intro k i pre hi hp hk
    obtain ⟨k, rfl⟩ := succ_of hk
    unfold impl_Stacks_tops.l0
    rw [if_neg (by omega), List.drop_eq_nil_of_le (by omega)]
    simp [topsL, ansT]
  | succ d ih =>
    intro k i pre hi hp hk
    obtain ⟨k, rfl⟩ := succ_of hk
    have hin : i < s.length := by omega
    have e2 := wrap_up hin (by omega)
    unfold impl_Stacks_tops.l0
    rw [if_pos (by omega), if_pos (by omega), if_pos (by omega), List.drop_eq_getElem_cons hin]
    conv => rhs; unfold topsL
    by_cases ha : (i : Int) = a
    · rw [if_pos ha, if_pos ha, if_pos (by omega), e2, ih k (i + 1) _ (by omega) (by simp; omega) (by omega)]
      rw [show ((i + 1 : Nat) : Int) = (i : Int) + 1 by omega]
      cases topsL a (s.drop (i + 1)) ((i : Int) + 1) <;> simp [ansT]
    · rw [if_neg ha, if_neg ha, rdD, rdL_at s i hin]
      by_cases h0 : s[i].length = 0
      · rw [if_pos (by omega), if_pos h0]
        rfl
      · rw [if_neg (by omega), if_neg h0, if_pos (by omega), if_pos (by omega), e2, ih k (i + 1) _ (by omega) (by simp; omega) (by omega)]
        rw [show ((i + 1 : Nat) : Int) = (i : Int) + 1 by omega]
        cases topsL a (s.drop (i + 1)) ((i : Int) + 1) <;> simp [ansT]
theorem spec_tops_loop (a : Int) (s : List (List Int)) (hl : s.length ≤ 1000000) (d : Nat) : ∀ (k i : Nat) (x : List Int), i + d = s.length → x.length = s.length → x.drop i = List.replicate d 0 → d < k → spec_skTops.l0 k a x s (s.length : Int) (i : Int) = some (ansT (x.take i) (topsL a (s.drop i) (i : Int))) := by
  induction d with
  | zero =>
    intro k i x hi hx hr hk
    obtain ⟨k, rfl⟩ := succ_of hk
    unfold spec_skTops.l0
    rw [if_neg (by omega), List.drop_eq_nil_of_le (by omega)]
    simp only [topsL, ansT, List.append_nil]
    rw [List.take_of_length_le (by omega)]
  | succ d ih =>
    intro k i x hi hx hr hk
    obtain ⟨k, rfl⟩ := succ_of hk
    have hin : i < s.length := by omega
    have hix : i < x.length := by omega
    have e2 := wrap_up hin (by omega)
    rw [List.drop_eq_getElem_cons hix, List.replicate_succ] at hr
    obtain ⟨hr0, hr1⟩ := List.cons.inj hr
    unfold spec_skTops.l0
    rw [if_pos (by omega), if_pos (by omega), if_pos (by omega), List.drop_eq_getElem_cons hin]
    conv => rhs; unfold topsL
    by_cases ha : (i : Int) = a
    · rw [if_pos ha, if_pos ha, e2, ih k (i + 1) x (by omega) hx hr1 (by omega)]
      rw [show ((i + 1 : Nat) : Int) = (i : Int) + 1 by omega, List.take_succ_eq_append_getElem hix, hr0]
      cases topsL a (s.drop (i + 1)) ((i : Int) + 1) <;> simp [ansT]
    · rw [if_neg ha, if_neg ha, rdD, rdL_at s i hin]
      by_cases h0 : s[i].length = 0
      · rw [if_pos (by omega), if_pos h0]
        rfl
      · rw [if_neg (by omega), if_neg h0, if_pos (by omega), if_pos (by omega), e2, Int.toNat_natCast, ih k (i + 1) _ (by omega) (by simpa using hx) (by rw [List.drop_set_of_lt (by omega)]; exact hr1) (by omega)]
        rw [show ((i + 1 : Nat) : Int) = (i : Int) + 1 by omega, List.take_succ_eq_append_getElem (by simpa using hix), List.take_set_of_le (by omega)]
        cases topsL a (s.drop (i + 1)) ((i : Int) + 1) <;> simp [ansT]
theorem impl_tops (a : Int) (s : List (List Int)) (hl : s.length ≤ 1000000) (k : Nat) (hk : s.length < k) : impl_Stacks_tops.f k s a = some (topsV a s) := by
  unfold impl_Stacks_tops.f
  have := impl_tops_loop a s hl s.length k 0 [] (by omega) rfl hk
  rw [show ((0 : Nat) : Int) = 0 from rfl, List.drop_zero] at this
  rw [this]
  unfold topsV ansT
  cases topsL a s 0 <;> rfl
theorem spec_tops (l : List (List Int)) (a : Int) (s : List (List Int)) (hl : s.length ≤ 1000000) (hsl : s.length = l.length) (k : Nat) (hk : s.length < k) : spec_skTops.f k l a s = some (topsV a s) := by
  unfold spec_skTops.f
  rw [if_pos (by omega), if_pos (by omega), Int.toNat_natCast, ← hsl]
  have := spec_tops_loop a s hl s.length k 0 (List.replicate s.length 0) (by omega) (by simp) (by simp) hk
  rw [show ((0 : Nat) : Int) = 0 from rfl, List.drop_zero] at this
  rw [this]
  unfold topsV ansT
  cases topsL a s 0 <;> rfl
def topsA (l : List (List Int)) (a : Int) (s : List (List Int)) : List Int × Bool := if stacksB l a s = true then topsV a s else ([], false)
theorem stacks_len {l : List (List Int)} {a : Int} {s : List (List Int)} (h : stacksB l a s = true) : s.length = l.length ∧ l.length ≤ 8 := by
  unfold stacksB at h
  simp only [Bool.and_eq_true, decide_eq_true_eq] at h
  obtain ⟨⟨⟨h1, h2⟩, _⟩, _⟩ := h
  exact ⟨h2, (KA.place_is h1).2.2.1⟩
theorem spec_TopsOf_f (l : List (List Int)) (a : Int) (s : List (List Int)) : spec_TopsOf.f 200 l a s = some (topsA l a s) := by
  unfold spec_TopsOf.f topsA
  rw [skGood_eq l a s 200 (by omega)]
  simp only [Option.bind_some]
  cases h : stacksB l a s with
  | false => rfl
  | true =>
    obtain ⟨h1, h2⟩ := stacks_len h
    rw [if_pos rfl, if_pos rfl, spec_tops l a s (by omega) h1 200 (by omega)]
    rfl
theorem impl_TopsOf_f (l : List (List Int)) (a : Int) (s : List (List Int)) : impl_TopsOf.f 200 l a s = some (topsA l a s) := by
  unfold impl_TopsOf.f topsA impl_areStacks.f
  simp only [Option.bind_some]
  cases h : stacksB l a s with
  | false => rfl
  | true =>
    obtain ⟨h1, h2⟩ := stacks_len h
    rw [if_pos rfl, if_pos rfl, impl_tops a s (by omega) 200 (by omega)]
    rfl
theorem topsA_fits (l : List (List Int)) (a : Int) (s : List (List Int)) : FitsL (topsA l a s).1 := by
  unfold FitsL topsA
  cases h : stacksB l a s with
  | false => simp
  | true =>
    obtain ⟨h1, h2⟩ := stacks_len h
    have := topsV_len a s
    rw [if_pos rfl]
    omega
theorem spec_TopsOf_c (l : List (List Int)) (a : Int) (s : List (List Int)) (W : World) (v u : Value) (hv : RowsC W v l) (hu : RowsC W u s) : Calls Try.prog 58 #[.agg #[v], .int .i64 a, .agg #[u]] W (ResC W (topsA l a s).1 (topsA l a s).2) := by
  obtain ⟨A, c, rfl, hc, hC⟩ := hv
  obtain ⟨A2, c2, rfl, hc2, hC2⟩ := hu
  refine (spec_TopsOf.calls 200 A c l a A2 c2 s _ _ W hC hc hC2 hc2 (spec_TopsOf_f l a s)).mono ?_
  rintro e w' ⟨v0, rfl, hR, hB⟩
  exact ⟨v0, rfl, hB, ⟨rowI_reads (Kd.own_of_R hR)⟩⟩
theorem impl_TopsOf_c (l : List (List Int)) (a : Int) (s : List (List Int)) (W : World) (v u : Value) (hv : RowsC W v l) (hu : RowsC W u s) : Calls Try.prog 59 #[.agg #[v], .int .i64 a, .agg #[u]] W (ResD W (topsA l a s).1 (topsA l a s).2) := by
  obtain ⟨A, c, rfl, hc, hC⟩ := hv
  obtain ⟨A2, c2, rfl, hc2, hC2⟩ := hu
  refine (impl_TopsOf.calls 200 A c l a A2 c2 s _ _ W hC hc hC2 hc2 (impl_TopsOf_f l a s)).mono ?_
  rintro e w' ⟨v0, rfl, hR, hB⟩
  exact ⟨v0, rfl, hB, ⟨Kd.own_of_R hR⟩⟩
end Go.Proofs.Ytnbnalbomflafaa.RA
/-! ## Rd -/
namespace Go.Proofs.Ytnbnalbomflafaa.RA
open Go.RowKit Go.Proofs.YtnbnalbomflafaaW.PrintWords Go.Proofs.YtnbnalbomflafaaW.PrintLast Go.Proofs.YtnbnalbomflafaaW.PrintMore
set_option linter.unusedVariables false
set_option linter.unusedSimpArgs false
def T15_8 : Bool × List (List Nat × List Nat) := (true, [([], []), ([0], [0]), ([], []), ([], []), ([3, 1], [3]), ([1, 2, 4, 4], [1, 2, 4]), ([5], [5]), ([6], [6]), ([6], [6]), ([7, 5, 0, 1, 2, 3, 4, 5, 6, 7], [7]), ([8, 9, 0, 1, 2, 3, 4, 5, 6, 7, 8, 9], [8])])
def B15_8 : List Nat := [0, 1, 0, 0, 11, 31, 63, 127, 127, 255, 1023]
theorem tabT15_8 : rtab .any (opsOf Try.f15 8) = T15_8 := by kernel_rfl
theorem bitsB15_8 : waitsOk T15_8.2 B15_8 = true := by kernel_rfl
def T15_14 : Bool × List (List Nat × List Nat) := (true, [([], []), ([], []), ([1], [1]), ([0, 2, 2], [0, 2]), ([3], [3])])
def B15_14 : List Nat := [0, 0, 2, 7, 15]
theorem tabT15_14 : rtab .any (opsOf Try.f15 14) = T15_14 := by kernel_rfl
theorem bitsB15_14 : waitsOk T15_14.2 B15_14 = true := by kernel_rfl
def T15_16 : Bool × List (List Nat × List Nat) := (true, [([], []), ([], []), ([1], [1]), ([0, 2, 2], [0, 2]), ([3], [3])])
def B15_16 : List Nat := [0, 0, 2, 7, 15]
theorem tabT15_16 : rtab .any (opsOf Try.f15 16) = T15_16 := by kernel_rfl
theorem bitsB15_16 : waitsOk T15_16.2 B15_16 = true := by kernel_rfl
def T15_31 : Bool × List (List Nat × List Nat) := (true, [([], []), ([0], [0]), ([], []), ([], []), ([3, 1], [3]), ([1, 2, 4, 4], [1, 2, 4]), ([5], [5]), ([6], [6]), ([6], [6]), ([7, 5, 0, 1, 2, 3, 4, 5, 6, 7], [7]), ([8, 9, 0, 1, 2, 3, 4, 5, 6, 7, 8, 9], [8])])
def B15_31 : List Nat := [0, 1, 0, 0, 11, 31, 63, 127, 127, 255, 1023]
theorem tabT15_31 : rtab .any (opsOf Try.f15 31) = T15_31 := by kernel_rfl
theorem bitsB15_31 : waitsOk T15_31.2 B15_31 = true := by kernel_rfl
set_option maxHeartbeats 4000000 in
set_option maxRecDepth 100000 in
theorem law_TopsOf.walk (v0 : Value) (l0 : List (List Int)) (a1 : Int) (v2 : Value) (l2 : List (List Int)) (w : World) (hv0 : RowsC w v0 l0) (hv2 : RowsC w v2 l2)  : Calls Try.prog 15 #[.agg #[v0], .int .i64 a1, .agg #[v2]] w fun e w' => e = .returned (.bool true) ∧ Below w.heap.size w w' := by
  have HS0 := Aside0.mk hv0
  have HS1 := Aside0.mk hv2
  clear hv0 hv2
  obtain ⟨z0, hz0⟩ : ∃ z, z = szZ l0 1048576 := ⟨_, rfl⟩
  rcases szZ_is l0 1048576 (by omega) with hq0 | ⟨hp0, hr0, hs0⟩
  · rw [← hz0] at hq0
    have hn0 : z0 < 0 := by omega
    replace hz0 := Aside0.mk hz0
    go_enter Try.func15, Try.ntmps15
    have HZ0 := Aside0.mk hz0.out
    go_upto_region 1 with (fail)
    have HBw : Aside0 (Below w.heap.size w ((w.alloc (.cells #[v0] 24)).alloc (.cells #[v2] 56))) := ⟨((Below.refl w.heap.size w).alloc (by simp) _).alloc (by simp) _⟩
    have hzb : w.heap.size + 2 ≤ ((w.alloc (.cells #[v0] 24)).alloc (.cells #[v2] 56)).heap.size := by simp
    have cx_0 : ((w.alloc (.cells #[v0] 24)).alloc (.cells #[v2] 56)).cell? ⟨w.heap.size, 0, none⟩ = some v0 := box_20 w v0 24 v2 56
    have cx_1 : ((w.alloc (.cells #[v0] 24)).alloc (.cells #[v2] 56)).cell? ⟨w.heap.size + 1, 0, none⟩ = some v2 := box_21 w v0 24 v2 56
    generalize ((w.alloc (.cells #[v0] 24)).alloc (.cells #[v2] 56)) = Wb at *
    go_wp2_with (first | (go_at_call 19; refine (szG_c _ v0 l0 (HS0.out.below HBw.out) 1048576 (by omega)).mono ?_; rintro e W1 ⟨rfl, hB1⟩; rw [← HZ0.out]; have hz2 := hB1.size; have HB3 : Aside0 (Below w.heap.size w W1) := ⟨HBw.out.trans (hB1.mono (by omega))⟩; have HB4 : Aside0 (Below w.heap.size w W1) := ⟨HBw.out.trans (hB1.mono (by omega))⟩; have cx5 : W1.cell? ⟨w.heap.size, 0, none⟩ = some v0 := (hB1.cell (p := ⟨w.heap.size, 0, none⟩) (show w.heap.size < Wb.heap.size by omega)).trans cx_0; have cx6 : W1.cell? ⟨w.heap.size + 1, 0, none⟩ = some v2 := (hB1.cell (p := ⟨w.heap.size + 1, 0, none⟩) (show w.heap.size + 1 < Wb.heap.size by omega)).trans cx_1; clear cx_0 cx_1; clear HBw; clear hB1))
    go_ret
    exact ⟨by first | rfl | trivial, HB3.out⟩
  · rw [← hz0] at hp0 hr0
    obtain ⟨z1, hz1⟩ : ∃ z, z = szZ l2 z0 := ⟨_, rfl⟩
    rcases szZ_is l2 z0 (by omega) with hq1 | ⟨hp1, hr1, hs1⟩
    · rw [← hz1] at hq1
      have hn1 : z1 < 0 := by omega
      have hg0 : ¬ (z0 < 0) := by omega
      replace hz1 := Aside0.mk hz1
      go_enter Try.func15, Try.ntmps15
      have HZ0 := Aside0.mk hz0
      have HZ1 := Aside0.mk hz1.out
      clear hz0
      go_upto_region 1 with (fail)
      have HBw : Aside0 (Below w.heap.size w ((w.alloc (.cells #[v0] 24)).alloc (.cells #[v2] 56))) := ⟨((Below.refl w.heap.size w).alloc (by simp) _).alloc (by simp) _⟩
      have hzb : w.heap.size + 2 ≤ ((w.alloc (.cells #[v0] 24)).alloc (.cells #[v2] 56)).heap.size := by simp
      have cx_0 : ((w.alloc (.cells #[v0] 24)).alloc (.cells #[v2] 56)).cell? ⟨w.heap.size, 0, none⟩ = some v0 := box_20 w v0 24 v2 56
      have cx_1 : ((w.alloc (.cells #[v0] 24)).alloc (.cells #[v2] 56)).cell? ⟨w.heap.size + 1, 0, none⟩ = some v2 := box_21 w v0 24 v2 56
      generalize ((w.alloc (.cells #[v0] 24)).alloc (.cells #[v2] 56)) = Wb at *
      go_wp2_with (first | (go_at_call 19; refine (szG_c _ v0 l0 (HS0.out.below HBw.out) 1048576 (by omega)).mono ?_; rintro e W1 ⟨rfl, hB7⟩; rw [← HZ0.out]; have hz8 := hB7.size; have HB9 : Aside0 (Below w.heap.size w W1) := ⟨HBw.out.trans (hB7.mono (by omega))⟩; have HB10 : Aside0 (Below w.heap.size w W1) := ⟨HBw.out.trans (hB7.mono (by omega))⟩; have cx11 : W1.cell? ⟨w.heap.size, 0, none⟩ = some v0 := (hB7.cell (p := ⟨w.heap.size, 0, none⟩) (show w.heap.size < Wb.heap.size by omega)).trans cx_0; have cx12 : W1.cell? ⟨w.heap.size + 1, 0, none⟩ = some v2 := (hB7.cell (p := ⟨w.heap.size + 1, 0, none⟩) (show w.heap.size + 1 < Wb.heap.size by omega)).trans cx_1; clear cx_0 cx_1; clear HBw; clear hB7) | (go_at_call 53; refine (szS_c _ v2 l2 (HS1.out.below HB10.out) z0 (by omega)).mono ?_; rintro e W2 ⟨rfl, hB13⟩; rw [← HZ1.out]; have hz14 := hB13.size; have HB15 : Aside0 (Below w.heap.size w W2) := ⟨HB9.out.trans (hB13.mono (by omega))⟩; have HB16 : Aside0 (Below w.heap.size w W2) := ⟨HB10.out.trans (hB13.mono (by omega))⟩; have cx17 : W2.cell? ⟨w.heap.size, 0, none⟩ = some v0 := (hB13.cell (p := ⟨w.heap.size, 0, none⟩) (show w.heap.size < W1.heap.size by omega)).trans cx11; have cx18 : W2.cell? ⟨w.heap.size + 1, 0, none⟩ = some v2 := (hB13.cell (p := ⟨w.heap.size + 1, 0, none⟩) (show w.heap.size + 1 < W1.heap.size by omega)).trans cx12; clear cx11 cx12; clear HB9 HB10; clear hB13))
      go_ret
      exact ⟨by first | rfl | trivial, HB15.out⟩
    · rw [← hz1] at hp1 hr1
      have hg0 : ¬ (z0 < 0) := by omega
      have hg1 : ¬ (z1 < 0) := by omega
      have HM : Aside0 (Small l0 ∧ Small l2) := ⟨hs0, hs1⟩
      have ht0 : 0 ≤ tot l0 ∧ tot l0 ≤ 1048576 := ⟨tot_pos _, HM.out.1.2.1⟩
      have ht1 : 0 ≤ tot l2 ∧ tot l2 ≤ 1048576 := ⟨tot_pos _, HM.out.2.2.1⟩
      have hk : ¬ (1 + tot l0 + tot l2 < 0) := by omega
      have HK0 : Aside0 (0 ≤ 1 + tot l0 ∧ 1 + tot l0 ≤ 100000000) := ⟨by omega⟩
      have HK1 : Aside0 (0 ≤ 1 + tot l0 + tot l2 ∧ 1 + tot l0 + tot l2 ≤ 100000000) := ⟨by omega⟩
      clear ht0 ht1
      obtain ⟨R, hR⟩ : ∃ R, R = (topsA l0 a1 l2).1 := ⟨_, rfl⟩
      obtain ⟨ok, hok⟩ : ∃ ok, ok = (topsA l0 a1 l2).2 := ⟨_, rfl⟩
      have hfit : FitsL R := by rw [hR]; exact topsA_fits l0 a1 l2
      have spec0 := fun W v u hv hu => spec_TopsOf_c l0 a1 l2 W v u hv hu
      have impl0 := fun W v u hv hu => impl_TopsOf_c l0 a1 l2 W v u hv hu
      rw [← hR, ← hok] at spec0 impl0
      have hq : ¬ (1 + (R.length : Int) < 0) := by omega
      have HF := Aside0.mk hfit
      have SP := Aside0.mk spec0
      have IM := Aside0.mk impl0
      clear hR hok hfit spec0 impl0
      have HZ0 := Aside0.mk hz0
      have HZ1 := Aside0.mk hz1
      clear hz0 hs0 hz1 hs1
      go_enter Try.func15, Try.ntmps15
      go_upto_region 1 with (fail)
      have HBw : Aside0 (Below w.heap.size w ((w.alloc (.cells #[v0] 24)).alloc (.cells #[v2] 56))) := ⟨((Below.refl w.heap.size w).alloc (by simp) _).alloc (by simp) _⟩
      have hzb : w.heap.size + 2 ≤ ((w.alloc (.cells #[v0] 24)).alloc (.cells #[v2] 56)).heap.size := by simp
      have cx_0 : ((w.alloc (.cells #[v0] 24)).alloc (.cells #[v2] 56)).cell? ⟨w.heap.size, 0, none⟩ = some v0 := box_20 w v0 24 v2 56
      have cx_1 : ((w.alloc (.cells #[v0] 24)).alloc (.cells #[v2] 56)).cell? ⟨w.heap.size + 1, 0, none⟩ = some v2 := box_21 w v0 24 v2 56
      generalize ((w.alloc (.cells #[v0] 24)).alloc (.cells #[v2] 56)) = Wb at *
      go_upto_region 8 with (first | (go_at_call 19; refine (szG_c _ v0 l0 (HS0.out.below HBw.out) 1048576 (by omega)).mono ?_; rintro e W1 ⟨rfl, hB19⟩; rw [← HZ0.out]; have hz20 := hB19.size; have HB21 : Aside0 (Below w.heap.size w W1) := ⟨HBw.out.trans (hB19.mono (by omega))⟩; have HB22 : Aside0 (Below w.heap.size w W1) := ⟨HBw.out.trans (hB19.mono (by omega))⟩; have cx23 : W1.cell? ⟨w.heap.size, 0, none⟩ = some v0 := (hB19.cell (p := ⟨w.heap.size, 0, none⟩) (show w.heap.size < Wb.heap.size by omega)).trans cx_0; have cx24 : W1.cell? ⟨w.heap.size + 1, 0, none⟩ = some v2 := (hB19.cell (p := ⟨w.heap.size + 1, 0, none⟩) (show w.heap.size + 1 < Wb.heap.size by omega)).trans cx_1; clear cx_0 cx_1; clear HBw; clear hB19) | (go_at_call 53; refine (szS_c _ v2 l2 (HS1.out.below HB22.out) z0 (by omega)).mono ?_; rintro e W2 ⟨rfl, hB25⟩; rw [← HZ1.out]; have hz26 := hB25.size; have HB27 : Aside0 (Below w.heap.size w W2) := ⟨HB21.out.trans (hB25.mono (by omega))⟩; have HB28 : Aside0 (Below w.heap.size w W2) := ⟨HB22.out.trans (hB25.mono (by omega))⟩; have cx29 : W2.cell? ⟨w.heap.size, 0, none⟩ = some v0 := (hB25.cell (p := ⟨w.heap.size, 0, none⟩) (show w.heap.size < W1.heap.size by omega)).trans cx23; have cx30 : W2.cell? ⟨w.heap.size + 1, 0, none⟩ = some v2 := (hB25.cell (p := ⟨w.heap.size + 1, 0, none⟩) (show w.heap.size + 1 < W1.heap.size by omega)).trans cx24; clear cx23 cx24; clear HB21 HB22; clear hB25))
      clear HZ0 HZ1
      go_upto_region 8 with (fail)
      have HB31 : Aside0 (Below w.heap.size w W2.drew) := ⟨pw_below_drewN HB27.out 1⟩
      have HB32 : Aside0 (Below w.heap.size w W2.drew) := ⟨pw_below_drewN HB28.out 1⟩
      have cx33 : W2.drew.cell? ⟨w.heap.size, 0, none⟩ = some v0 := cx29
      have cx34 : W2.drew.cell? ⟨w.heap.size + 1, 0, none⟩ = some v2 := cx30
      clear cx29 cx30
      have hz35 : W2.heap.size ≤ W2.drew.heap.size := by simp
      refine start_ (n := 11) (S := fun w' => w'.cell? ⟨w.heap.size, 0, none⟩ = some v0 ∧ w'.cell? ⟨w.heap.size + 1, 0, none⟩ = some v2) (ds := []) #[false, false, false, false, false, false, false, false, false, false, false] (by kernel_rfl) rfl rfl ⟨cx33, cx34⟩ (fun hHeld => ?_)
      refine with_tabW tabT15_8 bitsB15_8 (fun HT_ HW_ => ?_)
      generalize W2.drew = W3 at *
      refine take_ (i := 0) (N := some 30) (v := ?_) (a' := ?_) #[true, false, false, false, false, false, false, false, false, false, false] rfl rfl (take_ofW HT_.out HW_.out (by kernel_rfl)) (fun _ _ _ h => h) (Or.inl ⟨by rfl, ?_⟩) hHeld ?_ ?_
      rotate_left
      · rintro w' ⟨s0, s1⟩
        go_simp
        with_reducible rfl
      rotate_left
      · simp only [Act.put, List.setIfInBounds_toArray, List.set_cons_zero, List.set_cons_succ, i64_w, i32_w]
        rfl
      refine pure_ (i := 2) (N := some 32) (v := ?_) (a' := ?_) #[true, false, true, false, false, false, false, false, false, false, false] rfl rfl (any_of HT_.out (by kernel_rfl)) (fun _ _ _ h => h) (Or.inl ⟨by rfl, ?_⟩) ?_ ?_
      rotate_left
      · intro w'
        go_simp
        with_reducible rfl
      rotate_left
      · simp only [Act.put, List.setIfInBounds_toArray, List.set_cons_zero, List.set_cons_succ, i64_w, i32_w]
        rfl
      refine take_ (i := 3) (N := some 33) (v := ?_) (a' := ?_) #[true, false, true, true, false, false, false, false, false, false, false] rfl rfl (take_ofW HT_.out HW_.out (by kernel_rfl)) (fun _ _ _ h => h) (Or.inl ⟨by rfl, ?_⟩) hHeld ?_ ?_
      rotate_left
      · rintro w' ⟨s0, s1⟩
        go_simp
        with_reducible rfl
      rotate_left
      · simp only [Act.put, List.setIfInBounds_toArray, List.set_cons_zero, List.set_cons_succ, i64_w, i32_w]
        rfl
      refine one_ (i := 1) (N := some 31) #[true, true, true, true, false, false, false, false, false, false, false] rfl rfl (one_of HT_.out (by kernel_rfl)) (by decide) (fun K hK => ?_)
      refine goes_ Try.func21 (by kernel_rfl) rfl #[.agg #[v0]] (by rfl) rfl rfl (by (try simp only [List.map_toArray, List.map_cons, List.map_nil]); first | done | rfl) ?_
      (with_reducible refine (toG_c _ v0 l0 (HS0.out.below HB31.out) HM.out.1).mono ?_; rintro e W4 ⟨v36, rfl, hB37, hD38⟩; have hz39 := hB37.size; have HB40 : Aside0 (Below w.heap.size w W4) := ⟨HB31.out.trans (hB37.mono (by omega))⟩; have HB41 : Aside0 (Below w.heap.size w W4) := ⟨HB32.out.trans (hB37.mono (by omega))⟩; have cx42 : W4.cell? ⟨w.heap.size, 0, none⟩ = some v0 := (hB37.cell (p := ⟨w.heap.size, 0, none⟩) (show w.heap.size < W3.heap.size by omega)).trans cx33; have cx43 : W4.cell? ⟨w.heap.size + 1, 0, none⟩ = some v2 := (hB37.cell (p := ⟨w.heap.size + 1, 0, none⟩) (show w.heap.size + 1 < W3.heap.size by omega)).trans cx34; clear cx33 cx34; clear HB31 HB32; have HD44 := Aside0.mk hD38.out.toU; clear hD38)
      refine ⟨_, rfl, ?_⟩
      refine hK.out _ _ ⟨cx42, cx43⟩ (fun hHeld => ?_)
      clear hK K
      refine norm_ (a' := ?_) ?_ ?_
      rotate_left
      · show Act.put _ (some 31) _ = _
        simp only [Act.put, List.setIfInBounds_toArray, List.set_cons_zero, List.set_cons_succ, i64_w, i32_w]
        rfl
      refine one_ (i := 4) (N := some 34) #[true, true, true, true, true, false, false, false, false, false, false] rfl rfl (one_of HT_.out (by kernel_rfl)) (by decide) (fun K hK => ?_)
      refine goes_ Try.func55 (by kernel_rfl) rfl #[.agg #[v2]] (by rfl) rfl rfl (by (try simp only [List.map_toArray, List.map_cons, List.map_nil]); first | done | rfl) ?_
      (with_reducible refine (toS_c _ v2 l2 (HS1.out.below HB41.out) HM.out.2).mono ?_; rintro e W5 ⟨v45, rfl, hB46, hD47⟩; have hz48 := hB46.size; have HB49 : Aside0 (Below w.heap.size w W5) := ⟨HB40.out.trans (hB46.mono (by omega))⟩; have HB50 : Aside0 (Below w.heap.size w W5) := ⟨HB41.out.trans (hB46.mono (by omega))⟩; have HD51 := Aside0.mk (HD44.out.below (by omega) hB46); have cx52 : W5.cell? ⟨w.heap.size, 0, none⟩ = some v0 := (hB46.cell (p := ⟨w.heap.size, 0, none⟩) (show w.heap.size < W4.heap.size by omega)).trans cx42; have cx53 : W5.cell? ⟨w.heap.size + 1, 0, none⟩ = some v2 := (hB46.cell (p := ⟨w.heap.size + 1, 0, none⟩) (show w.heap.size + 1 < W4.heap.size by omega)).trans cx43; clear cx42 cx43; clear HB40 HB41 HD44; have HD54 := Aside0.mk hD47.out.toU; clear hD47)
      refine ⟨_, rfl, ?_⟩
      refine hK.out _ _ ⟨cx52, cx53⟩ (fun hHeld => ?_)
      clear hK K
      refine norm_ (a' := ?_) ?_ ?_
      rotate_left
      · show Act.put _ (some 34) _ = _
        simp only [Act.put, List.setIfInBounds_toArray, List.set_cons_zero, List.set_cons_succ, i64_w, i32_w]
        rfl
      refine one_ (i := 5) (N := some 35) #[true, true, true, true, true, true, false, false, false, false, false] rfl rfl (one_of HT_.out (by kernel_rfl)) (by decide) (fun K hK => ?_)
      refine goes_ Try.func58 (by kernel_rfl) rfl #[.agg #[v36], .int .i64 a1, .agg #[v45]] (by rfl) rfl rfl (by (try simp only [List.map_toArray, List.map_cons, List.map_nil]); first | done | rfl) ?_
      (refine (SP.out _ v36 v45 HD51.out.reads HD54.out.reads).mono ?_; rintro e W6 ⟨v55, rfl, hB56, hD57⟩; have hz58 := hB56.size; have HB59 : Aside0 (Below w.heap.size w W6) := ⟨HB49.out.trans (hB56.mono (by omega))⟩; have HB60 : Aside0 (Below w.heap.size w W6) := ⟨HB50.out.trans (hB56.mono (by omega))⟩; have HD61 := Aside0.mk (HD51.out.below (by omega) hB56); have HD62 := Aside0.mk (HD54.out.below (by omega) hB56); have cx63 : W6.cell? ⟨w.heap.size, 0, none⟩ = some v0 := (hB56.cell (p := ⟨w.heap.size, 0, none⟩) (show w.heap.size < W5.heap.size by omega)).trans cx52; have cx64 : W6.cell? ⟨w.heap.size + 1, 0, none⟩ = some v2 := (hB56.cell (p := ⟨w.heap.size + 1, 0, none⟩) (show w.heap.size + 1 < W5.heap.size by omega)).trans cx53; clear cx52 cx53; clear HB49 HB50 HD51 HD54)
      refine ⟨_, rfl, ?_⟩
      refine hK.out _ _ ⟨cx63, cx64⟩ (fun hHeld => ?_)
      clear hK K
      refine norm_ (a' := ?_) ?_ ?_
      rotate_left
      · show Act.put _ (some 35) _ = _
        simp only [Act.put, List.setIfInBounds_toArray, List.set_cons_zero, List.set_cons_succ, i64_w, i32_w]
        rfl
      refine pure_ (i := 6) (N := some 29) (v := ?_) (a' := ?_) #[true, true, true, true, true, true, true, false, false, false, false] rfl rfl (any_of HT_.out (by kernel_rfl)) (fun _ _ _ h => h) (Or.inl ⟨by rfl, ?_⟩) ?_ ?_
      rotate_left
      · intro w'
        go_simp
        with_reducible rfl
      rotate_left
      · simp only [Act.put, List.setIfInBounds_toArray, List.set_cons_zero, List.set_cons_succ, i64_w, i32_w]
        rfl
      refine pure_ (i := 7) (N := some 36) (v := ?_) (a' := ?_) #[true, true, true, true, true, true, true, true, false, false, false] rfl rfl (any_of HT_.out (by kernel_rfl)) (fun _ _ _ h => h) (Or.inl ⟨by rfl, ?_⟩) ?_ ?_
      rotate_left
      · intro w'
        go_simp
        with_reducible rfl
      rotate_left
      · simp only [Act.put, List.setIfInBounds_toArray, List.set_cons_zero, List.set_cons_succ, i64_w, i32_w]
        rfl
      refine pure_ (i := 8) (N := some 37) (v := ?_) (a' := ?_) #[true, true, true, true, true, true, true, true, true, false, false] rfl rfl (any_of HT_.out (by kernel_rfl)) (fun _ _ _ h => h) (Or.inl ⟨by rfl, ?_⟩) ?_ ?_
      rotate_left
      · intro w'
        go_simp
        with_reducible rfl
      rotate_left
      · simp only [Act.put, List.setIfInBounds_toArray, List.set_cons_zero, List.set_cons_succ, i64_w, i32_w]
        rfl
      refine pure_ (i := 9) (N := some 8) (v := ?_) (a' := ?_) #[true, true, true, true, true, true, true, true, true, true, false] rfl rfl (any_of HT_.out (by kernel_rfl)) (fun _ _ _ h => h) (Or.inl ⟨by rfl, ?_⟩) ?_ ?_
      rotate_left
      · intro w'
        go_simp
        with_reducible rfl
      rotate_left
      · simp only [Act.put, List.setIfInBounds_toArray, List.set_cons_zero, List.set_cons_succ, i64_w, i32_w]
        rfl
      refine pure_ (i := 10) (N := some 9) (v := ?_) (a' := ?_) #[true, true, true, true, true, true, true, true, true, true, true] rfl rfl (any_of HT_.out (by kernel_rfl)) (fun _ _ _ h => h) (Or.inl ⟨by rfl, ?_⟩) ?_ ?_
      rotate_left
      · intro w'
        go_simp
        with_reducible rfl
      rotate_left
      · simp only [Act.put, List.setIfInBounds_toArray, List.set_cons_zero, List.set_cons_succ, i64_w, i32_w]
        rfl
      refine done_ (done_of HT_.out (by kernel_rfl)) ?_
      clear HT_ HW_ hHeld
      clear HD61
      clear HD62
      go_upto_region 10 with (first | (go_at_call 21; refine (toG_c _ v0 l0 (HS0.out.below HB59.out) HM.out.1).mono ?_; rintro e W7 ⟨v65, rfl, hB66, hD67⟩; obtain ⟨A68, c69, hv_, _⟩ := hD67.out.slice; subst hv_; have hz70 := hB66.size; have HB71 : Aside0 (Below w.heap.size w W7) := ⟨HB59.out.trans (hB66.mono (by omega))⟩; have HB72 : Aside0 (Below w.heap.size w W7) := ⟨HB60.out.trans (hB66.mono (by omega))⟩; have HB73 : Aside0 (Below W6.heap.size W6 W7) := ⟨hB66⟩; have cx74 : W7.cell? ⟨w.heap.size, 0, none⟩ = some v0 := (hB66.cell (p := ⟨w.heap.size, 0, none⟩) (show w.heap.size < W6.heap.size by omega)).trans cx63; have cx75 : W7.cell? ⟨w.heap.size + 1, 0, none⟩ = some v2 := (hB66.cell (p := ⟨w.heap.size + 1, 0, none⟩) (show w.heap.size + 1 < W6.heap.size by omega)).trans cx64; clear cx63 cx64; clear HB59 HB60; have HD76 := Aside0.mk hD67.out.toU; clear hD67))
      have hB77 : Below W7.heap.size W7 (W7.alloc (.cells #[(.slice A68 l0.length c69)] 30)) := (Below.refl _ _).alloc (Nat.le_refl _) _
      have cx78 : (W7.alloc (.cells #[(.slice A68 l0.length c69)] 30)).cell? ⟨W7.heap.size, 0, none⟩ = some (.slice A68 l0.length c69) := (blk_cell (blk_new _ _) 0).trans rfl
      have hz79 : W7.heap.size < (W7.alloc (.cells #[(.slice A68 l0.length c69)] 30)).heap.size := by simp
      generalize (W7.alloc (.cells #[(.slice A68 l0.length c69)] 30)) = W8 at *
      have hz80 := hB77.size
      have HB81 : Aside0 (Below w.heap.size w W8) := ⟨HB71.out.trans (hB77.mono (by omega))⟩
      have HB82 : Aside0 (Below w.heap.size w W8) := ⟨HB72.out.trans (hB77.mono (by omega))⟩
      have HB83 : Aside0 (Below W6.heap.size W6 W8) := ⟨HB73.out.trans (hB77.mono (by omega))⟩
      have HD84 := Aside0.mk (HD76.out.below (by omega) hB77)
      have cx85 : W8.cell? ⟨w.heap.size, 0, none⟩ = some v0 := (hB77.cell (p := ⟨w.heap.size, 0, none⟩) (show w.heap.size < W7.heap.size by omega)).trans cx74
      have cx86 : W8.cell? ⟨w.heap.size + 1, 0, none⟩ = some v2 := (hB77.cell (p := ⟨w.heap.size + 1, 0, none⟩) (show w.heap.size + 1 < W7.heap.size by omega)).trans cx75
      clear cx74 cx75
      clear HB71 HB72 HB73 HD76
      go_upto_region 11 with (first | (go_at_call 55; refine (toS_c _ v2 l2 (HS1.out.below HB82.out) HM.out.2).mono ?_; rintro e W9 ⟨v87, rfl, hB88, hD89⟩; obtain ⟨A90, c91, hv_, _⟩ := hD89.out.slice; subst hv_; have hz92 := hB88.size; have HB93 : Aside0 (Below w.heap.size w W9) := ⟨HB81.out.trans (hB88.mono (by omega))⟩; have HB94 : Aside0 (Below w.heap.size w W9) := ⟨HB82.out.trans (hB88.mono (by omega))⟩; have HB95 : Aside0 (Below W6.heap.size W6 W9) := ⟨HB83.out.trans (hB88.mono (by omega))⟩; have HD96 := Aside0.mk (HD84.out.below (by omega) hB88); have cx97 : W9.cell? ⟨w.heap.size, 0, none⟩ = some v0 := (hB88.cell (p := ⟨w.heap.size, 0, none⟩) (show w.heap.size < W8.heap.size by omega)).trans cx85; have cx98 : W9.cell? ⟨w.heap.size + 1, 0, none⟩ = some v2 := (hB88.cell (p := ⟨w.heap.size + 1, 0, none⟩) (show w.heap.size + 1 < W8.heap.size by omega)).trans cx86; have cx99 : W9.cell? ⟨W7.heap.size, 0, none⟩ = some (.slice A68 l0.length c69) := (hB88.cell (p := ⟨W7.heap.size, 0, none⟩) (show W7.heap.size < W8.heap.size by omega)).trans cx78; clear cx85 cx86 cx78; clear HB81 HB82 HB83 HD84; have HD100 := Aside0.mk hD89.out.toU; clear hD89))
      have hB101 : Below W9.heap.size W9 (W9.alloc (.cells #[(.slice A90 l2.length c91)] 59)) := (Below.refl _ _).alloc (Nat.le_refl _) _
      have cx102 : (W9.alloc (.cells #[(.slice A90 l2.length c91)] 59)).cell? ⟨W9.heap.size, 0, none⟩ = some (.slice A90 l2.length c91) := (blk_cell (blk_new _ _) 0).trans rfl
      have hz103 : W9.heap.size < (W9.alloc (.cells #[(.slice A90 l2.length c91)] 59)).heap.size := by simp
      generalize (W9.alloc (.cells #[(.slice A90 l2.length c91)] 59)) = W10 at *
      have hz104 := hB101.size
      have HB105 : Aside0 (Below w.heap.size w W10) := ⟨HB93.out.trans (hB101.mono (by omega))⟩
      have HB106 : Aside0 (Below w.heap.size w W10) := ⟨HB94.out.trans (hB101.mono (by omega))⟩
      have HB107 : Aside0 (Below W6.heap.size W6 W10) := ⟨HB95.out.trans (hB101.mono (by omega))⟩
      have HD108 := Aside0.mk (HD96.out.below (by omega) hB101)
      have HD109 := Aside0.mk (HD100.out.below (by omega) hB101)
      have cx110 : W10.cell? ⟨w.heap.size, 0, none⟩ = some v0 := (hB101.cell (p := ⟨w.heap.size, 0, none⟩) (show w.heap.size < W9.heap.size by omega)).trans cx97
      have cx111 : W10.cell? ⟨w.heap.size + 1, 0, none⟩ = some v2 := (hB101.cell (p := ⟨w.heap.size + 1, 0, none⟩) (show w.heap.size + 1 < W9.heap.size by omega)).trans cx98
      have cx112 : W10.cell? ⟨W7.heap.size, 0, none⟩ = some (.slice A68 l0.length c69) := (hB101.cell (p := ⟨W7.heap.size, 0, none⟩) (show W7.heap.size < W9.heap.size by omega)).trans cx99
      clear cx97 cx98 cx99
      clear HB93 HB94 HB95 HD96 HD100
      go_upto_region 12 with (first | (go_at_call 59; refine (IM.out _ (.slice A68 l0.length c69) (.slice A90 l2.length c91) HD108.out.reads HD109.out.reads).mono ?_; rintro e W11 ⟨v113, rfl, hB114, hD115⟩; have hz116 := hB114.size; have HB117 : Aside0 (Below w.heap.size w W11) := ⟨HB105.out.trans (hB114.mono (by omega))⟩; have HB118 : Aside0 (Below w.heap.size w W11) := ⟨HB106.out.trans (hB114.mono (by omega))⟩; have HB119 : Aside0 (Below W6.heap.size W6 W11) := ⟨HB107.out.trans (hB114.mono (by omega))⟩; have HD120 := Aside0.mk (HD108.out.below (by omega) hB114); have HD121 := Aside0.mk (HD109.out.below (by omega) hB114); have cx122 : W11.cell? ⟨w.heap.size, 0, none⟩ = some v0 := (hB114.cell (p := ⟨w.heap.size, 0, none⟩) (show w.heap.size < W10.heap.size by omega)).trans cx110; have cx123 : W11.cell? ⟨w.heap.size + 1, 0, none⟩ = some v2 := (hB114.cell (p := ⟨w.heap.size + 1, 0, none⟩) (show w.heap.size + 1 < W10.heap.size by omega)).trans cx111; have cx124 : W11.cell? ⟨W7.heap.size, 0, none⟩ = some (.slice A68 l0.length c69) := (hB114.cell (p := ⟨W7.heap.size, 0, none⟩) (show W7.heap.size < W10.heap.size by omega)).trans cx112; have cx125 : W11.cell? ⟨W9.heap.size, 0, none⟩ = some (.slice A90 l2.length c91) := (hB114.cell (p := ⟨W9.heap.size, 0, none⟩) (show W9.heap.size < W10.heap.size by omega)).trans cx102; clear cx110 cx111 cx112 cx102; clear HB105 HB106 HB107 HD108 HD109; have HD126 := Aside0.mk hD115.out.toU; clear hD115))
      go_upto_region 14 with (first | (go_at_call 30; refine (eqRL_c _ v113 v55 R HD126.out.reads (hD57.out.below HB119.out) HF.out).mono ?_; rintro e w_ ⟨rfl, ⟨nd127, rfl⟩⟩; have HB128 : Aside0 (Below w.heap.size w (W11.drewN nd127)) := ⟨pw_below_drewN HB117.out nd127⟩; have HB129 : Aside0 (Below w.heap.size w (W11.drewN nd127)) := ⟨pw_below_drewN HB118.out nd127⟩; have HB130 : Aside0 (Below W6.heap.size W6 (W11.drewN nd127)) := ⟨pw_below_drewN HB119.out nd127⟩; have HD131 := Aside0.mk (HD120.out.drewN nd127); have HD132 := Aside0.mk (HD121.out.drewN nd127); have HD133 := Aside0.mk (HD126.out.drewN nd127); have cx134 : (W11.drewN nd127).cell? ⟨w.heap.size, 0, none⟩ = some v0 := cx122; have cx135 : (W11.drewN nd127).cell? ⟨w.heap.size + 1, 0, none⟩ = some v2 := cx123; have cx136 : (W11.drewN nd127).cell? ⟨W7.heap.size, 0, none⟩ = some (.slice A68 l0.length c69) := cx124; have cx137 : (W11.drewN nd127).cell? ⟨W9.heap.size, 0, none⟩ = some (.slice A90 l2.length c91) := cx125; clear cx122 cx123 cx124 cx125; have hz138 : W11.heap.size ≤ (W11.drewN nd127).heap.size := (by simp); clear HB117 HB118 HB119 HD120 HD121 HD126; generalize W11.drewN nd127 = W12 at *))
      go_upto_region 14 with (fail)
      have HB139 : Aside0 (Below w.heap.size w W12.drew) := ⟨pw_below_drewN HB128.out 1⟩
      have HB140 : Aside0 (Below w.heap.size w W12.drew) := ⟨pw_below_drewN HB129.out 1⟩
      have HB141 : Aside0 (Below W6.heap.size W6 W12.drew) := ⟨pw_below_drewN HB130.out 1⟩
      have HD142 : Aside0 (RowsU W12.drew W6.heap.size W7.heap.size (.slice A68 l0.length c69) l0) := ⟨HD131.out.drewN 1⟩
      clear HD131
      have HD143 : Aside0 (RowsU W12.drew W8.heap.size W9.heap.size (.slice A90 l2.length c91) l2) := ⟨HD132.out.drewN 1⟩
      clear HD132
      have HD144 : Aside0 (ListU W12.drew W10.heap.size W11.heap.size v113 R) := ⟨HD133.out.drewN 1⟩
      clear HD133
      have cx145 : W12.drew.cell? ⟨w.heap.size, 0, none⟩ = some v0 := cx134
      have cx146 : W12.drew.cell? ⟨w.heap.size + 1, 0, none⟩ = some v2 := cx135
      have cx147 : W12.drew.cell? ⟨W7.heap.size, 0, none⟩ = some (.slice A68 l0.length c69) := cx136
      have cx148 : W12.drew.cell? ⟨W9.heap.size, 0, none⟩ = some (.slice A90 l2.length c91) := cx137
      clear cx134 cx135 cx136 cx137
      have hz149 : W12.heap.size ≤ W12.drew.heap.size := by simp
      refine start_ (n := 5) (S := fun w' => w'.cell? ⟨w.heap.size, 0, none⟩ = some v0 ∧ w'.cell? ⟨w.heap.size + 1, 0, none⟩ = some v2 ∧ w'.cell? ⟨W7.heap.size, 0, none⟩ = some (.slice A68 l0.length c69) ∧ w'.cell? ⟨W9.heap.size, 0, none⟩ = some (.slice A90 l2.length c91)) (ds := []) #[false, false, false, false, false] (by kernel_rfl) rfl rfl ⟨cx145, cx146, cx147, cx148⟩ (fun hHeld => ?_)
      refine with_tabW tabT15_14 bitsB15_14 (fun HT_ HW_ => ?_)
      generalize W12.drew = W13 at *
      refine take_ (i := 0) (N := some 58) (v := ?_) (a' := ?_) #[true, false, false, false, false] rfl rfl (take_ofW HT_.out HW_.out (by kernel_rfl)) (fun _ _ _ h => h) (Or.inl ⟨by rfl, ?_⟩) hHeld ?_ ?_
      rotate_left
      · rintro w' ⟨s0, s1, s2, s3⟩
        go_simp
        with_reducible rfl
      rotate_left
      · simp only [Act.put, List.setIfInBounds_toArray, List.set_cons_zero, List.set_cons_succ, i64_w, i32_w]
        rfl
      refine take_ (i := 1) (N := some 59) (v := ?_) (a' := ?_) #[true, true, false, false, false] rfl rfl (take_ofW HT_.out HW_.out (by kernel_rfl)) (fun _ _ _ h => h) (Or.inl ⟨by rfl, ?_⟩) hHeld ?_ ?_
      rotate_left
      · rintro w' ⟨s0, s1, s2, s3⟩
        go_simp
        with_reducible rfl
      rotate_left
      · simp only [Act.put, List.setIfInBounds_toArray, List.set_cons_zero, List.set_cons_succ, i64_w, i32_w]
        rfl
      refine one_ (i := 2) (N := some 60) #[true, true, true, false, false] rfl rfl (one_of HT_.out (by kernel_rfl)) (by decide) (fun K hK => ?_)
      refine goes_ Try.func21 (by kernel_rfl) rfl #[.agg #[v0]] (by rfl) rfl rfl (by (try simp only [List.map_toArray, List.map_cons, List.map_nil]); first | done | rfl) ?_
      (with_reducible refine (toG_c _ v0 l0 (HS0.out.below HB139.out) HM.out.1).mono ?_; rintro e W14 ⟨v150, rfl, hB151, hD152⟩; have hz153 := hB151.size; have HB154 : Aside0 (Below w.heap.size w W14) := ⟨HB139.out.trans (hB151.mono (by omega))⟩; have HB155 : Aside0 (Below w.heap.size w W14) := ⟨HB140.out.trans (hB151.mono (by omega))⟩; have HB156 : Aside0 (Below W6.heap.size W6 W14) := ⟨HB141.out.trans (hB151.mono (by omega))⟩; have HD157 := Aside0.mk (HD142.out.below (by omega) hB151); have HD158 := Aside0.mk (HD143.out.below (by omega) hB151); have HD159 := Aside0.mk (HD144.out.below (by omega) hB151); have cx160 : W14.cell? ⟨w.heap.size, 0, none⟩ = some v0 := (hB151.cell (p := ⟨w.heap.size, 0, none⟩) (show w.heap.size < W13.heap.size by omega)).trans cx145; have cx161 : W14.cell? ⟨w.heap.size + 1, 0, none⟩ = some v2 := (hB151.cell (p := ⟨w.heap.size + 1, 0, none⟩) (show w.heap.size + 1 < W13.heap.size by omega)).trans cx146; have cx162 : W14.cell? ⟨W7.heap.size, 0, none⟩ = some (.slice A68 l0.length c69) := (hB151.cell (p := ⟨W7.heap.size, 0, none⟩) (show W7.heap.size < W13.heap.size by omega)).trans cx147; have cx163 : W14.cell? ⟨W9.heap.size, 0, none⟩ = some (.slice A90 l2.length c91) := (hB151.cell (p := ⟨W9.heap.size, 0, none⟩) (show W9.heap.size < W13.heap.size by omega)).trans cx148; clear cx145 cx146 cx147 cx148; clear HB139 HB140 HB141 HD142 HD143 HD144; have HD164 := Aside0.mk hD152.out.toU; clear hD152)
      refine ⟨_, rfl, ?_⟩
      refine hK.out _ _ ⟨cx160, cx161, cx162, cx163⟩ (fun hHeld => ?_)
      clear hK K
      refine norm_ (a' := ?_) ?_ ?_
      rotate_left
      · show Act.put _ (some 60) _ = _
        simp only [Act.put, List.setIfInBounds_toArray, List.set_cons_zero, List.set_cons_succ, i64_w, i32_w]
        rfl
      refine one_ (i := 3) (N := some 61) #[true, true, true, true, false] rfl rfl (one_of HT_.out (by kernel_rfl)) (by decide) (fun K hK => ?_)
      refine goes_ Try.func24 (by kernel_rfl) rfl #[.agg #[(.slice A68 l0.length c69)], .agg #[v150]] (by rfl) rfl rfl (by (try simp only [List.map_toArray, List.map_cons, List.map_nil]); first | done | rfl) ?_
      (with_reducible refine (eqG_c _ (.slice A68 l0.length c69) v150 l0 HD157.out.reads HD164.out.reads HM.out.1).mono ?_; rintro e W15 ⟨rfl, hB165⟩; have hz166 := hB165.size; have HB167 : Aside0 (Below w.heap.size w W15) := ⟨HB154.out.trans (hB165.mono (by omega))⟩; have HB168 : Aside0 (Below w.heap.size w W15) := ⟨HB155.out.trans (hB165.mono (by omega))⟩; have HB169 : Aside0 (Below W6.heap.size W6 W15) := ⟨HB156.out.trans (hB165.mono (by omega))⟩; have HD170 := Aside0.mk (HD157.out.below (by omega) hB165); have HD171 := Aside0.mk (HD158.out.below (by omega) hB165); have HD172 := Aside0.mk (HD159.out.below (by omega) hB165); have HD173 := Aside0.mk (HD164.out.below (by omega) hB165); have cx174 : W15.cell? ⟨w.heap.size, 0, none⟩ = some v0 := (hB165.cell (p := ⟨w.heap.size, 0, none⟩) (show w.heap.size < W14.heap.size by omega)).trans cx160; have cx175 : W15.cell? ⟨w.heap.size + 1, 0, none⟩ = some v2 := (hB165.cell (p := ⟨w.heap.size + 1, 0, none⟩) (show w.heap.size + 1 < W14.heap.size by omega)).trans cx161; have cx176 : W15.cell? ⟨W7.heap.size, 0, none⟩ = some (.slice A68 l0.length c69) := (hB165.cell (p := ⟨W7.heap.size, 0, none⟩) (show W7.heap.size < W14.heap.size by omega)).trans cx162; have cx177 : W15.cell? ⟨W9.heap.size, 0, none⟩ = some (.slice A90 l2.length c91) := (hB165.cell (p := ⟨W9.heap.size, 0, none⟩) (show W9.heap.size < W14.heap.size by omega)).trans cx163; clear cx160 cx161 cx162 cx163; clear HB154 HB155 HB156 HD157 HD158 HD159 HD164; clear hB165)
      refine ⟨_, rfl, ?_⟩
      refine hK.out _ _ ⟨cx174, cx175, cx176, cx177⟩ (fun hHeld => ?_)
      clear hK K
      refine norm_ (a' := ?_) ?_ ?_
      rotate_left
      · show Act.put _ (some 61) _ = _
        simp only [Act.put, List.setIfInBounds_toArray, List.set_cons_zero, List.set_cons_succ, i64_w, i32_w]
        rfl
      refine pure_ (i := 4) (N := some 62) (v := ?_) (a' := ?_) #[true, true, true, true, true] rfl rfl (any_of HT_.out (by kernel_rfl)) (fun _ _ _ h => h) (Or.inl ⟨by rfl, ?_⟩) ?_ ?_
      rotate_left
      · intro w'
        go_simp
        with_reducible rfl
      rotate_left
      · simp only [Act.put, List.setIfInBounds_toArray, List.set_cons_zero, List.set_cons_succ, i64_w, i32_w]
        rfl
      refine done_ (done_of HT_.out (by kernel_rfl)) ?_
      clear HT_ HW_ hHeld
      clear HD173
      go_upto_region 16 with (fail)
      have HB178 : Aside0 (Below w.heap.size w W15.drew) := ⟨pw_below_drewN HB167.out 1⟩
      have HB179 : Aside0 (Below w.heap.size w W15.drew) := ⟨pw_below_drewN HB168.out 1⟩
      have HB180 : Aside0 (Below W6.heap.size W6 W15.drew) := ⟨pw_below_drewN HB169.out 1⟩
      have HD181 : Aside0 (RowsU W15.drew W6.heap.size W7.heap.size (.slice A68 l0.length c69) l0) := ⟨HD170.out.drewN 1⟩
      clear HD170
      have HD182 : Aside0 (RowsU W15.drew W8.heap.size W9.heap.size (.slice A90 l2.length c91) l2) := ⟨HD171.out.drewN 1⟩
      clear HD171
      have HD183 : Aside0 (ListU W15.drew W10.heap.size W11.heap.size v113 R) := ⟨HD172.out.drewN 1⟩
      clear HD172
      have cx184 : W15.drew.cell? ⟨w.heap.size, 0, none⟩ = some v0 := cx174
      have cx185 : W15.drew.cell? ⟨w.heap.size + 1, 0, none⟩ = some v2 := cx175
      have cx186 : W15.drew.cell? ⟨W7.heap.size, 0, none⟩ = some (.slice A68 l0.length c69) := cx176
      have cx187 : W15.drew.cell? ⟨W9.heap.size, 0, none⟩ = some (.slice A90 l2.length c91) := cx177
      clear cx174 cx175 cx176 cx177
      have hz188 : W15.heap.size ≤ W15.drew.heap.size := by simp
      refine start_ (n := 5) (S := fun w' => w'.cell? ⟨w.heap.size, 0, none⟩ = some v0 ∧ w'.cell? ⟨w.heap.size + 1, 0, none⟩ = some v2 ∧ w'.cell? ⟨W7.heap.size, 0, none⟩ = some (.slice A68 l0.length c69) ∧ w'.cell? ⟨W9.heap.size, 0, none⟩ = some (.slice A90 l2.length c91)) (ds := []) #[false, false, false, false, false] (by kernel_rfl) rfl rfl ⟨cx184, cx185, cx186, cx187⟩ (fun hHeld => ?_)
      refine with_tabW tabT15_16 bitsB15_16 (fun HT_ HW_ => ?_)
      generalize W15.drew = W16 at *
      refine take_ (i := 0) (N := some 63) (v := ?_) (a' := ?_) #[true, false, false, false, false] rfl rfl (take_ofW HT_.out HW_.out (by kernel_rfl)) (fun _ _ _ h => h) (Or.inl ⟨by rfl, ?_⟩) hHeld ?_ ?_
      rotate_left
      · rintro w' ⟨s0, s1, s2, s3⟩
        go_simp
        with_reducible rfl
      rotate_left
      · simp only [Act.put, List.setIfInBounds_toArray, List.set_cons_zero, List.set_cons_succ, i64_w, i32_w]
        rfl
      refine take_ (i := 1) (N := some 64) (v := ?_) (a' := ?_) #[true, true, false, false, false] rfl rfl (take_ofW HT_.out HW_.out (by kernel_rfl)) (fun _ _ _ h => h) (Or.inl ⟨by rfl, ?_⟩) hHeld ?_ ?_
      rotate_left
      · rintro w' ⟨s0, s1, s2, s3⟩
        go_simp
        with_reducible rfl
      rotate_left
      · simp only [Act.put, List.setIfInBounds_toArray, List.set_cons_zero, List.set_cons_succ, i64_w, i32_w]
        rfl
      refine one_ (i := 2) (N := some 65) #[true, true, true, false, false] rfl rfl (one_of HT_.out (by kernel_rfl)) (by decide) (fun K hK => ?_)
      refine goes_ Try.func55 (by kernel_rfl) rfl #[.agg #[v2]] (by rfl) rfl rfl (by (try simp only [List.map_toArray, List.map_cons, List.map_nil]); first | done | rfl) ?_
      (with_reducible refine (toS_c _ v2 l2 (HS1.out.below HB179.out) HM.out.2).mono ?_; rintro e W17 ⟨v189, rfl, hB190, hD191⟩; have hz192 := hB190.size; have HB193 : Aside0 (Below w.heap.size w W17) := ⟨HB178.out.trans (hB190.mono (by omega))⟩; have HB194 : Aside0 (Below w.heap.size w W17) := ⟨HB179.out.trans (hB190.mono (by omega))⟩; have HB195 : Aside0 (Below W6.heap.size W6 W17) := ⟨HB180.out.trans (hB190.mono (by omega))⟩; have HD196 := Aside0.mk (HD181.out.below (by omega) hB190); have HD197 := Aside0.mk (HD182.out.below (by omega) hB190); have HD198 := Aside0.mk (HD183.out.below (by omega) hB190); have cx199 : W17.cell? ⟨w.heap.size, 0, none⟩ = some v0 := (hB190.cell (p := ⟨w.heap.size, 0, none⟩) (show w.heap.size < W16.heap.size by omega)).trans cx184; have cx200 : W17.cell? ⟨w.heap.size + 1, 0, none⟩ = some v2 := (hB190.cell (p := ⟨w.heap.size + 1, 0, none⟩) (show w.heap.size + 1 < W16.heap.size by omega)).trans cx185; have cx201 : W17.cell? ⟨W7.heap.size, 0, none⟩ = some (.slice A68 l0.length c69) := (hB190.cell (p := ⟨W7.heap.size, 0, none⟩) (show W7.heap.size < W16.heap.size by omega)).trans cx186; have cx202 : W17.cell? ⟨W9.heap.size, 0, none⟩ = some (.slice A90 l2.length c91) := (hB190.cell (p := ⟨W9.heap.size, 0, none⟩) (show W9.heap.size < W16.heap.size by omega)).trans cx187; clear cx184 cx185 cx186 cx187; clear HB178 HB179 HB180 HD181 HD182 HD183; have HD203 := Aside0.mk hD191.out.toU; clear hD191)
      refine ⟨_, rfl, ?_⟩
      refine hK.out _ _ ⟨cx199, cx200, cx201, cx202⟩ (fun hHeld => ?_)
      clear hK K
      refine norm_ (a' := ?_) ?_ ?_
      rotate_left
      · show Act.put _ (some 65) _ = _
        simp only [Act.put, List.setIfInBounds_toArray, List.set_cons_zero, List.set_cons_succ, i64_w, i32_w]
        rfl
      refine one_ (i := 3) (N := some 66) #[true, true, true, true, false] rfl rfl (one_of HT_.out (by kernel_rfl)) (by decide) (fun K hK => ?_)
      refine goes_ Try.func57 (by kernel_rfl) rfl #[.agg #[(.slice A90 l2.length c91)], .agg #[v189]] (by rfl) rfl rfl (by (try simp only [List.map_toArray, List.map_cons, List.map_nil]); first | done | rfl) ?_
      (with_reducible refine (eqS_c _ (.slice A90 l2.length c91) v189 l2 HD197.out.reads HD203.out.reads HM.out.2).mono ?_; rintro e W18 ⟨rfl, hB204⟩; have hz205 := hB204.size; have HB206 : Aside0 (Below w.heap.size w W18) := ⟨HB193.out.trans (hB204.mono (by omega))⟩; have HB207 : Aside0 (Below w.heap.size w W18) := ⟨HB194.out.trans (hB204.mono (by omega))⟩; have HB208 : Aside0 (Below W6.heap.size W6 W18) := ⟨HB195.out.trans (hB204.mono (by omega))⟩; have HD209 := Aside0.mk (HD196.out.below (by omega) hB204); have HD210 := Aside0.mk (HD197.out.below (by omega) hB204); have HD211 := Aside0.mk (HD198.out.below (by omega) hB204); have HD212 := Aside0.mk (HD203.out.below (by omega) hB204); have cx213 : W18.cell? ⟨w.heap.size, 0, none⟩ = some v0 := (hB204.cell (p := ⟨w.heap.size, 0, none⟩) (show w.heap.size < W17.heap.size by omega)).trans cx199; have cx214 : W18.cell? ⟨w.heap.size + 1, 0, none⟩ = some v2 := (hB204.cell (p := ⟨w.heap.size + 1, 0, none⟩) (show w.heap.size + 1 < W17.heap.size by omega)).trans cx200; have cx215 : W18.cell? ⟨W7.heap.size, 0, none⟩ = some (.slice A68 l0.length c69) := (hB204.cell (p := ⟨W7.heap.size, 0, none⟩) (show W7.heap.size < W17.heap.size by omega)).trans cx201; have cx216 : W18.cell? ⟨W9.heap.size, 0, none⟩ = some (.slice A90 l2.length c91) := (hB204.cell (p := ⟨W9.heap.size, 0, none⟩) (show W9.heap.size < W17.heap.size by omega)).trans cx202; clear cx199 cx200 cx201 cx202; clear HB193 HB194 HB195 HD196 HD197 HD198 HD203; clear hB204)
      refine ⟨_, rfl, ?_⟩
      refine hK.out _ _ ⟨cx213, cx214, cx215, cx216⟩ (fun hHeld => ?_)
      clear hK K
      refine norm_ (a' := ?_) ?_ ?_
      rotate_left
      · show Act.put _ (some 66) _ = _
        simp only [Act.put, List.setIfInBounds_toArray, List.set_cons_zero, List.set_cons_succ, i64_w, i32_w]
        rfl
      refine pure_ (i := 4) (N := some 67) (v := ?_) (a' := ?_) #[true, true, true, true, true] rfl rfl (any_of HT_.out (by kernel_rfl)) (fun _ _ _ h => h) (Or.inl ⟨by rfl, ?_⟩) ?_ ?_
      rotate_left
      · intro w'
        go_simp
        with_reducible rfl
      rotate_left
      · simp only [Act.put, List.setIfInBounds_toArray, List.set_cons_zero, List.set_cons_succ, i64_w, i32_w]
        rfl
      refine done_ (done_of HT_.out (by kernel_rfl)) ?_
      clear HT_ HW_ hHeld
      clear HD212
      go_upto_region 20 with (first | (go_at_call 35; refine (markG_U W6.heap.size W7.heap.size _ (by omega) (.slice A68 l0.length c69) l0 1 HD209.out HM.out.1 HK0.out (by omega)).mono ?_; rintro e W19 ⟨rfl, hB217, HD218, hK219⟩; have hz220 := hB217.size; have HB221 : Aside0 (Below w.heap.size w W19) := ⟨HB206.out.trans (hB217.mono (by omega))⟩; have HB222 : Aside0 (Below w.heap.size w W19) := ⟨HB207.out.trans (hB217.mono (by omega))⟩; have HB223 : Aside0 (Below W6.heap.size W6 W19) := ⟨HB208.out.trans (hB217.mono (by omega))⟩; have HD224 := Aside0.mk (HD210.out.moveIn fun b h1 h2 => hK219.out b (by omega) (by omega)); have HD225 := Aside0.mk (HD211.out.moveIn fun b h1 h2 => hK219.out b (by omega) (by omega)); have cx226 : W19.cell? ⟨w.heap.size, 0, none⟩ = some v0 := (hB217.cell (p := ⟨w.heap.size, 0, none⟩) (show w.heap.size < W6.heap.size by omega)).trans cx213; have cx227 : W19.cell? ⟨w.heap.size + 1, 0, none⟩ = some v2 := (hB217.cell (p := ⟨w.heap.size + 1, 0, none⟩) (show w.heap.size + 1 < W6.heap.size by omega)).trans cx214; have cx228 : W19.cell? ⟨W7.heap.size, 0, none⟩ = some (.slice A68 l0.length c69) := (cell_same (hK219.out (W7.heap.size) (by omega) (by omega)) 0).trans cx215; have cx229 : W19.cell? ⟨W9.heap.size, 0, none⟩ = some (.slice A90 l2.length c91) := (cell_same (hK219.out (W9.heap.size) (by omega) (by omega)) 0).trans cx216; clear cx213 cx214 cx215 cx216; clear HB206 HB207 HB208 HD210 HD211; clear HD209 hB217 hK219))
      clear HD218
      go_upto_region 21 with (first | (go_at_call 60; refine (markS_U W8.heap.size W9.heap.size _ (by omega) (.slice A90 l2.length c91) l2 (1 + tot l0) HD224.out HM.out.2 HK1.out HK0.out.1).mono ?_; rintro e W20 ⟨rfl, hB230, HD231, hK232⟩; have hz233 := hB230.size; have HB234 : Aside0 (Below w.heap.size w W20) := ⟨HB221.out.trans (hB230.mono (by omega))⟩; have HB235 : Aside0 (Below w.heap.size w W20) := ⟨HB222.out.trans (hB230.mono (by omega))⟩; have HB236 : Aside0 (Below W6.heap.size W6 W20) := ⟨HB223.out.trans (hB230.mono (by omega))⟩; have HD237 := Aside0.mk (HD225.out.moveIn fun b h1 h2 => hK232.out b (by omega) (by omega)); have cx238 : W20.cell? ⟨w.heap.size, 0, none⟩ = some v0 := (hB230.cell (p := ⟨w.heap.size, 0, none⟩) (show w.heap.size < W8.heap.size by omega)).trans cx226; have cx239 : W20.cell? ⟨w.heap.size + 1, 0, none⟩ = some v2 := (hB230.cell (p := ⟨w.heap.size + 1, 0, none⟩) (show w.heap.size + 1 < W8.heap.size by omega)).trans cx227; have cx240 : W20.cell? ⟨W7.heap.size, 0, none⟩ = some (.slice A68 l0.length c69) := (hB230.cell (p := ⟨W7.heap.size, 0, none⟩) (show W7.heap.size < W8.heap.size by omega)).trans cx228; have cx241 : W20.cell? ⟨W9.heap.size, 0, none⟩ = some (.slice A90 l2.length c91) := (cell_same (hK232.out (W9.heap.size) (by omega) (by omega)) 0).trans cx229; clear cx226 cx227 cx228 cx229; clear HB221 HB222 HB223 HD225; clear HD224 hB230 hK232))
      clear HD231
      go_upto_region 24 with (first | (go_at_call 30; refine (eqRL_c _ v113 v55 R HD237.out.reads (hD57.out.below HB236.out) HF.out).mono ?_; rintro e w_ ⟨rfl, ⟨nd242, rfl⟩⟩; have HB243 : Aside0 (Below w.heap.size w (W20.drewN nd242)) := ⟨pw_below_drewN HB234.out nd242⟩; have HB244 : Aside0 (Below w.heap.size w (W20.drewN nd242)) := ⟨pw_below_drewN HB235.out nd242⟩; have HB245 : Aside0 (Below W6.heap.size W6 (W20.drewN nd242)) := ⟨pw_below_drewN HB236.out nd242⟩; have HD246 := Aside0.mk (HD237.out.drewN nd242); have cx247 : (W20.drewN nd242).cell? ⟨w.heap.size, 0, none⟩ = some v0 := cx238; have cx248 : (W20.drewN nd242).cell? ⟨w.heap.size + 1, 0, none⟩ = some v2 := cx239; have cx249 : (W20.drewN nd242).cell? ⟨W7.heap.size, 0, none⟩ = some (.slice A68 l0.length c69) := cx240; have cx250 : (W20.drewN nd242).cell? ⟨W9.heap.size, 0, none⟩ = some (.slice A90 l2.length c91) := cx241; clear cx238 cx239 cx240 cx241; have hz251 : W20.heap.size ≤ (W20.drewN nd242).heap.size := (by simp); clear HB234 HB235 HB236 HD237; generalize W20.drewN nd242 = W21 at *))
      go_upto_region 26 with (first | (go_at_call 36; refine (markRL_U W10.heap.size W11.heap.size _ (by omega) v113 R 1 rfl HD246.out HF.out).mono ?_; rintro e W22 ⟨rfl, hB252, HD253, hK254⟩; have hz255 := hB252.size; have HB256 : Aside0 (Below w.heap.size w W22) := ⟨HB243.out.trans (hB252.mono (by omega))⟩; have HB257 : Aside0 (Below w.heap.size w W22) := ⟨HB244.out.trans (hB252.mono (by omega))⟩; have HB258 : Aside0 (Below W6.heap.size W6 W22) := ⟨HB245.out.trans (hB252.mono (by omega))⟩; have cx259 : W22.cell? ⟨w.heap.size, 0, none⟩ = some v0 := (hB252.cell (p := ⟨w.heap.size, 0, none⟩) (show w.heap.size < W10.heap.size by omega)).trans cx247; have cx260 : W22.cell? ⟨w.heap.size + 1, 0, none⟩ = some v2 := (hB252.cell (p := ⟨w.heap.size + 1, 0, none⟩) (show w.heap.size + 1 < W10.heap.size by omega)).trans cx248; have cx261 : W22.cell? ⟨W7.heap.size, 0, none⟩ = some (.slice A68 l0.length c69) := (hB252.cell (p := ⟨W7.heap.size, 0, none⟩) (show W7.heap.size < W10.heap.size by omega)).trans cx249; have cx262 : W22.cell? ⟨W9.heap.size, 0, none⟩ = some (.slice A90 l2.length c91) := (hB252.cell (p := ⟨W9.heap.size, 0, none⟩) (show W9.heap.size < W10.heap.size by omega)).trans cx250; clear cx247 cx248 cx249 cx250; clear HB243 HB244 HB245; clear HD246 hB252 hK254))
      go_upto_region 31 with (first | (go_at_call 37; refine (heldRL_c _ v113 R HD253.out.reads HF.out).mono ?_; rintro e w_ ⟨rfl, ⟨nd263, rfl⟩⟩; have HB264 : Aside0 (Below w.heap.size w (W22.drewN nd263)) := ⟨pw_below_drewN HB256.out nd263⟩; have HB265 : Aside0 (Below w.heap.size w (W22.drewN nd263)) := ⟨pw_below_drewN HB257.out nd263⟩; have HB266 : Aside0 (Below W6.heap.size W6 (W22.drewN nd263)) := ⟨pw_below_drewN HB258.out nd263⟩; have HD267 := Aside0.mk (HD253.out.drewN nd263); have cx268 : (W22.drewN nd263).cell? ⟨w.heap.size, 0, none⟩ = some v0 := cx259; have cx269 : (W22.drewN nd263).cell? ⟨w.heap.size + 1, 0, none⟩ = some v2 := cx260; have cx270 : (W22.drewN nd263).cell? ⟨W7.heap.size, 0, none⟩ = some (.slice A68 l0.length c69) := cx261; have cx271 : (W22.drewN nd263).cell? ⟨W9.heap.size, 0, none⟩ = some (.slice A90 l2.length c91) := cx262; clear cx259 cx260 cx261 cx262; have hz272 : W22.heap.size ≤ (W22.drewN nd263).heap.size := (by simp); clear HB256 HB257 HB258 HD253; generalize W22.drewN nd263 = W23 at *))
      go_upto_region 31 with (fail)
      have HB273 : Aside0 (Below w.heap.size w W23.drew) := ⟨pw_below_drewN HB264.out 1⟩
      have HB274 : Aside0 (Below w.heap.size w W23.drew) := ⟨pw_below_drewN HB265.out 1⟩
      have HB275 : Aside0 (Below W6.heap.size W6 W23.drew) := ⟨pw_below_drewN HB266.out 1⟩
      have HD276 : Aside0 (ListU W23.drew W10.heap.size W11.heap.size v113 (marks R.length 1)) := ⟨HD267.out.drewN 1⟩
      clear HD267
      have cx277 : W23.drew.cell? ⟨w.heap.size, 0, none⟩ = some v0 := cx268
      have cx278 : W23.drew.cell? ⟨w.heap.size + 1, 0, none⟩ = some v2 := cx269
      have cx279 : W23.drew.cell? ⟨W7.heap.size, 0, none⟩ = some (.slice A68 l0.length c69) := cx270
      have cx280 : W23.drew.cell? ⟨W9.heap.size, 0, none⟩ = some (.slice A90 l2.length c91) := cx271
      clear cx268 cx269 cx270 cx271
      have hz281 : W23.heap.size ≤ W23.drew.heap.size := by simp
      refine start_ (n := 11) (S := fun w' => w'.cell? ⟨w.heap.size, 0, none⟩ = some v0 ∧ w'.cell? ⟨w.heap.size + 1, 0, none⟩ = some v2 ∧ w'.cell? ⟨W7.heap.size, 0, none⟩ = some (.slice A68 l0.length c69) ∧ w'.cell? ⟨W9.heap.size, 0, none⟩ = some (.slice A90 l2.length c91)) (ds := []) #[false, false, false, false, false, false, false, false, false, false, false] (by kernel_rfl) rfl rfl ⟨cx277, cx278, cx279, cx280⟩ (fun hHeld => ?_)
      refine with_tabW tabT15_31 bitsB15_31 (fun HT_ HW_ => ?_)
      generalize W23.drew = W24 at *
      refine take_ (i := 0) (N := some 99) (v := ?_) (a' := ?_) #[true, false, false, false, false, false, false, false, false, false, false] rfl rfl (take_ofW HT_.out HW_.out (by kernel_rfl)) (fun _ _ _ h => h) (Or.inl ⟨by rfl, ?_⟩) hHeld ?_ ?_
      rotate_left
      · rintro w' ⟨s0, s1, s2, s3⟩
        go_simp
        with_reducible rfl
      rotate_left
      · simp only [Act.put, List.setIfInBounds_toArray, List.set_cons_zero, List.set_cons_succ, i64_w, i32_w]
        rfl
      refine pure_ (i := 2) (N := some 101) (v := ?_) (a' := ?_) #[true, false, true, false, false, false, false, false, false, false, false] rfl rfl (any_of HT_.out (by kernel_rfl)) (fun _ _ _ h => h) (Or.inl ⟨by rfl, ?_⟩) ?_ ?_
      rotate_left
      · intro w'
        go_simp
        with_reducible rfl
      rotate_left
      · simp only [Act.put, List.setIfInBounds_toArray, List.set_cons_zero, List.set_cons_succ, i64_w, i32_w]
        rfl
      refine take_ (i := 3) (N := some 102) (v := ?_) (a' := ?_) #[true, false, true, true, false, false, false, false, false, false, false] rfl rfl (take_ofW HT_.out HW_.out (by kernel_rfl)) (fun _ _ _ h => h) (Or.inl ⟨by rfl, ?_⟩) hHeld ?_ ?_
      rotate_left
      · rintro w' ⟨s0, s1, s2, s3⟩
        go_simp
        with_reducible rfl
      rotate_left
      · simp only [Act.put, List.setIfInBounds_toArray, List.set_cons_zero, List.set_cons_succ, i64_w, i32_w]
        rfl
      refine one_ (i := 1) (N := some 100) #[true, true, true, true, false, false, false, false, false, false, false] rfl rfl (one_of HT_.out (by kernel_rfl)) (by decide) (fun K hK => ?_)
      refine goes_ Try.func21 (by kernel_rfl) rfl #[.agg #[v0]] (by rfl) rfl rfl (by (try simp only [List.map_toArray, List.map_cons, List.map_nil]); first | done | rfl) ?_
      (with_reducible refine (toG_c _ v0 l0 (HS0.out.below HB273.out) HM.out.1).mono ?_; rintro e W25 ⟨v282, rfl, hB283, hD284⟩; have hz285 := hB283.size; have HB286 : Aside0 (Below w.heap.size w W25) := ⟨HB273.out.trans (hB283.mono (by omega))⟩; have HB287 : Aside0 (Below w.heap.size w W25) := ⟨HB274.out.trans (hB283.mono (by omega))⟩; have HB288 : Aside0 (Below W6.heap.size W6 W25) := ⟨HB275.out.trans (hB283.mono (by omega))⟩; have HD289 := Aside0.mk (HD276.out.below (by omega) hB283); have cx290 : W25.cell? ⟨w.heap.size, 0, none⟩ = some v0 := (hB283.cell (p := ⟨w.heap.size, 0, none⟩) (show w.heap.size < W24.heap.size by omega)).trans cx277; have cx291 : W25.cell? ⟨w.heap.size + 1, 0, none⟩ = some v2 := (hB283.cell (p := ⟨w.heap.size + 1, 0, none⟩) (show w.heap.size + 1 < W24.heap.size by omega)).trans cx278; have cx292 : W25.cell? ⟨W7.heap.size, 0, none⟩ = some (.slice A68 l0.length c69) := (hB283.cell (p := ⟨W7.heap.size, 0, none⟩) (show W7.heap.size < W24.heap.size by omega)).trans cx279; have cx293 : W25.cell? ⟨W9.heap.size, 0, none⟩ = some (.slice A90 l2.length c91) := (hB283.cell (p := ⟨W9.heap.size, 0, none⟩) (show W9.heap.size < W24.heap.size by omega)).trans cx280; clear cx277 cx278 cx279 cx280; clear HB273 HB274 HB275 HD276; have HD294 := Aside0.mk hD284.out.toU; clear hD284)
      refine ⟨_, rfl, ?_⟩
      refine hK.out _ _ ⟨cx290, cx291, cx292, cx293⟩ (fun hHeld => ?_)
      clear hK K
      refine norm_ (a' := ?_) ?_ ?_
      rotate_left
      · show Act.put _ (some 100) _ = _
        simp only [Act.put, List.setIfInBounds_toArray, List.set_cons_zero, List.set_cons_succ, i64_w, i32_w]
        rfl
      refine one_ (i := 4) (N := some 103) #[true, true, true, true, true, false, false, false, false, false, false] rfl rfl (one_of HT_.out (by kernel_rfl)) (by decide) (fun K hK => ?_)
      refine goes_ Try.func55 (by kernel_rfl) rfl #[.agg #[v2]] (by rfl) rfl rfl (by (try simp only [List.map_toArray, List.map_cons, List.map_nil]); first | done | rfl) ?_
      (with_reducible refine (toS_c _ v2 l2 (HS1.out.below HB287.out) HM.out.2).mono ?_; rintro e W26 ⟨v295, rfl, hB296, hD297⟩; have hz298 := hB296.size; have HB299 : Aside0 (Below w.heap.size w W26) := ⟨HB286.out.trans (hB296.mono (by omega))⟩; have HB300 : Aside0 (Below w.heap.size w W26) := ⟨HB287.out.trans (hB296.mono (by omega))⟩; have HB301 : Aside0 (Below W6.heap.size W6 W26) := ⟨HB288.out.trans (hB296.mono (by omega))⟩; have HD302 := Aside0.mk (HD289.out.below (by omega) hB296); have HD303 := Aside0.mk (HD294.out.below (by omega) hB296); have cx304 : W26.cell? ⟨w.heap.size, 0, none⟩ = some v0 := (hB296.cell (p := ⟨w.heap.size, 0, none⟩) (show w.heap.size < W25.heap.size by omega)).trans cx290; have cx305 : W26.cell? ⟨w.heap.size + 1, 0, none⟩ = some v2 := (hB296.cell (p := ⟨w.heap.size + 1, 0, none⟩) (show w.heap.size + 1 < W25.heap.size by omega)).trans cx291; have cx306 : W26.cell? ⟨W7.heap.size, 0, none⟩ = some (.slice A68 l0.length c69) := (hB296.cell (p := ⟨W7.heap.size, 0, none⟩) (show W7.heap.size < W25.heap.size by omega)).trans cx292; have cx307 : W26.cell? ⟨W9.heap.size, 0, none⟩ = some (.slice A90 l2.length c91) := (hB296.cell (p := ⟨W9.heap.size, 0, none⟩) (show W9.heap.size < W25.heap.size by omega)).trans cx293; clear cx290 cx291 cx292 cx293; clear HB286 HB287 HB288 HD289 HD294; have HD308 := Aside0.mk hD297.out.toU; clear hD297)
      refine ⟨_, rfl, ?_⟩
      refine hK.out _ _ ⟨cx304, cx305, cx306, cx307⟩ (fun hHeld => ?_)
      clear hK K
      refine norm_ (a' := ?_) ?_ ?_
      rotate_left
      · show Act.put _ (some 103) _ = _
        simp only [Act.put, List.setIfInBounds_toArray, List.set_cons_zero, List.set_cons_succ, i64_w, i32_w]
        rfl
      refine one_ (i := 5) (N := some 104) #[true, true, true, true, true, true, false, false, false, false, false] rfl rfl (one_of HT_.out (by kernel_rfl)) (by decide) (fun K hK => ?_)
      refine goes_ Try.func59 (by kernel_rfl) rfl #[.agg #[v282], .int .i64 a1, .agg #[v295]] (by rfl) rfl rfl (by (try simp only [List.map_toArray, List.map_cons, List.map_nil]); first | done | rfl) ?_
      (refine (IM.out _ v282 v295 HD303.out.reads HD308.out.reads).mono ?_; rintro e W27 ⟨v309, rfl, hB310, hD311⟩; have hz312 := hB310.size; have HB313 : Aside0 (Below w.heap.size w W27) := ⟨HB299.out.trans (hB310.mono (by omega))⟩; have HB314 : Aside0 (Below w.heap.size w W27) := ⟨HB300.out.trans (hB310.mono (by omega))⟩; have HB315 : Aside0 (Below W6.heap.size W6 W27) := ⟨HB301.out.trans (hB310.mono (by omega))⟩; have HD316 := Aside0.mk (HD302.out.below (by omega) hB310); have HD317 := Aside0.mk (HD303.out.below (by omega) hB310); have HD318 := Aside0.mk (HD308.out.below (by omega) hB310); have cx319 : W27.cell? ⟨w.heap.size, 0, none⟩ = some v0 := (hB310.cell (p := ⟨w.heap.size, 0, none⟩) (show w.heap.size < W26.heap.size by omega)).trans cx304; have cx320 : W27.cell? ⟨w.heap.size + 1, 0, none⟩ = some v2 := (hB310.cell (p := ⟨w.heap.size + 1, 0, none⟩) (show w.heap.size + 1 < W26.heap.size by omega)).trans cx305; have cx321 : W27.cell? ⟨W7.heap.size, 0, none⟩ = some (.slice A68 l0.length c69) := (hB310.cell (p := ⟨W7.heap.size, 0, none⟩) (show W7.heap.size < W26.heap.size by omega)).trans cx306; have cx322 : W27.cell? ⟨W9.heap.size, 0, none⟩ = some (.slice A90 l2.length c91) := (hB310.cell (p := ⟨W9.heap.size, 0, none⟩) (show W9.heap.size < W26.heap.size by omega)).trans cx307; clear cx304 cx305 cx306 cx307; clear HB299 HB300 HB301 HD302 HD303 HD308; have HD323 := Aside0.mk hD311.out.toU; clear hD311)
      refine ⟨_, rfl, ?_⟩
      refine hK.out _ _ ⟨cx319, cx320, cx321, cx322⟩ (fun hHeld => ?_)
      clear hK K
      refine norm_ (a' := ?_) ?_ ?_
      rotate_left
      · show Act.put _ (some 104) _ = _
        simp only [Act.put, List.setIfInBounds_toArray, List.set_cons_zero, List.set_cons_succ, i64_w, i32_w]
        rfl
      refine pure_ (i := 6) (N := some 98) (v := ?_) (a' := ?_) #[true, true, true, true, true, true, true, false, false, false, false] rfl rfl (any_of HT_.out (by kernel_rfl)) (fun _ _ _ h => h) (Or.inl ⟨by rfl, ?_⟩) ?_ ?_
      rotate_left
      · intro w'
        go_simp
        with_reducible rfl
      rotate_left
      · simp only [Act.put, List.setIfInBounds_toArray, List.set_cons_zero, List.set_cons_succ, i64_w, i32_w]
        rfl
      refine pure_ (i := 7) (N := some 105) (v := ?_) (a' := ?_) #[true, true, true, true, true, true, true, true, false, false, false] rfl rfl (any_of HT_.out (by kernel_rfl)) (fun _ _ _ h => h) (Or.inl ⟨by rfl, ?_⟩) ?_ ?_
      rotate_left
      · intro w'
        go_simp
        with_reducible rfl
      rotate_left
      · simp only [Act.put, List.setIfInBounds_toArray, List.set_cons_zero, List.set_cons_succ, i64_w, i32_w]
        rfl
      refine pure_ (i := 8) (N := some 106) (v := ?_) (a' := ?_) #[true, true, true, true, true, true, true, true, true, false, false] rfl rfl (any_of HT_.out (by kernel_rfl)) (fun _ _ _ h => h) (Or.inl ⟨by rfl, ?_⟩) ?_ ?_
      rotate_left
      · intro w'
        go_simp
        with_reducible rfl
      rotate_left
      · simp only [Act.put, List.setIfInBounds_toArray, List.set_cons_zero, List.set_cons_succ, i64_w, i32_w]
        rfl
      refine pure_ (i := 9) (N := some 17) (v := ?_) (a' := ?_) #[true, true, true, true, true, true, true, true, true, true, false] rfl rfl (any_of HT_.out (by kernel_rfl)) (fun _ _ _ h => h) (Or.inl ⟨by rfl, ?_⟩) ?_ ?_
      rotate_left
      · intro w'
        go_simp
        with_reducible rfl
      rotate_left
      · simp only [Act.put, List.setIfInBounds_toArray, List.set_cons_zero, List.set_cons_succ, i64_w, i32_w]
        rfl
      refine pure_ (i := 10) (N := some 18) (v := ?_) (a' := ?_) #[true, true, true, true, true, true, true, true, true, true, true] rfl rfl (any_of HT_.out (by kernel_rfl)) (fun _ _ _ h => h) (Or.inl ⟨by rfl, ?_⟩) ?_ ?_
      rotate_left
      · intro w'
        go_simp
        with_reducible rfl
      rotate_left
      · simp only [Act.put, List.setIfInBounds_toArray, List.set_cons_zero, List.set_cons_succ, i64_w, i32_w]
        rfl
      refine done_ (done_of HT_.out (by kernel_rfl)) ?_
      clear HT_ HW_ hHeld
      clear HD317
      clear HD318
      go_upto_region 35 with (first | (go_at_call 30; refine (eqRL_c _ v309 v55 R HD323.out.reads (hD57.out.below HB315.out) HF.out).mono ?_; rintro e w_ ⟨rfl, ⟨nd324, rfl⟩⟩; have HB325 : Aside0 (Below w.heap.size w (W27.drewN nd324)) := ⟨pw_below_drewN HB313.out nd324⟩; have HB326 : Aside0 (Below w.heap.size w (W27.drewN nd324)) := ⟨pw_below_drewN HB314.out nd324⟩; have HB327 : Aside0 (Below W6.heap.size W6 (W27.drewN nd324)) := ⟨pw_below_drewN HB315.out nd324⟩; have HD328 := Aside0.mk (HD316.out.drewN nd324); have HD329 := Aside0.mk (HD323.out.drewN nd324); have cx330 : (W27.drewN nd324).cell? ⟨w.heap.size, 0, none⟩ = some v0 := cx319; have cx331 : (W27.drewN nd324).cell? ⟨w.heap.size + 1, 0, none⟩ = some v2 := cx320; have cx332 : (W27.drewN nd324).cell? ⟨W7.heap.size, 0, none⟩ = some (.slice A68 l0.length c69) := cx321; have cx333 : (W27.drewN nd324).cell? ⟨W9.heap.size, 0, none⟩ = some (.slice A90 l2.length c91) := cx322; clear cx319 cx320 cx321 cx322; have hz334 : W27.heap.size ≤ (W27.drewN nd324).heap.size := (by simp); clear HB313 HB314 HB315 HD316 HD323; generalize W27.drewN nd324 = W28 at *))
      clear HD329
      go_wp2_with (first | (go_at_call 37; refine (heldRL_c _ v113 R HD328.out.reads HF.out).mono ?_; rintro e w_ ⟨rfl, ⟨nd335, rfl⟩⟩; have HB336 : Aside0 (Below w.heap.size w (W28.drewN nd335)) := ⟨pw_below_drewN HB325.out nd335⟩; have HB337 : Aside0 (Below w.heap.size w (W28.drewN nd335)) := ⟨pw_below_drewN HB326.out nd335⟩; have HB338 : Aside0 (Below W6.heap.size W6 (W28.drewN nd335)) := ⟨pw_below_drewN HB327.out nd335⟩; have HD339 := Aside0.mk (HD328.out.drewN nd335); have cx340 : (W28.drewN nd335).cell? ⟨w.heap.size, 0, none⟩ = some v0 := cx330; have cx341 : (W28.drewN nd335).cell? ⟨w.heap.size + 1, 0, none⟩ = some v2 := cx331; have cx342 : (W28.drewN nd335).cell? ⟨W7.heap.size, 0, none⟩ = some (.slice A68 l0.length c69) := cx332; have cx343 : (W28.drewN nd335).cell? ⟨W9.heap.size, 0, none⟩ = some (.slice A90 l2.length c91) := cx333; clear cx330 cx331 cx332 cx333; have hz344 : W28.heap.size ≤ (W28.drewN nd335).heap.size := (by simp); clear HB325 HB326 HB327 HD328; generalize W28.drewN nd335 = W29 at *))
      go_ret
      exact ⟨by first | rfl | trivial, HB336.out⟩
end Go.Proofs.Ytnbnalbomflafaa.RA
/-! ## Kr -/
namespace Go.Proofs.Ytnbnalbomflafaa.KR
open Go.RowKit Go.Proofs.YtnbnalbomflafaaW.PrintWords
open Go.ChangeShapes Go.WideShapes Go.Deep
set_option linter.unusedVariables false
structure RowsIn (W : World) (A : Option Addr) (n c : Nat) (l : List (List Int)) : Prop where
  len : n = l.length
  le : l.length ≤ c
  reads : Kd.C (Kd.slice 3 (Kd.int .i64)) W A l.length l
  wf : ∀ r ∈ l, ∀ x ∈ r, (Lit.int .i64 x).wf = true
  small : ∀ r ∈ l, r.length ≤ 9223372036854775807
theorem reads_of {W : World} {a' : Option Addr} {n c : Nat} {zs : List Int} (hl : n ≤ c) (hm : c ≤ maxLen) (hz : zs.length = c) (hn : a' = none → c = 0)
    (hc : ∀ ad, a' = some ad → ∀ j, j < c → W.cell? (ad.add j) = some (.int .i64 (zs.getD j 0))) : Kd.C (Kd.int .i64) W a' (zs.take n).length (zs.take n) := by
  have hln : (zs.take n).length = n := by rw [List.length_take]; omega
  rw [hln]
  refine Kd.C_of_reads (d := 0) ⟨hln, by unfold maxLen at hm; omega, fun h0 => ?_⟩
  cases a' with
  | none => have := hn rfl; omega
  | some ad =>
    refine ⟨ad, rfl, fun j hj => ?_⟩
    rw [hc ad rfl j (by omega)]
    simp [List.getD_eq_getElem?_getD, hj]
theorem array1 {α : Type} {cs : Array α} (h : cs.size = 1) : ∃ c0, cs = #[c0] := by
  obtain ⟨l⟩ := cs
  match l, h with
  | [c0], _ => exact ⟨c0, rfl⟩
section
variable {H : Type} {enc : TypeId × Value → H} {W : World} {base : Nat} {held : Bool}
theorem rows_of {fuel : Nat} {cs : List Value} {x : DataW H × List MemPlace} (h : DataW.trod enc Try.prog W base (fun _ => true) held fuel 22 cs = some x) : ∃ A n c l, cs = [.slice A n c] ∧ RowsIn W A n c l := by
  rcases open_int_rows Try.underlying22 Try.underlying37 Try.underlying3 (by kernel_rfl) (by kernel_rfl) h with ⟨rfl, _⟩ | ⟨a, len, cap, A, L, C, Z, rfl, hb, hl, hm, hx, hr⟩
  · exact ⟨none, 0, 0, [], rfl, rfl, Nat.le_refl _, Kd.C_nil _ _, by simp, by simp⟩
  · refine ⟨some a, len, cap, (List.range len).map fun r => (Z r).take (L r), rfl, by simp, by simpa using hl, ?_, ?_, ?_⟩
    · refine ⟨by simp, by simp; unfold maxLen at hm; omega, fun h0 => ⟨a, rfl, fun j p hj => ?_⟩⟩
      have hjl : j < len := by
        have := (List.getElem?_eq_some_iff.1 hj).1
        simpa using this
      obtain ⟨hc, h1, h2, h3, h4, h5, h6⟩ := hr j (by omega)
      have hp : p = (Z j).take (L j) := by
        rw [List.getElem?_map, List.getElem?_range hjl] at hj
        exact (Option.some.inj hj).symm
      have hpl : p.length = L j := by rw [hp, List.length_take]; omega
      refine ⟨[.slice (A j) p.length (C j)], rfl, ⟨A j, C j, rfl, by omega, ?_⟩, fun i u hu => ?_⟩
      · rw [hp]
        exact reads_of h1 h2 h3 h5 (fun ad e i hi => (h6 ad e).2 i hi)
      · have hi : i = 0 := by
          have := (List.getElem?_eq_some_iff.1 hu).1
          simp at this
          exact this
        subst hi
        simp at hu
        rw [← hu, hpl]
        have e : j * (Kd.slice 3 (Kd.int .i64)).sz + 0 = j := by show j * 1 + 0 = j; omega
        rw [e]
        exact hc
    · intro r hr' x hx'
      obtain ⟨j, hj, rfl⟩ := List.mem_map.1 hr'
      have := List.mem_range.1 hj
      exact (hr j (by omega)).2.2.2.2.1 x (List.mem_of_mem_take hx')
    · intro r hr'
      obtain ⟨j, hj, rfl⟩ := List.mem_map.1 hr'
      have hj := List.mem_range.1 hj
      have h1 := (hr j (by omega)).2.1
      have h2 := (hr j (by omega)).2.2.1
      unfold maxLen at h2
      rw [List.length_take]
      omega
set_option maxRecDepth 100000 in
theorem open_graph {r : Reach} {b0 t : Nat} {f0 : Field} {v : Value} {d : DataW H} {p : List MemPlace} (hs : Try.prog.underlying t = some (.struct #[f0])) (hC : Try.prog.cellsOf t = 1) (hf : f0.type = 22) (ho : f0.offset = 0)
    (hv : Value.okWide Try.prog W r b0 t v) (h : DataW.Trod enc Try.prog W base (fun _ => true) held t v d p) : ∃ A n c l, v = .agg #[.slice A n c] ∧ RowsIn W A n c l := by
  obtain ⟨cs, rfl, hsz⟩ := okWide_struct hs hv
  obtain ⟨c0, rfl⟩ := array1 (hsz.trans hC)
  obtain ⟨fuel, hfu⟩ := h
  obtain ⟨y0, n, hx, _, h0⟩ := trod_struct1 hs hfu
  have hc22 : Try.prog.cellsOf 22 = 1 := by kernel_rfl
  rw [hf, ho, hc22] at h0
  obtain ⟨A, m, c, l, hcs, hR⟩ := rows_of h0
  have e : c0 = .slice A m c := by simpa [Value.cells] using hcs
  subst e
  exact ⟨A, m, c, l, rfl, hR⟩
end
end Go.Proofs.Ytnbnalbomflafaa.KR
