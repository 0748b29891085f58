/-
  Texts of the seat, merged (part 5).
-/
import Derived.Laws.BitsLemmas
import Derived.Test.YtjedhjeijpbobaaX484
set_option linter.unusedVariables false
set_option linter.unusedSimpArgs false
namespace Go.Proofs.Ytjedhjeijpbobaa.H8
open Go.RowKit YtjedhjeijpbobaaW.PrintWords YtjedhjeijpbobaaW.PrintLast
open GA GL GM
open G8 (okLine okEnds lineS lo1 hi1 ends_all ends_mir ends2 endsV wrap_id heapRows okH0 heapU heapCs hrows hp inB impl_LineEnds.f impl_LineSteps.f impl_HeapSquare.f spec_HeapSquare.f sumC sqF sq)
def Bytes (l : List Int) : Prop := ∀ x ∈ l, 0 ≤ x ∧ x ≤ 255
theorem rd_pos (l : List Int) (i : Nat) (h : i < l.length) : rd l (i : Int) = l[i] := by
 unfold rd
 rw [Int.toNat_natCast, List.getD_eq_getElem?_getD, List.getElem?_eq_getElem h]
 rfl
theorem mask255 (x : Int) (h0 : 0 ≤ x) (h1 : x < 18446744073709551616) : Go.bits .and .u64 x 255 = x % 256 :=
 bits_mask .u64 64 (by decide) (fun n a b => by simp [IntKind.wrap, IntKind.bits, IntKind.signed]; omega) 8 (by decide) x h0 (by omega)
theorem u64_range (x : Int) : 0 ≤ IntKind.u64.wrap x ∧ IntKind.u64.wrap x < 18446744073709551616 := by simp [IntKind.wrap, IntKind.bits, IntKind.signed]; omega
theorem drawn_byte (x : Int) : 0 ≤ wrap64 (Go.bits .and .u64 (IntKind.u64.wrap x / 1099511627776) 255) ∧ wrap64 (Go.bits .and .u64 (IntKind.u64.wrap x / 1099511627776) 255) ≤ 255 := by
 have h := u64_range x
 generalize IntKind.u64.wrap x = y at *
 rw [mask255 _ (by omega) (by omega), wrap_id (by omega) (by omega)]
 omega
theorem next_some {l : List Int} (hb : Bytes l) {p : Int} (h0 : 0 ≤ p) (h1 : p ≤ 1000000) (sd : Int) : ∃ x s1, spec_l1Cur_next.f l p sd = some (x, p + 1, s1) ∧ 0 ≤ x ∧ x ≤ 255 := by
 have e : wrap64 (p + 1) = p + 1 := wrap_id (by omega) (by omega)
 unfold spec_l1Cur_next.f
 rw [e]
 by_cases h2 : p < (l.length : Int)
 ·rw [if_pos h2, if_pos h0, if_pos (by omega)]
  have h3 : 0 ≤ rd l p ∧ rd l p ≤ 255 := by
   have := rd_pos l p.toNat (by omega)
   rw [Int.toNat_of_nonneg h0] at this
   rw [this]
   exact hb _ (List.getElem_mem _)
  exact ⟨_, _, rfl, by rw [wrap_id (by omega) (by omega)]; exact h3⟩
 ·rw [if_neg h2, if_neg (by omega)]
  exact ⟨_, _, rfl, drawn_byte _⟩
theorem pick_some {l : List Int} (hb : Bytes l) {p : Int} (h0 : 0 ≤ p) (h1 : p ≤ 1000000) (sd : Int) {n : Int} (hn : 1 < n) (hn2 : n ≤ 200) : ∃ x s1, spec_l1Cur_pick.f l p sd n = some (x, p + 1, s1) ∧ 0 ≤ x ∧ x < n := by
 obtain ⟨x, s1, e, hx⟩ := next_some hb h0 h1 sd
 unfold spec_l1Cur_pick.f
 rw [if_neg (by omega), e]
 simp only [Option.bind_some]
 rw [if_neg (by omega), if_neg (by omega)]
 refine ⟨_, _, rfl, ?_⟩
 rw [Int.tmod_eq_emod_of_nonneg hx.1]
 exact ⟨Int.emod_nonneg _ (by omega), Int.emod_lt_of_pos _ (by omega)⟩
theorem among_some {l : List Int} (hb : Bytes l) {p : Int} (h0 : 0 ≤ p) (h1 : p ≤ 1000000) (sd : Int) (L : List Int) (hn : 1 < L.length) (hn2 : L.length ≤ 200) : ∃ x s1, spec_l1Cur_among.f l p sd L = some (x, p + 1, s1) := by
 obtain ⟨x, s1, e, hx⟩ := pick_some hb h0 h1 sd (n := (L.length : Int)) (by omega) (by omega)
 unfold spec_l1Cur_among.f
 rw [e]
 simp only [Option.bind_some]
 rw [if_pos hx.1, if_pos hx.2]
 exact ⟨_, _, rfl⟩
theorem grown_some {l : List Int} (hb : Bytes l) {p : Int} (h0 : 0 ≤ p) (h1 : p ≤ 1000) (sd : Int) : ∃ x s1, spec_l1Cur_grown.f l p sd = some (x, p + 3, s1) := by
 obtain ⟨x, s1, e1, _⟩ := pick_some hb h0 (by omega) sd (n := 80) (by omega) (by omega)
 obtain ⟨y, s2, e2, _⟩ := pick_some hb (p := p + 1) (by omega) (by omega) s1 (n := 80) (by omega) (by omega)
 obtain ⟨z, s3, e3⟩ := among_some hb (p := p + 1 + 1) (by omega) (by omega) s2 [0, 1, 2, 5, 9, 20, 37, 60, 100, 250, 251, (-1), x, y] (by simp) (by simp)
 unfold spec_l1Cur_grown.f
 rw [e1]
 simp only [Option.bind_some]
 rw [e2]
 simp only [Option.bind_some]
 rw [e3]
 exact ⟨z, s3, by simp only [Option.bind_some]; rw [show p + 1 + 1 + 1 = p + 3 by omega]⟩
theorem draw_heap {l : List Int} (hb : Bytes l) : ∃ m, spec_DrawHeapCells.f l = some m := by
 obtain ⟨x, s1, e⟩ := grown_some hb (p := 0) (by omega) (by omega) 0
 exact ⟨x, by unfold spec_DrawHeapCells.f; rw [e]; rfl⟩
theorem draw_line {l : List Int} (hb : Bytes l) : ∃ n k, spec_DrawLineEnds.f l = some (n, k) := by
 obtain ⟨x, s1, e⟩ := grown_some hb (p := 0) (by omega) (by omega) 0
 obtain ⟨y, s2, e2⟩ := among_some hb (p := 0 + 3) (by omega) (by omega) s1 [0, 1, 0, 1, 2, (-1)] (by decide) (by decide)
 exact ⟨x, y, by unfold spec_DrawLineEnds.f; rw [e]; simp only [Option.bind_some]; rw [e2]; rfl⟩
theorem same_some (x y : List Int) (he : x.length = y.length) (hn : x.length ≤ 1000000) (d : Nat) : ∀ (k i : Nat), i + d = x.length → d < k → ∃ b, laws_xSame.l0 k x y (x.length : Int) (i : Int) = some b := by
 induction d with
 | zero =>
  intro k i hi hk
  obtain ⟨k, rfl⟩ : ∃ m, k = m + 1 := ⟨k - 1, by omega⟩
  simp only [laws_xSame.l0]
  rw [if_neg (by omega)]
  exact ⟨_, rfl⟩
 | succ d ih =>
  intro k i hi hk
  obtain ⟨k, rfl⟩ : ∃ m, k = m + 1 := ⟨k - 1, by omega⟩
  simp only [laws_xSame.l0]
  have e2 : wrap64 ((i : Int) + 1) = ((i + 1 : Nat) : Int) := by rw [wrap_id (by omega) (by omega)]; omega
  rw [if_pos (by omega), if_pos (by omega), if_pos (by omega), if_pos (by omega), e2]
  split
  ·exact ih k (i + 1) (by omega) (by omega)
  ·exact ⟨_, rfl⟩
theorem xsame_some (x y : List Int) (hn : x.length ≤ 1000000) (k : Nat) (hk : x.length < k) : ∃ b, laws_xSame.f k x y = some b := by
 unfold laws_xSame.f
 by_cases e : (x.length : Int) = (y.length : Int)
 ·rw [if_pos e]
  exact same_some x y (by omega) hn x.length k 0 (by omega) hk
 ·rw [if_neg e]
  exact ⟨_, rfl⟩
theorem xsame_refl (x : List Int) (hn : x.length ≤ 1000000) (k : Nat) (hk : x.length < k) : laws_xSame.f k x x = some true := by
 obtain ⟨b, h⟩ := xsame_some x x hn k hk
 rw [h, same_f h]
theorem rows_l0 (rows : List (List Int)) (hn : rows.length ≤ 1000000) (hr : ∀ r ∈ rows, r.length ≤ 10) (d : Nat) : ∀ (k i : Nat), i + d = rows.length → d + 20 < k → laws_xRows.l0 k rows rows (rows.length : Int) (i : Int) = some true := by
 induction d with
 | zero =>
  intro k i hi hk
  obtain ⟨k, rfl⟩ : ∃ m, k = m + 1 := ⟨k - 1, by omega⟩
  simp only [laws_xRows.l0]
  rw [if_neg (by omega)]
 | succ d ih =>
  intro k i hi hk
  obtain ⟨k, rfl⟩ : ∃ m, k = m + 1 := ⟨k - 1, by omega⟩
  simp only [laws_xRows.l0]
  have e2 : wrap64 ((i : Int) + 1) = ((i + 1 : Nat) : Int) := by rw [wrap_id (by omega) (by omega)]; omega
  have hlt : i < rows.length := by omega
  have er : GL.rd_L4 rows (i : Int) = rows[i] := by
   unfold GL.rd_L4
   rw [Int.toNat_natCast, List.getD_eq_getElem?_getD, List.getElem?_eq_getElem hlt]
   rfl
  have hl := hr _ (List.getElem_mem hlt)
  rw [if_pos (by omega), if_pos (by omega), if_pos (by omega), if_pos (by omega), er, xsame_refl _ (by omega) k (by omega), e2]
  simp only [Option.bind_some]
  rw [if_pos trivial]
  exact ih k (i + 1) (by omega) (by omega)
theorem xrows_refl (rows : List (List Int)) (hn : rows.length ≤ 1000000) (hr : ∀ r ∈ rows, r.length ≤ 10) (k : Nat) (hk : rows.length + 20 < k) : laws_xRows.f k rows rows = some true := by
 unfold laws_xRows.f
 rw [if_pos rfl]
 exact rows_l0 rows hn hr rows.length k 0 (by omega) hk
theorem place_some (rows : List (List Int)) (s : List Int) (hn : rows.length ≤ 1000000) (hr : ∀ r ∈ rows, r.length ≤ 10) (d : Nat) : ∀ (k i : Nat), i + d = rows.length → d + 20 < k → ∃ t, laws_xPlace.l0 k s rows (rows.length : Int) (i : Int) = some t := by
 induction d with
 | zero =>
  intro k i hi hk
  obtain ⟨k, rfl⟩ : ∃ m, k = m + 1 := ⟨k - 1, by omega⟩
  simp only [laws_xPlace.l0]
  rw [if_neg (by omega)]
  exact ⟨_, rfl⟩
 | succ d ih =>
  intro k i hi hk
  obtain ⟨k, rfl⟩ : ∃ m, k = m + 1 := ⟨k - 1, by omega⟩
  simp only [laws_xPlace.l0]
  have e2 : wrap64 ((i : Int) + 1) = ((i + 1 : Nat) : Int) := by rw [wrap_id (by omega) (by omega)]; omega
  have hlt : i < rows.length := by omega
  have er : GL.rd_L4 rows (i : Int) = rows[i] := by
   unfold GL.rd_L4
   rw [Int.toNat_natCast, List.getD_eq_getElem?_getD, List.getElem?_eq_getElem hlt]
   rfl
  have hl := hr _ (List.getElem_mem hlt)
  obtain ⟨b, hb⟩ := xsame_some rows[i] s (by omega) k (by omega)
  rw [if_pos (by omega), if_pos (by omega), if_pos (by omega), er, hb, e2]
  simp only [Option.bind_some]
  split
  ·exact ⟨_, rfl⟩
  ·exact ih k (i + 1) (by omega) (by omega)
theorem xplace_some (rows : List (List Int)) (s : List Int) (hn : rows.length ≤ 1000000) (hr : ∀ r ∈ rows, r.length ≤ 10) (k : Nat) (hk : rows.length + 20 < k) : ∃ t, laws_xPlace.f k rows s = some t := by
 unfold laws_xPlace.f
 exact place_some rows s hn hr rows.length k 0 (by omega) hk
theorem rows_three {m : Int} {rows : List (List Int)} (h : impl_HeapCells.f m = some (rows, true)) : ∀ r ∈ rows, r.length ≤ 10 := fun r hr => by
 obtain ⟨_, rfl⟩ := heap_known h
 unfold hrows at hr
 obtain ⟨c, _, rfl⟩ := List.mem_map.1 hr
 exact Nat.le_of_ble_eq_true rfl
theorem take_sum (f : Int → Int → Int) (cs : List (Int × Int)) (i : Nat) (h : i < cs.length) : sumC f (cs.take (i + 1)) = sumC f (cs.take i) + f cs[i].1 cs[i].2 := by
 rw [List.take_succ_eq_append_getElem h, G8.sum_app]
 unfold sumC
 simp
theorem take_sq (cs : List (Int × Int)) (i : Nat) (h : i < cs.length) (a : Int) : sqF a (cs.take (i + 1)) = if sqF a (cs.take i) > sq cs[i] then sqF a (cs.take i) else sq cs[i] := by
 rw [List.take_succ_eq_append_getElem h]
 unfold sqF
 rw [List.foldl_append]
 rfl
theorem sum_bd (f : Int → Int → Int) (hf : ∀ a b, 0 ≤ f a b ∧ f a b ≤ 3) (cs : List (Int × Int)) : 0 ≤ sumC f cs ∧ sumC f cs ≤ 3 * cs.length := by
 induction cs with
 | nil => simp [sumC]
 | cons c t ih =>
  have := hf c.1 c.2
  have e : sumC f (c :: t) = f c.1 c.2 + sumC f t := by unfold sumC; simp
  rw [e, List.length_cons]
  omega
theorem sq_low {a b : Int} (ha : -15 ≤ a ∧ a ≤ 15) (hb : -15 ≤ b ∧ b ≤ 15) : (0 ≤ a * a ∧ a * a ≤ 225) ∧ (0 ≤ b * b ∧ b * b ≤ 225) := by
 have h : ∀ x : Int, -15 ≤ x ∧ x ≤ 15 → 0 ≤ x * x ∧ x * x ≤ 225 := fun x hx => by
  obtain ⟨y, rfl⟩ : ∃ y : Int, x = y - 15 := ⟨x + 15, by omega⟩
  have h1 := Int.mul_nonneg (show 0 ≤ y by omega) (show 0 ≤ 30 - y by omega)
  have h2 : (y - 15) * (y - 15) = 225 - y * (30 - y) := by grind
  have h3 : 0 ≤ (y - 15) * (y - 15) := by
   rcases Int.le_total 0 (y - 15) with q | q
   ·exact Int.mul_nonneg q q
   ·have := Int.mul_nonneg (show 0 ≤ -(y - 15) by omega) (show 0 ≤ -(y - 15) by omega)
    rwa [Int.neg_mul_neg] at this
  omega
 exact ⟨h a ha, h b hb⟩
theorem rd3_0 (a b c : Int) : rd [a, b, c] 0 = a := rfl
theorem rd3_1 (a b c : Int) : rd [a, b, c] 1 = b := rfl
theorem rd3_2 (a b c : Int) : rd [a, b, c] 2 = c := rfl
theorem len3 (a b c : Int) : ((([a, b, c] : List Int).length : Nat) : Int) = 3 := rfl
theorem heap_arith {i : Nat} {s z A B : Int} (hi : i ≤ 14641) (hs : 0 ≤ s ∧ s ≤ 43923) (hz : 0 ≤ z ∧ z ≤ 3) (hA : 0 ≤ A ∧ A ≤ 225) (hB : 0 ≤ B ∧ B ≤ 225) :
  wrap64 ((i : Int) + 1) = ((i + 1 : Nat) : Int) ∧ wrap64 (s + z) = s + z ∧ wrap64 A = A ∧ wrap64 B = B ∧ wrap64 (A + B) = A + B :=
 ⟨by rw [wrap_id (by omega) (by omega)]; omega, wrap_id (by omega) (by omega), wrap_id (by omega) (by omega), wrap_id (by omega) (by omega), wrap_id (by omega) (by omega)⟩
theorem heap_l0 {m : Int} {rows : List (List Int)} (h : impl_HeapCells.f m = some (rows, true)) (d : Nat) : ∀ (k i : Nat) (s q : Int), i + d = rows.length → d + 15000 < k → s = sumC (hp m (heapU m)) ((heapCs m).take i) → q = sqF 0 ((heapCs m).take i) → 0 ≤ q → q ≤ 450 →
  laws_FnLinesAndHeaps.l0 k m rows (G8.heapV m) s q rows (rows.length : Int) (i : Int) = some true := by
 have hm := (heap_known h).1
 have hlen : rows.length = (heapCs m).length := by rw [(heap_known h).2, G8.hrows_len]
 have hfew := rows_few h
 induction d with
 | zero =>
  intro k i s q hi hk hs hq _ _
  obtain ⟨k, rfl⟩ : ∃ m, k = m + 1 := ⟨k - 1, by omega⟩
  simp only [laws_FnLinesAndHeaps.l0]
  rw [List.take_of_length_le (by omega)] at hs hq
  rw [G8.heap_sum hm] at hs
  rw [if_neg (by omega), if_pos hs]
  by_cases e : m = 0
  ·rw [if_pos e]
  ·rw [if_neg e]
   have : G8.heapV m = q := by unfold G8.heapV; rw [if_pos (by omega), hq]
   rw [this]
   simp
 | succ d ih =>
  intro k i s q hi hk hs hq hq0 hq1
  obtain ⟨k, rfl⟩ : ∃ m, k = m + 1 := ⟨k - 1, by omega⟩
  have hlt : i < (heapCs m).length := by omega
  obtain ⟨a, ha⟩ : ∃ a, a = (heapCs m)[i].1 := ⟨_, rfl⟩
  obtain ⟨b, hb⟩ : ∃ b, b = (heapCs m)[i].2 := ⟨_, rfl⟩
  have hc : (a, b) ∈ heapCs m := by rw [ha, hb]; exact List.getElem_mem hlt
  have er : GM.rd_L4 rows (i : Int) = [a, b, hp m (heapU m) a b] := by
   rw [ha, hb]
   rw [(heap_known h).2]
   unfold GM.rd_L4
   rw [Int.toNat_natCast, List.getD_eq_getElem?_getD, G8.hrows_at (List.getElem?_eq_getElem hlt)]
   rfl
  have hh := (G8.heapU_ok hm).2
  obtain ⟨z, hz⟩ : ∃ z, z = hp m (heapU m) a b := ⟨_, rfl⟩
  have hz3 : 0 ≤ z ∧ z ≤ 3 := by rw [hz]; exact hh a b
  have hab := G8.cs_near hm _ hc
  simp only at hab
  have hsq := sq_low (a := a) (b := b) (by omega) (by omega)
  have hsum := sum_bd (hp m (heapU m)) hh ((heapCs m).take i)
  have hts := take_sum (hp m (heapU m)) (heapCs m) i hlt
  have htq := take_sq (heapCs m) i hlt 0
  rw [← ha, ← hb, ← hz, ← hs] at hts
  rw [← hq] at htq
  have esq : sq (heapCs m)[i] = a * a + b * b := by rw [ha, hb]; rfl
  rw [esq] at htq
  have htl : ((heapCs m).take i).length ≤ 14641 := by rw [List.length_take]; omega
  have hsb : 0 ≤ s ∧ s ≤ 43923 := by rw [hs]; omega
  clear hs hsum htl
  have hi0 : (0 : Int) ≤ (i : Int) := by omega
  have hi1 : (i : Int) < (rows.length : Int) := by omega
  have f1 : i + 1 + d = rows.length := by omega
  have f2 : d + 15000 < k := by omega
  have f3 : rows.length + 20 < k := by omega
  have f4 : rows.length ≤ 1000000 := by omega
  have n3 : ¬ z < 0 := by omega
  have n4 : ¬ z > 3 := by omega
  have f5 : 0 ≤ a * a + b * b ∧ a * a + b * b ≤ 450 := by omega
  have g1 : a * a + b * b > q → ¬ q > a * a + b * b := fun g => by omega
  have g2 : ¬ a * a + b * b > q → (if q > a * a + b * b then q else a * a + b * b) = q := fun g => by split <;> omega
  obtain ⟨e2, w1, w2, w3, w4⟩ := heap_arith (i := i) (s := s) (z := z) (A := a * a) (B := b * b) (by omega) hsb hz3 hsq.1 hsq.2
  obtain ⟨t1, p1⟩ := xplace_some rows [wrap64 (-b), a, z] f4 (rows_three h) k f3
  obtain ⟨t2, p2⟩ := xplace_some rows [b, a, z] f4 (rows_three h) k f3
  have er' : GL.rd_L4 rows (i : Int) = [a, b, z] := by rw [hz]; exact er
  have n1 : ¬ t1 < 0 := h_turn h hi0 hi1 (y := [wrap64 (-b), a, z]) (by rw [er', rd3_0, rd3_1, rd3_2]) p1
  have n2 : ¬ t2 < 0 := h_swap h hi0 hi1 (y := [b, a, z]) (by rw [er', rd3_0, rd3_1, rd3_2]) p2
  rw [← hz] at er
  simp only [laws_FnLinesAndHeaps.l0]
  rw [if_pos hi1, if_pos hi0, if_pos hi1, er, rd3_0, rd3_1, rd3_2, len3, w1, w2, w3, w4, e2, if_pos rfl, if_pos (show (2 : Int) < 3 by decide), if_neg n3, if_neg n4, if_pos (show (0 : Int) < 3 by decide), if_pos (show (1 : Int) < 3 by decide), p1, p2]
  by_cases g : a * a + b * b > q
  ·rw [if_pos g, Option.bind_some, if_neg n1, Option.bind_some, if_neg n2]
   exact ih k (i + 1) _ _ f1 f2 hts.symm (htq.trans (if_neg (g1 g))).symm f5.1 f5.2
  ·rw [if_neg g, Option.bind_some, if_neg n1, Option.bind_some, if_neg n2]
   exact ih k (i + 1) _ _ f1 f2 hts.symm (htq.trans (g2 g)).symm hq0 hq1
theorem heap_part {l : List Int} (hb : Bytes l) {k : Nat} (hk : 40000 ≤ k) : laws_FnLinesAndHeaps.j2 k l = some true := by
 obtain ⟨m, hm⟩ := draw_heap hb
 obtain ⟨k, rfl⟩ : ∃ q, k = q + 1 + 1 := ⟨k - 2, by omega⟩
 simp only [laws_FnLinesAndHeaps.j2]
 rw [hm]
 simp only [Option.bind_some]
 unfold impl_HeapCells.f spec_HeapCells.f impl_HeapSquare.f spec_HeapSquare.f
 simp only [Option.bind_some, bne_self_eq_false, Bool.false_eq_true, if_false]
 have hl := G8.heapRows_len m
 have hr : ∀ r ∈ heapRows m, r.length ≤ 10 := fun r hr => by
  cases ho : okH0 m with
  | false => rw [G8.heapRows0 ho] at hr; cases hr
  | true => exact rows_three (m := m) (by unfold impl_HeapCells.f; rw [ho]) r hr
 rw [xrows_refl _ (by omega) hr _ (by omega)]
 simp only [Option.bind_some, if_true]
 cases ho : okH0 m with
 | false =>
  have : G8.okHeap m = false := by
   unfold okH0 at ho
   unfold G8.okHeap
   simp only [decide_eq_false_iff_not] at ho ⊢
   omega
  rw [if_neg (by decide), this]
  simp only [laws_FnLinesAndHeaps.j3, bne_self_eq_false, Bool.false_eq_true, if_false]
 | true =>
  have hm0 : 0 ≤ m ∧ m ≤ 250 := of_decide_eq_true ho
  have : G8.okHeap m = decide (m > 0) := by
   unfold G8.okHeap
   by_cases e : m > 0
   ·rw [decide_eq_true e, decide_eq_true (by omega)]
   ·rw [decide_eq_false e, decide_eq_false (by omega)]
  rw [if_pos rfl, this]
  simp only [laws_FnLinesAndHeaps.j3, bne_self_eq_false, Bool.false_eq_true, if_false, if_true]
  exact heap_l0 (m := m) (rows := heapRows m) (by unfold impl_HeapCells.f; rw [ho]) (heapRows m).length k 0 0 0 (by omega) (by omega) (by simp [sumC]) (by simp [sqF]) (by omega) (by omega)
theorem spec_steps_eq (n k : Int) : ∃ j, spec_LineSteps.f j n k = some (if okLine n k = true then (lineS n k).steps else 0, okLine n k) := by
 cases ho : okLine n k with
 | false =>
  refine ⟨0, ?_⟩
  unfold spec_LineSteps.f
  rw [G8.lined_eq, ho, Option.bind_some, if_neg (by decide)]
  rfl
 | true =>
  obtain ⟨_, _, j, hj⟩ := G8.line_f ho
  refine ⟨j, ?_⟩
  unfold spec_LineSteps.f
  rw [G8.lined_eq, ho, Option.bind_some, if_pos rfl, hj]
  rfl
theorem ends_few (n k : Int) : (endsV n k).length ≤ 2 := by unfold endsV; split <;> simp
theorem all_true {l0 l1 : List Int} (h0 : Bytes l0) (h1 : Bytes l1) : ∃ k, laws_FnLinesAndHeaps.f k l0 l1 = some true := by
 obtain ⟨n, c, hd⟩ := draw_line h0
 obtain ⟨ja, ea⟩ := G8.spec_LineEnds_eq n c
 obtain ⟨jb, eb⟩ := spec_steps_eq n c
 obtain ⟨k, hk⟩ : ∃ k, k = ja + jb + 50000 := ⟨_, rfl⟩
 refine ⟨k, ?_⟩
 have ea' : spec_LineEnds.f k n c = some (endsV n c, okEnds n c) := at_rounds (spec_LineEnds.mono n c) (by omega) ea
 have eb' : spec_LineSteps.f k n c = some (if okLine n c = true then (lineS n c).steps else 0, okLine n c) := at_rounds (spec_LineSteps.mono n c) (by omega) eb
 have hi : G8.impl_LineEnds.f n c = some (endsV n c, okEnds n c) := rfl
 have hs : G8.impl_LineSteps.f n c = some (if okLine n c = true then (lineS n c).steps else 0, okLine n c) := rfl
 obtain ⟨b, hbig⟩ : ∃ b, laws_big.f l0 l1 = some b := by unfold laws_big.f; split <;> exact ⟨_, rfl⟩
 unfold laws_FnLinesAndHeaps.f
 rw [hbig]
 simp only [Option.bind_some]
 cases b with
 | true => rfl
 | false =>
  rw [if_neg (by decide), hd]
  simp only [Option.bind_some]
  rw [hi, ea', hs, eb']
  simp only [Option.bind_some, bne_self_eq_false, Bool.false_eq_true, if_false]
  have hf := ends_few n c
  rw [xsame_refl _ (by omega) k (by omega)]
  simp only [Option.bind_some, if_true]
  obtain ⟨k, rfl⟩ : ∃ q, k = q + 1 + 1 := ⟨k - 2, by omega⟩
  have hheap := heap_part h1 (k := k + 1) (by omega)
  have hheap2 := heap_part h1 (k := k) (by omega)
  have hj0 : ∀ s : Int, s = (if okLine n c = true then (lineS n c).steps else 0) → laws_FnLinesAndHeaps.j0 (k + 1 + 1) l1 n c (endsV n c) (okEnds n c) s false = some true := fun s hsv => by
   simp only [laws_FnLinesAndHeaps.j0, Bool.false_eq_true, if_false]
   cases ho : okEnds n c with
   | false => rw [if_neg (by decide)]; exact hheap
   | true =>
    have H : G8.impl_LineEnds.f n c = some (endsV n c, true) := by rw [hi, ho]
    have hl := e_len H
    rw [if_pos rfl, if_pos hl, if_pos (by omega), if_pos (by omega), if_pos (e_far H), if_neg (e_low H), decide_eq_false (e_high H)]
    simp only [laws_FnLinesAndHeaps.j1, Bool.false_eq_true, if_false]
    obtain ⟨⟨l2, b2⟩, H2⟩ : ∃ r, G8.impl_LineEnds.f n (wrap64 (1 - c)) = some r := ⟨_, rfl⟩
    obtain ⟨⟨s2, b3⟩, H3⟩ : ∃ r, G8.impl_LineSteps.f n (wrap64 (1 - c)) = some r := ⟨_, rfl⟩
    have hl2 := m_len H H2
    rw [H2, H3]
    simp only [Option.bind_some]
    rw [if_pos (by omega), if_pos (by omega), if_pos (m_ok H H2), if_pos (by omega), if_pos (m_0 H H2), if_pos (by omega), if_pos (m_1 H H2), if_pos (m_fine H H3), if_pos (by rw [hsv]; exact m_steps H H3 hs), if_neg (m_mid H).1, if_neg (m_mid H).2]
    exact hheap2
  have hv : (okEnds n c != decide (n > 0)) = false ∨ okLine n c = false := by
   cases ho : okLine n c with
   | false => exact .inr rfl
   | true =>
    left
    have := line_rng ho
    unfold okEnds
    rw [ho]
    by_cases e : n = 0
    ·rw [e]; rfl
    ·rw [decide_eq_false e, decide_eq_true (by omega)]; rfl
  have hw : okLine n c = false → okEnds n c = false := fun ho => by unfold okEnds; rw [ho]; rfl
  cases ho : okLine n c with
  | true =>
   rw [if_pos rfl]
   rcases hv with hv | hv
   ·rw [hv]
    exact hj0 _ (by rw [ho])
   ·rw [hv] at ho; cases ho
  | false =>
   rw [if_neg (by decide), hw ho]
   have := hj0 _ rfl
   rw [hw ho, ho] at this
   exact this
end Go.Proofs.Ytjedhjeijpbobaa.H8
namespace Go.Proofs.Ytjedhjeijpbobaa.Pure
open Go.RowKit GM YtjedhjeijpbobaaW.PrintWords
theorem bytes_of {l : List Int} (h : ∀ x ∈ l, (Lit.int .u8 x).wf = true) : H8.Bytes l := fun x hx => by
 have := h x hx
 simp [Lit.wf, IntKind.min, IntKind.max, IntKind.signed, IntKind.bits] at this
 omega
theorem FnLinesAndHeaps : laws_FnLinesAndHeaps.Pure := by
 intro l0 l1 _ _ h0 _ _ h1
 exact H8.all_true (bytes_of h0) (bytes_of h1)
end Go.Proofs.Ytjedhjeijpbobaa.Pure
