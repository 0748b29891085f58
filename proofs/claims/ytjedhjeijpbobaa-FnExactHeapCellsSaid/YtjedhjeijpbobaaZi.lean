/-
  The program's cells in order, as rows: walked. The reference's rows in order: gwSorted, walked. Both orders alike: the reference's rows in order are the program's. The grown cells in order: both sides walked; the law.
-/
import Derived.Test.YtjedhjeijpbobaaZg
import Derived.Test.YtjedhjeijpbobaaZh
import Derived.Test.YtjedhjeijpbobaaZd
/-! ## Sf -/
namespace Go.Proofs.Ytjedhjeijpbobaa.G8
open Go.RowKit Go.Maps Go.Proofs.YtjedhjeijpbobaaW.PrintWords Go.Proofs.YtjedhjeijpbobaaW.PrintLast Go.Proofs.YtjedhjeijpbobaaW.PrintMore
open Go.Proofs.Ytjedhjeijpbobaa.GA
set_option linter.unusedVariables false
set_option linter.unusedSimpArgs false
theorem RowsD.base {w : World} {base : Nat} {vc : Value} {rows : List (List Int)} (h : RowsD w base vc rows) (k : Nat) (hk : vc.ownBlock = some k) : base ≤ k ∧ k < w.heap.size := by
  obtain ⟨L, h1, _⟩ := h
  exact ⟨own_base h1 k hk, own_lt h1 k hk⟩
theorem wpList_appD {ops : Array Oper} {rest : List Oper} {o : Oper} {a : Act} {Q : Exit → Act → World → Prop} {W0 W : World} {base : Nat} {vc v : Value} {rows : List (List Int)} {r : List Int} {C : Nat} (hgd : o.guard = none) (sv xv : Operand) (ho : o.op = .call { callee := .builtin .append, args := #[sv, xv], argTypes := #[40, 40] })
    (hs : a.eval sv = vc) (hx : a.eval xv = .slice (some ⟨C, 0, none⟩) 1 1) (h : RowsD W0 base vc rows) (hk : ∀ b, b < W0.heap.size → W.heap[b]? = W0.heap[b]?) (hsz : W0.heap.size ≤ W.heap.size) (hbase : base ≤ W0.heap.size) (hl : rows.length ≤ 1000000)
    (hv : W.ownsRow base 3 1 v r.length (encI r)) (hf : ∀ k, v.ownBlock = some k → W0.heap.size ≤ k) (h1c : v.oneCell' = true) (hC : W.heap[C]? = some (.cells #[v] 29 (0, 0)))
    (k : ∀ g1 cap w1, RowsD w1 base (.slice (some ⟨g1, 0, none⟩) (rows.length + 1) cap) (rows ++ [r]) → Below base W w1 → W.grownBy w1 vc.ownBlock → (vc.ownBlock = some g1 ∨ g1 = W.heap.size) →
      wpList Try.prog ops Q rest (a.put o.dst (.slice (some ⟨g1, 0, none⟩) (rows.length + 1) cap)) w1) : wpList Try.prog ops Q (o :: rest) a W := by
  obtain ⟨i0, hi0, hz⟩ := Option.map_eq_some_iff.1 info29
  simp only [Prod.mk.injEq] at hz
  obtain ⟨hz0, hz1, hz2⟩ := hz
  obtain ⟨L, hL, hE⟩ := h
  have hL2 : W.ownsRow base 29 1 vc rows.length L := own_move hL fun b hb => hk b (own_lt hL b hb)
  refine wpList_append_lies (w := W) hgd sv xv 40 ho base 29 i0 (.slice none 0 0) 1 24 Try.underlying40 hi0 hz0 hz1 hz2 rfl (by omega) vc rows.length L hs hL2 ⟨C, 0, none⟩ 1 1 [v] hx rfl (World.news_of_block hC) (by intro u hu; simp at hu; subst hu; exact h1c) (by omega) (by unfold maxLen; omega) (by omega) (by omega) _ rfl ?_
  intro g1 cap w1 hown hg hat hlt
  refine k g1 cap w1 (RowsD.app hL hE (own_move hv fun b hb => ?_) hf hown fun b hb hne => (hg.block b (by omega) hne).trans (hk b hb)) ((Below.refl base W).grown hg (by omega) (own_base hL2)) hg hat
  refine hg.block b (own_lt hv b hb) fun c => ?_
  obtain ⟨c1, e1⟩ := own_typed hv b hb
  obtain ⟨c2, e2⟩ := own_typed hL2 b c.symm
  rw [e1] at e2
  simp at e2
/-- Cells, as rows of two. -/
def pairs (zs : List (Int × Int)) : List (List Int) := zs.map fun c => [c.1, c.2]
theorem pairs_len (zs : List (Int × Int)) : (pairs zs).length = zs.length := by unfold pairs; simp
theorem cells_at {w : World} {base : Nat} {vc : Value} {cs : List (Int × Int)} (h : w.ownsRow base 76 2 vc cs.length (flat cs)) (hp : 0 < cs.length) : ∃ g cap, vc = .slice (some ⟨g, 0, none⟩) cs.length cap ∧ ∀ (i : Nat) (c : Int × Int), cs[i]? = some c → w.cell? ⟨g, i * 2, none⟩ = some (.int .i64 c.1) ∧ w.cell? ⟨g, i * 2 + 1, none⟩ = some (.int .i64 c.2) := by
  rcases h.2 with ⟨_, h2⟩ | ⟨g, cap, cur, h1, _, hh, h3, _, h5, h6⟩
  · omega
  · refine ⟨g, cap, h1, fun i c hc => ?_⟩
    have hi := (List.getElem?_eq_some_iff.1 hc).1
    obtain ⟨f0, f1⟩ := flat_get cs i c hc
    have aux : ∀ j, j < cs.length * 2 → cur[j]? = (flat cs)[j]? := fun j hj => by rw [← h6, List.getElem?_take_of_lt hj, Array.getElem?_toList]
    exact ⟨(blk_cell hh _).trans ((aux _ (by omega)).trans f0), (blk_cell hh _).trans ((aux _ (by omega)).trans f1)⟩
/-- What comes back: rows of the cells in order. -/
theorem own_far {W w1 : World} {base : Nat} {v : Value} {o : Option Nat} {n : Nat} {xs : List Value} (hg : W.grownBy w1 o) (h : W.ownsRow base 76 2 v n xs) (hne : ∀ k, v.ownBlock = some k → some k ≠ o) : w1.ownsRow base 76 2 v n xs :=
  own_move h fun k hk => hg.block k (own_lt h k hk) (hne k hk)
theorem RowsD.apart29 {w : World} {base b2 n : Nat} {vc v : Value} {rows : List (List Int)} {xs : List Value} (h : RowsD w base vc rows) (ho : w.ownsRow b2 76 2 v n xs) : ∀ k, v.ownBlock = some k → some k ≠ vc.ownBlock := fun k hk c => by
  obtain ⟨L, h1, _⟩ := h
  obtain ⟨c1, e1⟩ := own_typed ho k hk
  obtain ⟨c2, e2⟩ := own_typed h1 k c.symm
  rw [e1] at e2
  simp at e2
def RowsOut (w : World) (rows : List (List Int)) (e : Ending) (w' : World) : Prop := ∃ vc, e = .returned vc ∧ Below w.heap.size w w' ∧ Aside0 (RowsD w' w.heap.size vc rows)
theorem pairs_snoc {S : List (Int × Int)} {i : Nat} (hi : i < S.length) : pairs (S.take (i + 1)) = pairs (S.take i) ++ [[S[i].1, S[i].2]] := by
  unfold pairs
  rw [List.take_succ_eq_append_getElem hi, List.map_append]
  rfl
theorem own_two (W : World) (a b : Int) (base : Nat) (hb : base ≤ W.heap.size) (o : Obj) : (((W.alloc (.cells #[.int .i64 a, .int .i64 b] 3)).alloc o).ownsRow base 3 1 (.slice (some ⟨W.heap.size, 0, none⟩) 2 2) [a, b].length (encI [a, b])) :=
  ⟨rfl, .inr ⟨W.heap.size, 2, _, rfl, hb, two_new W _ _, Nat.le_refl _, by unfold maxLen; simp, rfl, rfl⟩⟩
theorem CellsIn.mono {n₀ n₁ : Nat} {W : World} {A : Option Addr} {zs : List (Int × Int)} (h : CellsIn n₀ W A zs) (hn : n₀ ≤ n₁) : CellsIn n₁ W A zs := fun k z hk => by
  obtain ⟨b, h1, h2, h3⟩ := h k z hk
  exact ⟨b, h1, by omega, h3⟩
theorem cellsIn_two {w : World} {A : Option Addr} {zs : List (Int × Int)} (h : CellsIn w.heap.size w A zs) (o p : Obj) : CellsIn ((w.alloc o).alloc p).heap.size ((w.alloc o).alloc p) A zs :=
  (h.below (((Below.refl w.heap.size w).alloc (Nat.le_refl _) o).alloc (by simp) p)).mono (by simp; omega)
theorem own_empty {w w1 : World} {base : Nat} (hb : base ≤ w.heap.size) (hB : Below (w.heap.size + 1) (w.alloc (.cells #[] 29)) w1) : RowsD w1 base (.slice (some ⟨w.heap.size, 0, none⟩) 0 0) [] :=
  ⟨[], ⟨rfl, .inr ⟨w.heap.size, 0, #[], rfl, hb, (hB.block w.heap.size (by omega)).trans (blk_new w _), Nat.le_refl _, by unfold maxLen; simp, rfl, rfl⟩⟩, fun i r h => by simp at h, fun i j v u k h => by simp at h⟩
set_option maxHeartbeats 4000000 in
set_option maxRecDepth 100000 in
theorem sorted_calls (A : Option Addr) (cap : Nat) (zs : List (Int × Int)) (hlen : zs.length ≤ 900000) (w : World) (hI : CellsIn w.heap.size w A zs) : Calls Try.prog 84 #[.slice A zs.length cap] w (RowsOut w (pairs (sortC zs))) := by
  have hu76 := Try.underlying76
  have HI := Aside0.mk hI
  clear hI
  have hsl : (sortC zs).length = zs.length := sortC_len zs
  obtain ⟨S, hS⟩ : ∃ S, S = sortC zs := ⟨_, rfl⟩
  have HS0 := Aside0.mk hS
  rw [← hS] at hsl ⊢
  clear hS
  have HF := Aside0.mk (sortedFunc_calls (w.heap.size + 1) cap A zs (by omega) ((w.alloc (.cells #[] 29)).alloc (.cells #[.slice A zs.length cap] 68)) (by simp) (blk_cell (two_new1 w _ _) 0) (cellsIn_two HI.out _ _))
  go_enter Try.func84, Try.ntmps84
  go_wp2_with (first | (go_at_call 101; refine (values_calls _ _ _ _).mono ?_; rintro e w1 ⟨rfl, hw1⟩; replace hw1 := hw1.symm; subst hw1) | (go_at_call 100; refine HF.out.mono ?_; rintro e w2 ⟨v, rfl, ho, hB⟩; obtain ⟨Av, cv, hv⟩ := own_slice ho; subst hv))
  have HB0 : Aside0 (Below (w.heap.size + 1) (w.alloc (.cells #[] 29)) w2) := ⟨below_then ((Below.refl (w.heap.size + 1) (w.alloc (.cells #[] 29))).alloc (by simp) _) (by simp) hB⟩
  have HBw : Aside0 (Below w.heap.size w w2) := ⟨below_then (((Below.refl w.heap.size w).alloc (Nat.le_refl _) _).alloc (by simp) _) (by simp; omega) hB⟩
  have HD0 : Aside0 (RowsD w2 w.heap.size (.slice (some ⟨w.heap.size, 0, none⟩) 0 0) []) := ⟨own_empty (Nat.le_refl _) HB0.out⟩
  have HO : Aside0 (w2.ownsRow w.heap.size 76 2 (.slice Av S.length cv) S.length (flat S)) := ⟨by rw [hsl]; have := own_weaken ho (show w.heap.size ≤ _ by simp; omega); rwa [← HS0.out] at this⟩
  have hSl : S.length ≤ 900000 := by omega
  rw [← hsl]
  clear ho hB HB0 HF HI hsl
  go_loopg [3, 11] S.length (fun m v3 v11 wr => ∃ (i : Nat) (vo : Value), v3 = vo ∧ v11 = .int .i64 (i : Int) ∧ Aside0 (i + m = S.length) ∧ Aside0 (RowsD wr w.heap.size vo (pairs (S.take i))) ∧ Aside0 (wr.ownsRow w.heap.size 76 2 (.slice Av S.length cv) S.length (flat S)) ∧ Aside0 (Below w.heap.size w wr))
  case atStart => exact ⟨0, _, rfl, rfl, ⟨by omega⟩, HD0, HO, HBw⟩
  case round =>
    clear HD0 HO HBw
    obtain ⟨i, vo, hvo, rfl, HI, HD, HO, HB⟩ := hrel
    replace hvo := hvo.symm
    subst hvo
    cases gk with
    | zero =>
      have hi : ¬ ((i : Int) < (S.length : Int)) := by have := HI.out; omega
      have HE : Aside0 (S.take i = S) := ⟨List.take_of_length_le (by have := HI.out; omega)⟩
      go_wp2_with (fail)
      refine bodyPost_ret (v := vo) (by simp [results, Try.results84, go_sem]) rfl ?_
      exact ⟨vo, rfl, HB.out, ⟨by have := HD.out; rwa [HE.out] at this⟩⟩
    | succ m =>
      have hin : i < S.length := by have := HI.out; omega
      have hi : (i : Int) < (S.length : Int) := by omega
      have hw := wrap_id (x := (i : Int) + 1) (by omega) (by omega)
      obtain ⟨g, cap2, hA, hE⟩ := cells_at HO.out (by omega)
      injection hA with hA hA2 hA3
      clear hA2
      subst hA hA3
      obtain ⟨q0, q1⟩ := hE i S[i] (List.getElem?_eq_getElem hin)
      have HP := Aside0.mk (pairs_snoc hin)
      have hpl : (pairs (S.take i)).length ≤ 1000000 := by rw [pairs_len, List.length_take]; omega
      clear hE
      obtain ⟨c, hc⟩ : ∃ c, c = S[i] := ⟨_, rfl⟩
      rw [← hc] at HP q0 q1
      clear hc
      have hs1 := HB.out.size
      go_upto_region 5 with (fail)
      have HDa := Aside0.mk (HD.out.alloc (.cells #[.int .i64 c.1, .int .i64 c.2] 76))
      have HBa := Aside0.mk (HB.out.alloc hs1 (.cells #[.int .i64 c.1, .int .i64 c.2] 76))
      have HOa := Aside0.mk (own_alloc HO.out (.cells #[.int .i64 c.1, .int .i64 c.2] 76))
      have hb0 := blk_new wr (.cells #[.int .i64 c.1, .int .i64 c.2] 76)
      have hs2 : Aside0 ((wr.alloc (.cells #[.int .i64 c.1, .int .i64 c.2] 76)).heap.size = wr.heap.size + 1) := ⟨by simp⟩
      clear HD HB HO q0 q1
      generalize wr.alloc (.cells #[.int .i64 c.1, .int .i64 c.2] 76) = wa at *
      have x0 := blk_cell hb0 0
      have x1 := blk_cell hb0 1
      simp only [List.getElem?_toArray, List.getElem?_cons_succ, List.getElem?_cons_zero] at x0 x1
      have hbw : w.heap.size ≤ wa.heap.size := by have := hs2.out; omega
      have HR2 := Aside0.mk (own_two wa c.1 c.2 w.heap.size (by omega) (.cells #[.slice (some ⟨wa.heap.size, 0, none⟩) 2 2] 29))
      go_wp2_with (first | ((with_reducible refine gate_builtin (b := .append) (xs := #[.tmp 15, .tmp 21]) rfl ?_); first | (refine wpList_appD rfl (.tmp 15) (.tmp 21) rfl rfl rfl HDa.out (fun b hb => ((MapKept.heap_alloc _ _).2 b (by simp; omega)).trans ((MapKept.heap_alloc wa _).2 b hb)) (by simp; omega) (by omega) hpl HR2.out (by intro k hk; simp [Value.ownBlock] at hk; omega) rfl (two_new1 wa _ _) ?_; intro g1 cap1 w11 hR hB hgr _; have HR11 := Aside0.mk hR; have HB11 := Aside0.mk hB; have HG11 := Aside0.mk hgr; have HO11 : Aside0 (w11.ownsRow w.heap.size 76 2 (.slice (some ⟨g, 0, none⟩) S.length cv) S.length (flat S)) := ⟨own_far hgr (own_alloc (own_alloc HOa.out _) _) (HDa.out.apart29 HOa.out)⟩; clear hR hB hgr) | (at_builtin; refine wpList_appD rfl (.tmp 15) (.tmp 21) rfl rfl rfl HDa.out (fun b hb => ((MapKept.heap_alloc _ _).2 b (by simp; omega)).trans ((MapKept.heap_alloc wa _).2 b hb)) (by simp; omega) (by omega) hpl HR2.out (by intro k hk; simp [Value.ownBlock] at hk; omega) rfl (two_new1 wa _ _) ?_; intro g1 cap1 w11 hR hB hgr _; have HR11 := Aside0.mk hR; have HB11 := Aside0.mk hB; have HG11 := Aside0.mk hgr; have HO11 : Aside0 (w11.ownsRow w.heap.size 76 2 (.slice (some ⟨g, 0, none⟩) S.length cv) S.length (flat S)) := ⟨own_far hgr (own_alloc (own_alloc HOa.out _) _) (HDa.out.apart29 HOa.out)⟩; clear hR hB hgr)))
      go_roundg m
      case measure => omega
      case rel => exact ⟨i + 1, _, rfl, by first | rfl | go_num, ⟨by have := HI.out; omega⟩, ⟨by rw [HP.out]; exact HR11.out⟩, HO11, ⟨HBa.out.trans (((Below.refl w.heap.size wa).alloc hbw _).alloc (by simp; omega) _ |>.trans HB11.out)⟩⟩
end Go.Proofs.Ytjedhjeijpbobaa.G8

/-! ## Sg -/
namespace Go.Proofs.Ytjedhjeijpbobaa.G8
open Go.RowKit Go.Maps Go.Proofs.YtjedhjeijpbobaaW.PrintWords Go.Proofs.YtjedhjeijpbobaaW.PrintLast Go.Proofs.YtjedhjeijpbobaaW.PrintMore
open Go.Proofs.Ytjedhjeijpbobaa.GA
open Go.Proofs.Ytjedhjeijpbobaa.GJ (spec_trLess.f spec_trLess.l0 spec_trLess.calls)
set_option linter.unusedVariables false
set_option linter.unusedSimpArgs false
/-- A row of numbers that lies in a world which is behind us. -/
def rowIn (w0 : World) (b0 : Nat) (r : List Int) (cs : List Value) : Prop := ∃ v, cs = [v] ∧ v.oneCell' = true ∧ w0.ownsRow b0 3 1 v r.length (encI r)
def kW (w0 : World) (b0 : Nat) : Kd (List Int) where
  sz := 1
  E := []
  K := fun _ r cs => rowIn w0 b0 r cs
  M := fun _ _ _ r cs => rowIn w0 b0 r cs
  K_len := fun h => by obtain ⟨v, rfl, _⟩ := h; rfl
  K_one := fun h u hu => by
    obtain ⟨v, rfl, h1, _⟩ := h
    rw [List.mem_singleton.1 hu]
    exact h1
  K_below := fun _ h => h
  K_of_M := fun h => h
  M_mono := fun _ h => h
  M_bound := fun h => h
  M_move := fun _ h => h
  M_lower := fun _ h => h
theorem oneCell_own {w : World} {base n : Nat} {e : TypeId} {size : Nat} {v : Value} {xs : List Value} (h : w.ownsRow base e size v n xs) : v.oneCell' = true := by
  rcases h.2 with ⟨rfl, _⟩ | ⟨g, cap, cur, rfl, _⟩ <;> rfl
/-- Rows that the call has made, for one that only looks at them. -/
theorem RowsD.toW {w : World} {base : Nat} {vc : Value} {rows : List (List Int)} (h : RowsD w base vc rows) : ∃ A c, vc = .slice A rows.length c ∧ rows.length ≤ c ∧ (kW w base).C w A rows.length rows := by
  obtain ⟨L, h1, h2⟩ := h
  have hn : L.length = rows.length := by have := own_len h1; omega
  have hR : Reps (fun p c => (kW w base).K w p c) 1 rows L := ⟨by omega, fun j p hp => by
    obtain ⟨v, q1, q2⟩ := h2.1 j p hp
    refine ⟨v, ?_, oneCell_own q2, q2⟩
    have hj := (List.getElem?_eq_some_iff.1 q1).1
    have e : L[j] = v := by rw [List.getElem?_eq_getElem hj] at q1; exact Option.some.inj q1
    rw [Nat.mul_one, List.drop_eq_getElem_cons hj, e]
    rfl⟩
  obtain ⟨A, c, he, hr⟩ := own_reads_row h1 hR rfl
  refine ⟨A, c, he, ?_, hr⟩
  rcases h1.2 with ⟨e1, e2⟩ | ⟨g, cap, cur, e1, _, _, e3, _⟩
  · rw [e1] at he
    injection he with _ e2 e3
    omega
  · rw [e1] at he
    injection he with _ e4 e5
    omega
/-! ### in order -/
def lessR : List Int → List Int → Bool
  | a :: ra, b :: rb => if a = b then lessR ra rb else decide (a < b)
  | _, _ => false
theorem less_two {r s : List Int} (hr : r.length = 2) (hs : s.length = 2) : spec_trLess.f 3 r s = some (lessR r s) := by
  obtain ⟨a, b, rfl⟩ : ∃ a b, r = [a, b] := by
    match r, hr with
    | [a, b], _ => exact ⟨a, b, rfl⟩
  obtain ⟨c, d, rfl⟩ : ∃ a b, s = [a, b] := by
    match s, hs with
    | [a, b], _ => exact ⟨a, b, rfl⟩
  have e1 : wrap64 ((0 : Int) + 1) = 1 := wrap_id (by omega) (by omega)
  have e2 : wrap64 ((1 : Int) + 1) = 2 := wrap_id (by omega) (by omega)
  unfold spec_trLess.f
  simp only [spec_trLess.l0, rd, e1, e2, List.length_cons, List.length_nil, lessR]
  by_cases h1 : a = c
  · by_cases h2 : b = d
    · subst h1 h2; simp
    · subst h1; simp [h2]
  · simp [h1]
def insK (c : List Int) (out : List (List Int)) : Nat → Nat
  | 0 => 0
  | k + 1 => if lessR c (out.getD k []) = true then insK c out k else k + 1
theorem insK_le (c : List Int) (out : List (List Int)) : ∀ k, insK c out k ≤ k
  | 0 => Nat.le_refl _
  | k + 1 => by
    unfold insK
    split
    · have := insK_le c out k; omega
    · exact Nat.le_refl _
def insR (out : List (List Int)) (c : List Int) : List (List Int) := out.take (insK c out out.length) ++ [c] ++ out.drop (insK c out out.length)
def gwS (rows : List (List Int)) : List (List Int) := rows.foldl insR []
theorem insR_len (out : List (List Int)) (c : List Int) : (insR out c).length = out.length + 1 := by
  unfold insR
  have := insK_le c out out.length
  simp
  omega
theorem insR_mem (out : List (List Int)) (c : List Int) (h : ∀ r ∈ out, r.length = 2) (hc : c.length = 2) : ∀ r ∈ insR out c, r.length = 2 := fun r hr => by
  unfold insR at hr
  simp only [List.mem_append, List.mem_singleton] at hr
  rcases hr with (hr | rfl) | hr
  · exact h r (List.mem_of_mem_take hr)
  · exact hc
  · exact h r (List.mem_of_mem_drop hr)
theorem gwS_snoc {rows : List (List Int)} {i : Nat} (hi : i < rows.length) : gwS (rows.take (i + 1)) = insR (gwS (rows.take i)) rows[i] := by
  unfold gwS
  rw [List.take_succ_eq_append_getElem hi, List.foldl_append]
  rfl
def SortW (w : World) (b0 : Nat) (rows : List (List Int)) (e : Ending) (w' : World) : Prop := ∃ vc, e = .returned vc ∧ Below w.heap.size w w' ∧ Aside0 (Kd.R (kW w b0) 29 w' w.heap.size (fun _ => True) vc (gwS rows))
/-- An element, as the walk reads it. -/
theorem at_W {w0 w : World} {b0 n : Nat} {A : Option Addr} {xs : List (List Int)} (h : (kW w0 b0).C w A n xs) {i : Nat} (hi : i < xs.length) : ∃ ad v, A = some ad ∧ w.cell? (ad.add i) = some v ∧ w0.ownsRow b0 3 1 v xs[i].length (encI xs[i]) := by
  obtain ⟨ad, c, e, _, hK, hc0⟩ := Kd.C_get h ([] : List Int) (i : Int) (by omega) (by have := h.1; omega)
  have hc : ∀ j u, c[j]? = some u → w.cell? (ad.add (i * 1 + j)) = some u := hc0
  obtain ⟨v, rfl, h1, h2⟩ := hK
  refine ⟨ad, v, e, by have hq := hc 0 _ rfl; rwa [Nat.mul_one, Nat.add_zero] at hq, ?_⟩
  rw [Int.toNat_natCast, List.getD_eq_getElem?_getD, List.getElem?_eq_getElem hi] at h2
  exact h2
theorem gwS_two {rows : List (List Int)} (h : ∀ r ∈ rows, r.length = 2) (i : Nat) : (∀ r ∈ gwS (rows.take i), r.length = 2) ∧ (i ≤ rows.length → (gwS (rows.take i)).length = i) := by
  induction i with
  | zero => exact ⟨fun r hr => by simp [gwS] at hr, fun _ => by simp [gwS]⟩
  | succ i ih =>
    by_cases hi : i < rows.length
    · rw [gwS_snoc hi]
      exact ⟨insR_mem _ _ ih.1 (h _ (List.getElem_mem hi)), fun _ => by rw [insR_len, ih.2 (by omega)]⟩
    · have e : rows.take (i + 1) = rows.take i := by rw [List.take_of_length_le (by omega), List.take_of_length_le (by omega)]
      rw [e]
      exact ⟨ih.1, fun h => by omega⟩
theorem cut40_to (A : Option Addr) (n c m : Nat) (j : Int) (hj : j = (m : Int)) (h1 : m ≤ n) (h2 : n ≤ c) : ∀ W : World, (Instr.slice 40 (.slice A n c) none (some (.int .i64 j)) none).run Try.prog W = .ok (.slice A m c) W := by
  obtain ⟨i0, hi0, hz⟩ := Option.map_eq_some_iff.1 info29
  intro W
  subst hj
  have := cut_to (P := Try.prog) 40 29 .i64 Try.underlying40 hi0 A n c (m : Int) (by omega) (by omega) h2 W
  simpa using this
theorem cut40_from (A : Option Addr) (n c m : Nat) (j : Int) (hj : j = (m : Int)) (h1 : m ≤ n) : ∀ W : World, (Instr.slice 40 (.slice A n c) (some (.int .i64 j)) none none).run Try.prog W = .ok (.slice (if c = m then A else A.map (·.add m)) (n - m) (c - m)) W := by
  obtain ⟨i0, hi0, hz⟩ := Option.map_eq_some_iff.1 info29
  simp only [Prod.mk.injEq] at hz
  intro W
  subst hj
  have := cut_from (P := Try.prog) 40 29 .i64 Try.underlying40 hi0 1 hz.2.1 A n c (m : Int) (by omega) (by omega) W
  simpa using this
theorem cutFrom {w w0 : World} {b0 c : Nat} {A : Option Addr} {xs : List (List Int)} (h : (kW w0 b0).C w A xs.length xs) (hc : xs.length ≤ c) (m : Nat) (j : Int) (hj : j = (m : Int)) (h1 : m ≤ xs.length) :
    ∃ (A2 : Option Addr) (n2 c2 : Nat), (∀ W : World, (Instr.slice 40 (.slice A xs.length c) (some (.int .i64 j)) none none).run Try.prog W = .ok (.slice A2 n2 c2) W) ∧ Aside0 (∀ W, Below w.heap.size w W → (kW w0 b0).C W A2 n2 (xs.drop m)) ∧ Aside0 (n2 ≤ xs.length) := by
  refine ⟨_, _, _, cut40_from A xs.length c m j hj h1, ⟨fun W hb => ?_⟩, ⟨Nat.sub_le _ _⟩⟩
  have := Kd.C_drop (Kd.C_below h hb) h1 hc
  rw [List.length_drop] at this
  simpa [kW] using this
theorem kW_fresh {w0 W : World} {b0 base : Nat} (hb : base ≤ W.heap.size) : Kd.R (kW w0 b0) 29 (W.alloc (.cells #[] 29)) base (fun _ => True) (.slice (some ⟨W.heap.size, 0, none⟩) 0 0) [] :=
  ⟨fun _ _ => trivial, [], ⟨rfl, .inr ⟨W.heap.size, 0, #[], rfl, hb, blk_new _ _, Nat.le_refl _, by unfold maxLen; simp, rfl, rfl⟩⟩, Reps.none _ _⟩
theorem kW_one {w0 W : World} {b0 C : Nat} {v : Value} {r : List Int} (h : w0.ownsRow b0 3 1 v r.length (encI r)) (hC : W.heap[C]? = some (.cells #[v] 29 (0, 0))) : (kW w0 b0).C W (some ⟨C, 0, none⟩) 1 [r] := by
  refine ⟨rfl, by decide, fun _ => ⟨_, rfl, fun j p hj => ?_⟩⟩
  match j, hj with
  | 0, hj =>
    cases hj
    refine ⟨[v], rfl, ⟨v, rfl, oneCell_own h, h⟩, fun i u hu => ?_⟩
    match i, hu with
    | 0, hu =>
      cases hu
      exact blk_cell hC 0
set_option maxHeartbeats 4000000 in
set_option maxRecDepth 100000 in
theorem gwSorted_calls (A : Option Addr) (cap : Nat) (rows : List (List Int)) (b0 : Nat) (w : World) (hC : (kW w b0).C w A rows.length rows) (h2 : ∀ r ∈ rows, r.length = 2) (hcap : rows.length ≤ cap) (hlen : rows.length ≤ 900000) : Calls Try.prog 85 #[.slice A rows.length cap] w (SortW w b0 rows) := by
  have HC := Aside0.mk hC
  have H2 := Aside0.mk h2
  clear hC h2
  go_enter Try.func85, Try.ntmps85
  go_wp2_with (fail)
  go_loopg [3, 10] rows.length (fun m v3 v10 wr => ∃ (i : Nat) (vo : Value), v3 = vo ∧ v10 = .int .i64 (i : Int) ∧ Aside0 (i + m = rows.length) ∧ Aside0 (Kd.R (kW w b0) 29 wr w.heap.size (fun _ => True) vo (gwS (rows.take i))) ∧ Aside0 (Below w.heap.size w wr))
  case atStart => exact ⟨0, _, rfl, rfl, ⟨by omega⟩, ⟨Kd.R_nil _ _ _ _ _⟩, ⟨by repeat (first | exact Below.refl _ _ | apply pw_below_drewN)⟩⟩
  case round =>
    obtain ⟨i, vo, hvo, rfl, HI, HR, HB⟩ := hrel
    replace hvo := hvo.symm
    subst hvo
    cases gk with
    | zero =>
      have hi : ¬ ((i : Int) < (rows.length : Int)) := by have := HI.out; omega
      have HR2 : Aside0 (Kd.R (kW w b0) 29 wr w.heap.size (fun _ => True) vo (gwS rows)) := ⟨by have := HR.out; rwa [List.take_of_length_le (by have := HI.out; omega)] at this⟩
      clear HR
      go_wp2_with (fail)
      refine bodyPost_ret (v := vo) (by simp [results, Try.results85, go_sem]) rfl ?_
      exact ⟨vo, rfl, HB.out, HR2⟩
    | succ m =>
      have hin : i < rows.length := by have := HI.out; omega
      have hi : (i : Int) < (rows.length : Int) := by omega
      have hw := wrap_id (x := (i : Int) + 1) (by omega) (by omega)
      obtain ⟨c, hc⟩ : ∃ c, c = rows[i] := ⟨_, rfl⟩
      obtain ⟨ad, vr, hA, hcell, hown⟩ := at_W (Kd.C_below HC.out HB.out) hin
      subst hA
      have hrow := Aside0.mk hown
      obtain ⟨Ar, cr, hvr, hcr, hCr⟩ := rowI_reads (own_move hown fun k hk => HB.out.block k (own_lt hown k hk))
      rw [← hc] at hvr hcr hCr hrow
      have HCr := Aside0.mk (And.intro hcr hCr)
      have hc2 : Aside0 (c.length = 2) := ⟨by rw [hc]; exact H2.out _ (List.getElem_mem hin)⟩
      have HN : Aside0 (gwS (rows.take (i + 1)) = insR (gwS (rows.take i)) c) := ⟨by rw [hc]; exact gwS_snoc hin⟩
      obtain ⟨ho2, hol⟩ := gwS_two H2.out i
      have HOL := Aside0.mk (hol (by omega))
      clear hol
      have HO2 := Aside0.mk ho2
      clear hown hcr hCr hc ho2
      generalize gwS (rows.take i) = out at *
      obtain ⟨A, co, hvo, hco, hCo⟩ := Kd.R_reads HR.out
      subst hvo
      subst hvr
      have HCo := Aside0.mk hCo
      clear hCo
      go_upto_region 6 with (fail)
      obtain ⟨Wo, hWo⟩ : ∃ W, W = wr := ⟨wr, rfl⟩
      subst hWo
      go_loopg [6] out.length (fun k v6 wq => v6 = .int .i64 (k : Int) ∧ Aside0 (insK c out k = insK c out out.length) ∧ Aside0 (k ≤ out.length) ∧ Aside0 (∃ nn, wq = Wo.drewN nn))
      case atStart => exact ⟨rfl, ⟨rfl⟩, ⟨Nat.le_refl _⟩, ⟨0, rfl⟩⟩
      case round =>
        obtain ⟨rfl, HK, HKl, HW⟩ := hrel
        have HBr : Aside0 (Below w.heap.size w wr) := ⟨by obtain ⟨nn, e⟩ := HW.out; rw [e]; exact pw_below_drewN HB.out nn⟩
        have HWr : Aside0 (Below Wo.heap.size Wo wr) := ⟨by obtain ⟨nn, e⟩ := HW.out; rw [e]; exact pw_below_drewN (Below.refl _ _) nn⟩
        have HCoR : Aside0 ((kW w b0).C wr A out.length out) := ⟨Kd.C_below HCo.out HWr.out⟩
        have HCrR : Aside0 ((Kd.int .i64).C wr Ar c.length c) := ⟨Kd.C_below HCr.out.2 HWr.out⟩
        clear HCo HR HB
        cases gk with
        | zero =>
          have hk0 : ¬ (((0 : Nat) : Int) > 0) := by omega
          have hins : insK c out out.length = 0 := by rw [← HK.out]; rfl
          have hkl : 0 ≤ out.length := HKl.out
          have HINS : Aside0 (insR out c = [] ++ out.take (0) ++ [c] ++ out.drop (0)) := ⟨by unfold insR; rw [hins]; rfl⟩
          clear hins
          have hcut1 := cut40_to A out.length co (0) (0) (by omega) hkl hco
          have hlt : (out.take (0)).length = 0 := by rw [List.length_take]; omega
          have hld : (out.drop (0)).length = out.length - (0) := List.length_drop
          have HT1 : Aside0 (∀ W, Below wr.heap.size wr W → (kW w b0).C W A (0) (out.take (0))) := ⟨fun W hb => by have := Kd.C_take (Kd.C_below HCoR.out hb) hkl; rwa [hlt] at this⟩
          obtain ⟨A2, n2, c2, hcut2, HT2, HN2⟩ := cutFrom HCoR.out hco (0) (0) (by omega) hkl
          have hsm : out.length ≤ 900000 := by have := HI.out; have := HOL.out; omega
          clear hcell
          go_upto_region 9 with (first | ((with_reducible refine gate_builtin (b := .append) (xs := #[.tmp 29, .tmp 32]) rfl ?_); (first | (refine Kd.R_append_rows (kW w b0) (Rr := rowIn w b0) (w0 := wr) wr.heap.size rfl (.tmp 29) (.tmp 32) 40 29 (.slice none 0 0) 24 rfl Try.underlying40 info29 rfl (Nat.one_pos) (by decide) _ [] (out.take (0)) A (0) co (fun _ => True) (fun _ => False) rfl rfl (kW_fresh (Nat.le_refl _)) (HT1.out _ ((Below.refl _ _).alloc (Nat.le_refl _) _)) (fun _ _ h => h) (fun _ h => h.elim) (fun _ _ => trivial) ((Below.refl _ _).alloc (Nat.le_refl _) _) (by simp) (by simp only [List.length_nil]; omega) ?_) | (at_builtin; refine Kd.R_append_rows (kW w b0) (Rr := rowIn w b0) (w0 := wr) wr.heap.size rfl (.tmp 29) (.tmp 32) 40 29 (.slice none 0 0) 24 rfl Try.underlying40 info29 rfl (Nat.one_pos) (by decide) _ [] (out.take (0)) A (0) co (fun _ => True) (fun _ => False) rfl rfl (kW_fresh (Nat.le_refl _)) (HT1.out _ ((Below.refl _ _).alloc (Nat.le_refl _) _)) (fun _ _ h => h) (fun _ h => h.elim) (fun _ _ => trivial) ((Below.refl _ _).alloc (Nat.le_refl _) _) (by simp) (by simp only [List.length_nil]; omega) ?_)); intro v1 w1 h1 h2 h3 h4; have HV1 := Aside0.mk (And.intro h1 h2); clear h1 h2 h3 h4))
          have hs1 := HV1.out.2.size
          have HB1 := Aside0.mk (HV1.out.2.alloc hs1 (.cells #[.slice Ar c.length cr] 29))
          go_upto_region 10 with (first | ((with_reducible refine gate_builtin (b := .append) (xs := #[.tmp 34, .tmp 36]) rfl ?_); (first | (refine Kd.R_append_rows (kW w b0) (Rr := rowIn w b0) (w0 := wr) wr.heap.size rfl (.tmp 34) (.tmp 36) 40 29 (.slice none 0 0) 24 rfl Try.underlying40 info29 rfl (Nat.one_pos) (by decide) _ ([] ++ out.take (0)) [c] (some ⟨w1.heap.size, 0, none⟩) 1 1 (fun _ => True) (fun _ => False) rfl rfl (Kd.R_alloc HV1.out.1 _) (kW_one hrow.out (blk_new _ _)) (fun _ _ h => h) (fun _ h => h.elim) (fun _ _ => trivial) HB1.out (by have := HB1.out.size; omega) (by simp only [List.nil_append, hlt]; omega) ?_) | (at_builtin; refine Kd.R_append_rows (kW w b0) (Rr := rowIn w b0) (w0 := wr) wr.heap.size rfl (.tmp 34) (.tmp 36) 40 29 (.slice none 0 0) 24 rfl Try.underlying40 info29 rfl (Nat.one_pos) (by decide) _ ([] ++ out.take (0)) [c] (some ⟨w1.heap.size, 0, none⟩) 1 1 (fun _ => True) (fun _ => False) rfl rfl (Kd.R_alloc HV1.out.1 _) (kW_one hrow.out (blk_new _ _)) (fun _ _ h => h) (fun _ h => h.elim) (fun _ _ => trivial) HB1.out (by have := HB1.out.size; omega) (by simp only [List.nil_append, hlt]; omega) ?_)); intro v2 w2 h1 h2 h3 h4; have HV2 := Aside0.mk (And.intro h1 h2); clear h1 h2 h3 h4))
          have hs2 := HV2.out.2.size
          go_wp2_with (first | ((with_reducible refine gate_builtin (b := .append) (xs := #[.tmp 38, .tmp 41]) rfl ?_); (first | (refine Kd.R_append_rows (kW w b0) (Rr := rowIn w b0) (w0 := wr) wr.heap.size rfl (.tmp 38) (.tmp 41) 40 29 (.slice none 0 0) 24 rfl Try.underlying40 info29 rfl (Nat.one_pos) (by decide) _ ([] ++ out.take (0) ++ [c]) (out.drop (0)) A2 n2 c2 (fun _ => True) (fun _ => False) rfl rfl HV2.out.1 (HT2.out _ HV2.out.2) (fun _ _ h => h) (fun _ h => h.elim) (fun _ _ => trivial) HV2.out.2 (by omega) (by simp only [List.nil_append, List.length_append, List.length_singleton, hlt]; have := HN2.out; omega) ?_) | (at_builtin; refine Kd.R_append_rows (kW w b0) (Rr := rowIn w b0) (w0 := wr) wr.heap.size rfl (.tmp 38) (.tmp 41) 40 29 (.slice none 0 0) 24 rfl Try.underlying40 info29 rfl (Nat.one_pos) (by decide) _ ([] ++ out.take (0) ++ [c]) (out.drop (0)) A2 n2 c2 (fun _ => True) (fun _ => False) rfl rfl HV2.out.1 (HT2.out _ HV2.out.2) (fun _ _ h => h) (fun _ h => h.elim) (fun _ _ => trivial) HV2.out.2 (by omega) (by simp only [List.nil_append, List.length_append, List.length_singleton, hlt]; have := HN2.out; omega) ?_)); intro v3 w3 h1 h2 h3 h4; have HV3 := Aside0.mk (And.intro h1 h2); clear h1 h2 h3 h4))
          go_roundg m
          case measure => omega
          case rel => exact ⟨i + 1, v3, rfl, by first | rfl | go_num, ⟨by have := HI.out; omega⟩, ⟨by rw [HN.out, HINS.out]; exact Kd.R_lower HV3.out.1 HBr.out.size⟩, ⟨HBr.out.trans (HV3.out.2.mono HBr.out.size)⟩⟩
        | succ k =>
          have hkl1 : k < out.length := by have := HKl.out; omega
          obtain ⟨ad2, v2o, hA2, hc2o, hown2⟩ := at_W HCoR.out hkl1
          subst hA2
          obtain ⟨A3, c3, hv3, hc3, hC3⟩ := rowI_reads (own_move hown2 fun b hb => HBr.out.block b (own_lt hown2 b hb))
          subst hv3
          have hl2 := HO2.out _ (List.getElem_mem hkl1)
          have hL := Aside0.mk (less_two hc2.out hl2)
          have hge : out.getD k [] = out[k] := by rw [List.getD_eq_getElem?_getD, List.getElem?_eq_getElem hkl1]; rfl
          have HKs := HK.out
          rw [show insK c out (k + 1) = if lessR c (out.getD k []) = true then insK c out k else k + 1 from rfl, hge] at HKs
          have HC3 := Aside0.mk (And.intro hc3 hC3)
          clear hc3 hC3 hown2 hl2 hge HK
          generalize out[k] = rk at *
          have hk1 : (k : Int) + 1 > 0 := by omega
          have hki : (k : Int) < (out.length : Int) := by omega
          have hwk := wrap_id (x := (k : Int)) (by omega) (by have := HI.out; have := HOL.out; omega)
          cases hb : lessR c rk with
          | true =>
            rw [hb] at hL HKs
            rw [if_pos rfl] at HKs
            replace HKs := Aside0.mk HKs
            clear hb
            go_wp2_with (first | (go_at_call 103; refine (spec_trLess.calls 3 Ar cr c A3 c3 rk _ _ HCrR.out HCr.out.1 HC3.out.2 HC3.out.1 hL.out).mono ?_; rintro e w1 ⟨rfl, ⟨nd, rfl⟩⟩))
            go_roundg k
            case measure => omega
            case rel => exact ⟨by first | rfl | go_num, HKs, ⟨by omega⟩, by obtain ⟨nn, e⟩ := HW.out; exact ⟨nn + nd, by rw [e, World.drewN_drewN]⟩⟩
          | false =>
            rw [hb] at hL HKs
            rw [if_neg (by decide)] at HKs
            have hins : insK c out out.length = k + 1 := HKs.symm
            clear HKs hb
            go_upto_region 8 with (first | (go_at_call 103; refine (spec_trLess.calls 3 Ar cr c A3 c3 rk _ _ HCrR.out HCr.out.1 HC3.out.2 HC3.out.1 hL.out).mono ?_; rintro e w1 ⟨rfl, ⟨nd, rfl⟩⟩))
            have HBs : Aside0 (Below w.heap.size w (wr.drewN nd)) := ⟨pw_below_drewN HBr.out nd⟩
            have HCs : Aside0 ((kW w b0).C (wr.drewN nd) (some ad2) out.length out) := ⟨Kd.C_drewN HCoR.out nd⟩
            clear HBr HCoR HCrR HW hc2o HC3
            generalize wr.drewN nd = wr1 at *
            clear wr HWr
            have hkl : k + 1 ≤ out.length := HKl.out
            have HINS : Aside0 (insR out c = [] ++ out.take (k + 1) ++ [c] ++ out.drop (k + 1)) := ⟨by unfold insR; rw [hins]; rfl⟩
            clear hins
            have hcut1 := cut40_to (some ad2) out.length co (k + 1) ((k : Int) + 1) (by omega) hkl hco
            have hlt : (out.take (k + 1)).length = k + 1 := by rw [List.length_take]; omega
            have hld : (out.drop (k + 1)).length = out.length - (k + 1) := List.length_drop
            have HT1 : Aside0 (∀ W, Below wr1.heap.size wr1 W → (kW w b0).C W (some ad2) (k + 1) (out.take (k + 1))) := ⟨fun W hb => by have := Kd.C_take (Kd.C_below HCs.out hb) hkl; rwa [hlt] at this⟩
            obtain ⟨A2, n2, c2, hcut2, HT2, HN2⟩ := cutFrom HCs.out hco (k + 1) ((k : Int) + 1) (by omega) hkl
            have hsm : out.length ≤ 900000 := by have := HI.out; have := HOL.out; omega
            clear hcell
            go_upto_region 9 with (first | ((with_reducible refine gate_builtin (b := .append) (xs := #[.tmp 29, .tmp 32]) rfl ?_); (first | (refine Kd.R_append_rows (kW w b0) (Rr := rowIn w b0) (w0 := wr1) wr1.heap.size rfl (.tmp 29) (.tmp 32) 40 29 (.slice none 0 0) 24 rfl Try.underlying40 info29 rfl (Nat.one_pos) (by decide) _ [] (out.take (k + 1)) (some ad2) (k + 1) co (fun _ => True) (fun _ => False) rfl rfl (kW_fresh (Nat.le_refl _)) (HT1.out _ ((Below.refl _ _).alloc (Nat.le_refl _) _)) (fun _ _ h => h) (fun _ h => h.elim) (fun _ _ => trivial) ((Below.refl _ _).alloc (Nat.le_refl _) _) (by simp) (by simp only [List.length_nil]; omega) ?_) | (at_builtin; refine Kd.R_append_rows (kW w b0) (Rr := rowIn w b0) (w0 := wr1) wr1.heap.size rfl (.tmp 29) (.tmp 32) 40 29 (.slice none 0 0) 24 rfl Try.underlying40 info29 rfl (Nat.one_pos) (by decide) _ [] (out.take (k + 1)) (some ad2) (k + 1) co (fun _ => True) (fun _ => False) rfl rfl (kW_fresh (Nat.le_refl _)) (HT1.out _ ((Below.refl _ _).alloc (Nat.le_refl _) _)) (fun _ _ h => h) (fun _ h => h.elim) (fun _ _ => trivial) ((Below.refl _ _).alloc (Nat.le_refl _) _) (by simp) (by simp only [List.length_nil]; omega) ?_)); intro v1 w1 h1 h2 h3 h4; have HV1 := Aside0.mk (And.intro h1 h2); clear h1 h2 h3 h4))
            have hs1 := HV1.out.2.size
            have HB1 := Aside0.mk (HV1.out.2.alloc hs1 (.cells #[.slice Ar c.length cr] 29))
            go_upto_region 10 with (first | ((with_reducible refine gate_builtin (b := .append) (xs := #[.tmp 34, .tmp 36]) rfl ?_); (first | (refine Kd.R_append_rows (kW w b0) (Rr := rowIn w b0) (w0 := wr1) wr1.heap.size rfl (.tmp 34) (.tmp 36) 40 29 (.slice none 0 0) 24 rfl Try.underlying40 info29 rfl (Nat.one_pos) (by decide) _ ([] ++ out.take (k + 1)) [c] (some ⟨w1.heap.size, 0, none⟩) 1 1 (fun _ => True) (fun _ => False) rfl rfl (Kd.R_alloc HV1.out.1 _) (kW_one hrow.out (blk_new _ _)) (fun _ _ h => h) (fun _ h => h.elim) (fun _ _ => trivial) HB1.out (by have := HB1.out.size; omega) (by simp only [List.nil_append, hlt]; omega) ?_) | (at_builtin; refine Kd.R_append_rows (kW w b0) (Rr := rowIn w b0) (w0 := wr1) wr1.heap.size rfl (.tmp 34) (.tmp 36) 40 29 (.slice none 0 0) 24 rfl Try.underlying40 info29 rfl (Nat.one_pos) (by decide) _ ([] ++ out.take (k + 1)) [c] (some ⟨w1.heap.size, 0, none⟩) 1 1 (fun _ => True) (fun _ => False) rfl rfl (Kd.R_alloc HV1.out.1 _) (kW_one hrow.out (blk_new _ _)) (fun _ _ h => h) (fun _ h => h.elim) (fun _ _ => trivial) HB1.out (by have := HB1.out.size; omega) (by simp only [List.nil_append, hlt]; omega) ?_)); intro v2 w2 h1 h2 h3 h4; have HV2 := Aside0.mk (And.intro h1 h2); clear h1 h2 h3 h4))
            have hs2 := HV2.out.2.size
            go_wp2_with (first | ((with_reducible refine gate_builtin (b := .append) (xs := #[.tmp 38, .tmp 41]) rfl ?_); (first | (refine Kd.R_append_rows (kW w b0) (Rr := rowIn w b0) (w0 := wr1) wr1.heap.size rfl (.tmp 38) (.tmp 41) 40 29 (.slice none 0 0) 24 rfl Try.underlying40 info29 rfl (Nat.one_pos) (by decide) _ ([] ++ out.take (k + 1) ++ [c]) (out.drop (k + 1)) A2 n2 c2 (fun _ => True) (fun _ => False) rfl rfl HV2.out.1 (HT2.out _ HV2.out.2) (fun _ _ h => h) (fun _ h => h.elim) (fun _ _ => trivial) HV2.out.2 (by omega) (by simp only [List.nil_append, List.length_append, List.length_singleton, hlt]; have := HN2.out; omega) ?_) | (at_builtin; refine Kd.R_append_rows (kW w b0) (Rr := rowIn w b0) (w0 := wr1) wr1.heap.size rfl (.tmp 38) (.tmp 41) 40 29 (.slice none 0 0) 24 rfl Try.underlying40 info29 rfl (Nat.one_pos) (by decide) _ ([] ++ out.take (k + 1) ++ [c]) (out.drop (k + 1)) A2 n2 c2 (fun _ => True) (fun _ => False) rfl rfl HV2.out.1 (HT2.out _ HV2.out.2) (fun _ _ h => h) (fun _ h => h.elim) (fun _ _ => trivial) HV2.out.2 (by omega) (by simp only [List.nil_append, List.length_append, List.length_singleton, hlt]; have := HN2.out; omega) ?_)); intro v3 w3 h1 h2 h3 h4; have HV3 := Aside0.mk (And.intro h1 h2); clear h1 h2 h3 h4))
            go_roundg m
            case measure => omega
            case rel => exact ⟨i + 1, v3, rfl, by first | rfl | go_num, ⟨by have := HI.out; omega⟩, ⟨by rw [HN.out, HINS.out]; exact Kd.R_lower HV3.out.1 HBs.out.size⟩, ⟨HBs.out.trans (HV3.out.2.mono HBs.out.size)⟩⟩
end Go.Proofs.Ytjedhjeijpbobaa.G8

/-! ## Si -/
namespace Go.Proofs.Ytjedhjeijpbobaa.G8
open Go.Sort
set_option linter.unusedVariables false
set_option linter.unusedSimpArgs false
def toP (r : List Int) : Int × Int := (r.getD 0 0, r.getD 1 0)
theorem two_is {r : List Int} (h : r.length = 2) : r = [(toP r).1, (toP r).2] := by
  match r, h with
  | [a, b], _ => rfl
theorem less_lex {r s : List Int} (hr : r.length = 2) (hs : s.length = 2) : lessR r s = decide (lexLt (toP r) (toP s)) := by
  rw [two_is hr, two_is hs]
  generalize toP r = p
  generalize toP s = q
  obtain ⟨a, b⟩ := p
  obtain ⟨c, d⟩ := q
  simp only [lessR, toP, lexLt, List.getD_cons_zero, List.getD_cons_succ]
  by_cases h1 : a = c
  · by_cases h2 : b = d
    · subst h1 h2; simp
    · subst h1; simp [h2]
  · simp [h1]
/-- In order. -/
def Ord (rows : List (List Int)) : Prop := rows.Pairwise fun r s => ¬ lexLt (toP s) (toP r)
theorem insK_spec (c : List Int) (out : List (List Int)) : ∀ k, k ≤ out.length → (∀ j, insK c out k ≤ j → j < k → lessR c (out.getD j []) = true) ∧ (0 < insK c out k → lessR c (out.getD (insK c out k - 1) []) = false)
  | 0, _ => ⟨fun j h1 h2 => by omega, fun h => by simp [insK] at h⟩
  | k + 1, hk => by
    obtain ⟨h1, h2⟩ := insK_spec c out k (by omega)
    unfold insK
    split
    · rename_i h
      refine ⟨fun j q1 q2 => ?_, h2⟩
      by_cases e : j = k
      · rw [e]; exact h
      · exact h1 j q1 (by omega)
    · rename_i h
      refine ⟨fun j q1 q2 => by omega, fun _ => ?_⟩
      rw [Nat.add_sub_cancel]
      simpa using h
theorem insR_ord {out : List (List Int)} {c : List Int} (ho : Ord out) (h2 : ∀ r ∈ out, r.length = 2) (hc : c.length = 2) : Ord (insR out c) := by
  obtain ⟨q1, q2⟩ := insK_spec c out out.length (Nat.le_refl _)
  have hle := insK_le c out out.length
  unfold insR
  generalize insK c out out.length = k at *
  have hlo : ∀ r ∈ out.take k, ¬ lexLt (toP c) (toP r) := by
    intro r hr hlt
    obtain ⟨i, hi, rfl⟩ := List.mem_iff_getElem.1 hr
    rw [List.length_take] at hi
    rw [List.getElem_take] at hlt
    have hk0 : 0 < k := by omega
    have h3 := q2 hk0
    rw [List.getD_eq_getElem?_getD, List.getElem?_eq_getElem (by omega), Option.getD_some, less_lex hc (h2 _ (List.getElem_mem _))] at h3
    have h4 := of_decide_eq_false h3
    by_cases e : i = k - 1
    · subst e; exact h4 hlt
    · have h5 := (List.pairwise_iff_getElem.1 ho) i (k - 1) (by omega) (by omega) (by omega)
      exact lex_ntrans h4 h5 hlt
  have hhi : ∀ r ∈ out.drop k, ¬ lexLt (toP r) (toP c) := by
    intro r hr hlt
    obtain ⟨i, hi, rfl⟩ := List.mem_iff_getElem.1 hr
    rw [List.length_drop] at hi
    rw [List.getElem_drop] at hlt
    have h3 := q1 (k + i) (by omega) (by omega)
    rw [List.getD_eq_getElem?_getD, List.getElem?_eq_getElem (by omega), Option.getD_some, less_lex hc (h2 _ (List.getElem_mem _))] at h3
    exact lex_asymm (of_decide_eq_true h3) hlt
  have hb : ∀ r ∈ out.take k, ∀ s ∈ out.drop k, ¬ lexLt (toP s) (toP r) := by
    intro r hr s hs
    have := ho
    unfold Ord at this
    rw [← List.take_append_drop k out, List.pairwise_append] at this
    exact this.2.2 r hr s hs
  unfold Ord
  rw [List.pairwise_append, List.pairwise_append]
  refine ⟨⟨List.Pairwise.sublist (List.take_sublist _ _) ho, List.pairwise_singleton _ _, fun r hr s hs => ?_⟩, List.Pairwise.sublist (List.drop_sublist _ _) ho, fun r hr s hs => ?_⟩
  · rw [List.mem_singleton] at hs
    subst hs
    exact hlo r hr
  · rw [List.mem_append, List.mem_singleton] at hr
    rcases hr with hr | rfl
    · exact hb r hr s hs
    · exact hhi s hs
theorem insR_perm (out : List (List Int)) (c : List Int) : (insR out c).Perm (c :: out) := by
  unfold insR
  generalize insK c out out.length = k
  have e : c :: out = c :: (out.take k ++ out.drop k) := by rw [List.take_append_drop]
  rw [List.append_assoc, e]
  exact List.perm_middle
theorem gw_fold : ∀ (rows out : List (List Int)), Ord out → (∀ r ∈ out, r.length = 2) → (∀ r ∈ rows, r.length = 2) → Ord (rows.foldl insR out) ∧ (rows.foldl insR out).Perm (rows ++ out)
  | [], out, h, _, _ => ⟨h, List.Perm.refl _⟩
  | c :: rows, out, h, h2, h3 => by
    have hc := h3 c (by simp)
    obtain ⟨g1, g2⟩ := gw_fold rows (insR out c) (insR_ord h h2 hc) (insR_mem out c h2 hc) (fun r hr => h3 r (by simp [hr]))
    refine ⟨g1, g2.trans ?_⟩
    refine (List.Perm.append_left rows (insR_perm out c)).trans ?_
    exact List.perm_middle
theorem pairs_two (zs : List (Int × Int)) : ∀ r ∈ pairs zs, r.length = 2 := fun r hr => by
  obtain ⟨c, _, rfl⟩ := List.mem_map.1 hr
  rfl
theorem sortC_ord (zs : List (Int × Int)) : Ord (pairs (sortC zs)) := by
  have h : (sortC zs).Pairwise fun x y => (!ltOf cmpV y x) = true := by
    refine List.pairwise_mergeSort (fun a b c h1 h2 => ?_) (fun a b => ?_) zs
    · rw [Bool.not_eq_true', ltOf_lex] at *
      have k1 := of_decide_eq_false h1
      have k2 := of_decide_eq_false h2
      exact decide_eq_false (lex_ntrans k2 k1)
    · rw [Bool.or_eq_true, Bool.not_eq_true', Bool.not_eq_true', ltOf_lex, ltOf_lex]
      by_cases q : lexLt b a
      · exact .inr (decide_eq_false (lex_asymm q))
      · exact .inl (decide_eq_false q)
  unfold Ord pairs
  rw [List.pairwise_map]
  refine h.imp fun {x y} hxy => ?_
  rw [Bool.not_eq_true', ltOf_lex] at hxy
  exact of_decide_eq_false hxy
theorem gwS_pairs (zs : List (Int × Int)) : gwS (pairs zs) = pairs (sortC zs) := by
  obtain ⟨h1, h2⟩ := gw_fold (pairs zs) [] List.Pairwise.nil (fun r hr => by simp at hr) (pairs_two zs)
  rw [List.append_nil] at h2
  have h3 : (pairs (sortC zs)).Perm (pairs zs) := (sortC_perm zs).map _
  refine List.Perm.eq_of_pairwise (fun r s hr hs q1 q2 => ?_) h1 (sortC_ord zs) (h2.trans h3.symm)
  have e1 := pairs_two zs r (h2.subset hr)
  have e2 := pairs_two (sortC zs) s hs
  have e3 := lex_total q2 q1
  rw [two_is e1, two_is e2, e3]
end Go.Proofs.Ytjedhjeijpbobaa.G8

/-! ## Sl -/
namespace Go.Proofs.Ytjedhjeijpbobaa.G8
open Go.RowKit Go.Maps Go.Proofs.YtjedhjeijpbobaaW.PrintWords Go.Proofs.YtjedhjeijpbobaaW.PrintLast Go.Proofs.YtjedhjeijpbobaaW.PrintMore
open Go.Proofs.Ytjedhjeijpbobaa.GA
set_option linter.unusedVariables false
set_option linter.unusedSimpArgs false
/-- What is grown, in order. -/
def grownV (n k : Int) : List (List Int) := if okGrid n k = true then pairs (sortC (gridS n k).cells) else []
theorem grownV0 {n k : Int} (h : okGrid n k = false) : grownV n k = [] := by unfold grownV; rw [if_neg (by rw [h]; decide)]
theorem grownV1 {n k : Int} (h : okGrid n k = true) : grownV n k = pairs (sortC (gridS n k).cells) := by unfold grownV; rw [if_pos h]
theorem grownV_two (n k : Int) : ∀ r ∈ grownV n k, r.length ≤ 2 := fun r hr => by
  unfold grownV at hr
  split at hr
  · exact Nat.le_of_eq (pairs_two _ r hr)
  · simp at hr
theorem grownV_len (n k : Int) : (grownV n k).length ≤ 250 := by
  cases ho : okGrid n k with
  | false => rw [grownV0 ho]; simp
  | true =>
    have h1 := (grid_kept ho).2.1
    obtain ⟨m, rfl, hm, _⟩ := grid_is ho
    rw [grownV1 ho, pairs_len, sortC_len]
    omega
theorem GroAt.cellsIn {w : World} {base g gm N : Nat} {vc : Value} {F : Fld} {cs : List (Int × Int)} {s : Int} (h : GroAt w base g gm N vc F cs s) : ∃ A cap, vc = .slice A cs.length cap ∧ CellsIn w.heap.size w A cs := by
  rcases Nat.eq_zero_or_pos cs.length with h0 | h0
  · have hn : cs = [] := List.eq_nil_of_length_eq_zero h0
    rcases h.cells.2 with ⟨h1, h2⟩ | ⟨b, cap, cur, h1, _⟩
    · exact ⟨none, 0, by rw [h1, h0], fun i c hc => by rw [hn] at hc; simp at hc⟩
    · exact ⟨_, cap, h1, fun i c hc => by rw [hn] at hc; simp at hc⟩
  · obtain ⟨g2, cap, h1, h2⟩ := cells_at h.cells h0
    refine ⟨_, cap, h1, fun i c hc => ?_⟩
    obtain ⟨q1, q2⟩ := h2 i c hc
    exact ⟨g2, rfl, own_lt h.cells g2 (by rw [h1]; rfl), q1, q2⟩
def RowsTwo (w : World) (rows : List (List Int)) (ok : Bool) (e : Ending) (w' : World) : Prop := ∃ vc, e = .returned (.tuple #[vc, .bool ok]) ∧ Below w.heap.size w w' ∧ Aside0 (RowsD w' w.heap.size vc rows)
set_option maxHeartbeats 4000000 in
set_option maxRecDepth 100000 in
theorem impl_GrownCells_calls (n k : Int) (w : World) : Calls Try.prog 39 #[.int .i64 n, .int .i64 k] w (RowsTwo w (grownV n k) (okGrid n k)) := by
  have HG := Aside0.mk (fun W => grown_calls n k W)
  cases ho : okGrid n k with
  | false =>
    rw [grownV0 ho]
    rw [ho] at HG
    clear ho
    go_enter Try.func39, Try.ntmps39
    go_wp2_with (first | (go_at_call 67; (with_reducible refine (HG.out _).mono ?_); rintro e w1 (⟨_, rfl, hB⟩ | ⟨h, _⟩); rotate_left; (exact absurd h (by decide)); have HB := Aside0.mk hB; clear hB))
    go_ret2
    exact ⟨_, rfl, HB.out, ⟨RowsD.nil _ _⟩⟩
  | true =>
    rw [grownV1 ho]
    rw [ho] at HG
    have hl : (gridS n k).cells.length ≤ 900000 := by
      have h1 := (grid_kept ho).2.1
      obtain ⟨m, rfl, hm, _⟩ := grid_is ho
      omega
    clear ho
    generalize gridS n k = S at *
    go_enter Try.func39, Try.ntmps39
    go_wp2_with (first | (go_at_call 67; (with_reducible refine (HG.out _).mono ?_); rintro e w1 (⟨h, _⟩ | ⟨_, g, gm, N, vc, rfl, hB, hG⟩); (exact absurd h (by decide)); have HB := Aside0.mk hB; clear hB; obtain ⟨A, c, rfl, hC⟩ := hG.out.cellsIn; have HC := Aside0.mk hC; have c1 := blk_cell hG.out.blk 1; simp at c1; clear hC) | (go_at_call 84; refine (sorted_calls A c S.cells hl _ HC.out).mono ?_; rintro e w2 ⟨v2, rfl, hB2, hR⟩; have HB2 := Aside0.mk hB2; clear hB2))
    go_ret2
    exact ⟨v2, rfl, HB.out.trans (HB2.out.mono HB.out.size), ⟨hR.out.lower HB.out.size⟩⟩
theorem GwAt.toW {w : World} {base f gb rb : Nat} {vc : Value} {F : Fld} {k0 : Int} {cs : List (Int × Int)} {s : Int} (h : GwAt w base f gb rb vc F k0 cs s) : ∃ A c, vc = .slice A (pairs cs).length c ∧ (pairs cs).length ≤ c ∧ (kW w base).C w A (pairs cs).length (pairs cs) := by
  obtain ⟨L, h1, h2⟩ := h.cells
  have hn : L.length = cs.length := by have := own_len h1; omega
  rw [pairs_len]
  have hR : Reps (fun p c => (kW w base).K w p c) 1 (pairs cs) L := ⟨by rw [pairs_len]; omega, fun j p hp => by
    unfold pairs at hp
    rw [List.getElem?_map] at hp
    obtain ⟨c, hc, rfl⟩ := Option.map_eq_some_iff.1 hp
    obtain ⟨b, q1, q2, q3⟩ := h2 j c hc
    refine ⟨_, ?_, rfl, ⟨rfl, .inr ⟨b, 2, _, rfl, q2, q3, Nat.le_refl _, by unfold maxLen; simp, rfl, rfl⟩⟩⟩
    have hj := (List.getElem?_eq_some_iff.1 q1).1
    have e : L[j] = .slice (some ⟨b, 0, none⟩) 2 2 := by rw [List.getElem?_eq_getElem hj] at q1; exact Option.some.inj q1
    rw [Nat.mul_one, List.drop_eq_getElem_cons hj, e]
    rfl⟩
  obtain ⟨A, c, he, hr⟩ := own_reads_row h1 hR (pairs_len cs)
  refine ⟨A, c, he, ?_, hr⟩
  rcases h1.2 with ⟨e1, e2⟩ | ⟨g, cap, cur, e1, _, _, e3, _⟩
  · rw [e1] at he
    injection he with _ e2 e3
    omega
  · rw [e1] at he
    injection he with _ e4 e5
    omega
/-- The reference's answer, read. -/
theorem sortW_reads {w w' : World} {b0 : Nat} {vc : Value} {rows : List (List Int)} (h : Kd.R (kW w b0) 29 w' w.heap.size (fun _ => True) vc rows) (hB : Below w.heap.size w w') : RowsC w' vc rows := by
  obtain ⟨A, c, h1, h2, h3⟩ := Kd.R_reads h
  refine ⟨A, c, h1, h2, ?_⟩
  refine Kd.C_read (d := Kd.slice 3 (Kd.int .i64)) (dm := kW w b0) rfl (fun r cs hk => ?_) h3
  obtain ⟨v, rfl, h4, h5⟩ := hk
  have h6 : w'.ownsRow b0 3 1 v r.length (encI r) := own_move h5 fun k hk => hB.block k (own_lt h5 k hk)
  obtain ⟨A2, c2, h7, h8, h9⟩ := rowI_reads h6
  exact ⟨A2, c2, by rw [h7], h8, h9⟩
def RowsRef (w : World) (rows : List (List Int)) (ok : Bool) (e : Ending) (w' : World) : Prop := ∃ vc, e = .returned (.tuple #[vc, .bool ok]) ∧ Below w.heap.size w w' ∧ Aside0 (RowsC w' vc rows)
theorem rowsC_nil (w : World) : RowsC w (.slice none 0 0) [] := ⟨none, 0, rfl, Nat.le_refl _, Kd.C_nil _ _⟩
set_option maxHeartbeats 4000000 in
set_option maxRecDepth 100000 in
theorem spec_GrownCells_calls (n k : Int) (w : World) : Calls Try.prog 40 #[.int .i64 n, .int .i64 k] w (RowsRef w (grownV n k) (okGrid n k)) := by
  have HA := Aside0.mk (fun W => spec_gwAsked.calls n k _ W (asked_eq n k))
  cases ho : okGrid n k with
  | false =>
    rw [grownV0 ho]
    rw [ho] at HA
    clear ho
    go_enter Try.func40, Try.ntmps40
    go_wp2_with (first | (go_at_call 65; (with_reducible refine (HA.out _).mono ?_); rintro e w1 ⟨rfl, ⟨nd, rfl⟩⟩))
    go_ret2
    exact ⟨_, rfl, by repeat (first | exact Below.refl _ _ | apply pw_below_drewN), ⟨rowsC_nil _⟩⟩
  | true =>
    rw [grownV1 ho, ← gwS_pairs]
    have HG := Aside0.mk (fun W => go_any ho W)
    rw [ho] at HA
    have hl : (pairs (gridS n k).cells).length ≤ 900000 := by
      have h1 := (grid_kept ho).2.1
      obtain ⟨m, rfl, hm, _⟩ := grid_is ho
      rw [pairs_len]
      omega
    clear ho
    generalize gridS n k = S at *
    go_enter Try.func40, Try.ntmps40
    go_wp2_with (first | (go_at_call 65; (with_reducible refine (HA.out _).mono ?_); rintro e w1 ⟨rfl, ⟨nd, rfl⟩⟩) | (go_at_call 66; (with_reducible refine (HG.out _).mono ?_); rintro e w1 ⟨f, gb, rb, vc, rfl, hB, hG⟩; have HB := Aside0.mk (below_then (by repeat (first | exact Below.refl _ _ | apply pw_below_drewN)) (by simp) hB : Below w.heap.size w w1); clear hB; obtain ⟨A, cap, rfl, hcap, hC⟩ := hG.out.toW; have HC := Aside0.mk (And.intro hcap hC); have c2 := blk_cell hG.out.blk 2; simp at c2; clear hcap hC) | (go_at_call 85; refine (gwSorted_calls A cap _ _ _ HC.out.2 (pairs_two _) HC.out.1 hl).mono ?_; rintro e w2 ⟨v2, rfl, hB2, hR⟩; have HR := Aside0.mk (sortW_reads hR.out hB2); have HB2 := Aside0.mk hB2; clear hB2 hR))
    go_ret2
    exact ⟨v2, rfl, HB.out.trans (HB2.out.mono HB.out.size), HR⟩
end Go.Proofs.Ytjedhjeijpbobaa.G8
