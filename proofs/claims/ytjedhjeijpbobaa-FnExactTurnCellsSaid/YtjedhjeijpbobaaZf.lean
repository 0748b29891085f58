/-
  The program's heap: the walk of heapOf. The cells of the program's heap, in whatever order the map gives them. The greatest square of a heap's cell: of both sides, walked.
-/
import Derived.Test.YtjedhjeijpbobaaZe
import Derived.Test.YtjedhjeijpbobaaZc
import Derived.Test.YtjedhjeijpbobaaFg
import Derived.Maps.RangeWalk
/-! ## Ht -/
namespace Go.Proofs.Ytjedhjeijpbobaa.G8
open Go.RowKit Go.Maps Go.Proofs.YtjedhjeijpbobaaW.PrintWords Go.Proofs.YtjedhjeijpbobaaW.PrintLast Go.Proofs.YtjedhjeijpbobaaW.PrintMore
set_option linter.unusedVariables false
set_option linter.unusedSimpArgs false
/-- The map of chips and the list, in memory. -/
structure HpAt (w : World) (base gm N : Nat) (vc : Value) (M : Fld) (cs : List (Int × Int)) : Prop where
  hm : base ≤ gm
  map : MapIs w gm N M
  cells : w.ownsRow base 76 2 vc cs.length (flat cs)
def HpOut (w : World) (n : Int) (e : Ending) (w' : World) : Prop := ∃ gm N u M, e = .returned (.map (some gm)) ∧ Below w.heap.size w w' ∧ Aside0 (MapIs w' gm N M) ∧ Aside0 (HInv n u M) ∧ Aside0 (∀ a b, hp n u a b ≤ 3) ∧ w.heap.size ≤ gm ∧ N ≤ 100000
section
variable {w w1 : World} {base gm N : Nat} {vc : Value} {M : Fld} {cs : List (Int × Int)}
theorem HpAt.lt (h : HpAt w base gm N vc M cs) : gm < w.heap.size := by
  obtain ⟨D, hm, _⟩ := h.map
  exact hm.lt
theorem HpAt.apart (h : HpAt w base gm N vc M cs) : vc.ownBlock ≠ some gm := fun e => by
  obtain ⟨cells, hc⟩ := own_typed h.cells gm e
  obtain ⟨D, ⟨es, clock, hb, _⟩, _⟩ := h.map
  rw [hb] at hc
  simp at hc
theorem HpAt.keep (h : HpAt w base gm N vc M cs) (e : ∀ b, b = gm ∨ vc.ownBlock = some b → w1.heap[b]? = w.heap[b]?) : HpAt w1 base gm N vc M cs :=
  ⟨h.hm, h.map.move (e gm (.inl rfl)), own_move h.cells fun k hk => e k (.inr hk)⟩
theorem HpAt.ltv (h : HpAt w base gm N vc M cs) (b : Nat) (hb : b = gm ∨ vc.ownBlock = some b) : b < w.heap.size := by
  rcases hb with rfl | hb
  · exact h.lt
  · exact own_lt h.cells _ hb
theorem HpAt.drew (h : HpAt w base gm N vc M cs) : HpAt w.drew base gm N vc M cs := h.keep fun _ _ => rfl
theorem HpAt.alloc (h : HpAt w base gm N vc M cs) (o : Obj) : HpAt (w.alloc o) base gm N vc M cs := h.keep fun b hb => (MapKept.heap_alloc w o).2 b (h.ltv b hb)
theorem HpAt.below (h : HpAt w base gm N vc M cs) (hB : Below w.heap.size w w1) : HpAt w1 base gm N vc M cs := h.keep fun b hb => hB.block b (h.ltv b hb)
theorem HpAt.far (h : HpAt w base gm N vc M cs) {A : Nat} (hA : ¬ (A = gm ∨ vc.ownBlock = some A)) (i : Nat) (u : Value) : HpAt (w.setCell ⟨A, i, none⟩ u) base gm N vc M cs :=
  h.keep fun b hb => Below.heap_setCell _ _ _ _ (fun e => hA (by rw [show b = A from e] at hb; exact hb))
theorem HpAt.store (h : HpAt w base gm N vc M cs) {M1 : Fld} {N1 : Nat} (hm : MapIs w1 gm N1 M1) (hg : w.grownBy w1 (some gm)) : HpAt w1 base gm N1 vc M1 cs :=
  ⟨h.hm, hm, own_move h.cells fun k hk => hg.block k (own_lt h.cells k hk) (fun e => h.apart (hk.trans e))⟩
theorem HpAt.cellsAt (h : HpAt w base gm N vc M cs) (hp : 0 < cs.length) : ∃ b cap, vc = .slice (some ⟨b, 0, none⟩) cs.length cap ∧ base ≤ b ∧ CellsAt w b cs := by
  rcases h.cells.2 with ⟨_, h2⟩ | ⟨b, cap, cur, h1, hb, hh, h3, _, h5, h6⟩
  · omega
  · refine ⟨b, cap, h1, hb, blk_lt hh, fun i c hc => ?_⟩
    have hr := (reps_flat w cs).2 i (toS c) (by rw [List.getElem?_map, hc]; rfl)
    have e := GA.k76_open hr
    have hi : i < cs.length := (List.getElem?_eq_some_iff.1 hc).1
    have e0 : (flat cs)[i * 2]? = some (.int .i64 c.1) := by
      have := congrArg (fun l => l[0]?) e
      simp only [List.getElem?_take, List.getElem?_drop] at this
      simpa [toS] using this
    have e1 : (flat cs)[i * 2 + 1]? = some (.int .i64 c.2) := by
      have := congrArg (fun l => l[1]?) e
      simp only [List.getElem?_take, List.getElem?_drop] at this
      simpa [toS] using this
    rw [← h6, List.getElem?_take, if_pos (by omega)] at e0 e1
    exact ⟨(blk_cell hh _).trans (by simpa using e0), (blk_cell hh _).trans (by simpa using e1)⟩
/-- The last of the list is taken off. -/
theorem HpAt.pop {b cap : Nat} {c : Int × Int} {l : Nat} (h : HpAt w base gm N (.slice (some ⟨b, 0, none⟩) (l + 1) cap) M (cs ++ [c])) (hl : cs.length = l) : HpAt w base gm N (.slice (some ⟨b, 0, none⟩) l cap) M cs := by
  refine ⟨h.hm, h.map, ?_⟩
  have hf : (flat (cs ++ [c])).length = cs.length * 2 + 2 := by rw [flat_app]; have := (reps_flat w cs).1; rw [List.length_map] at this; simp [this]
  rcases h.cells.2 with ⟨h1, _⟩ | ⟨g, cap1, cur, h1, hb, hh, h3, h4, h5, h6⟩
  · cases h1
  · injection h1 with e1 _ e3
    injection e1 with e1
    injection e1 with e1
    subst e1
    subst e3
    have hfl : (flat cs).length = cs.length * 2 := by have := (reps_flat w cs).1; rw [List.length_map] at this; exact this
    refine ⟨hfl, .inr ⟨b, cap, cur, by rw [hl], hb, hh, ?_, h4, h5, ?_⟩⟩
    · rw [List.length_append, List.length_singleton] at h3
      omega
    · have h7 : (cur.toList.take ((cs ++ [c]).length * 2)).take (cs.length * 2) = (flat (cs ++ [c])).take (cs.length * 2) := by rw [h6]
      rw [List.take_take, Nat.min_eq_left (by rw [List.length_append, List.length_singleton]; omega)] at h7
      rw [h7, flat_app, List.take_append_of_le_length (by omega), List.take_of_length_le (by omega)]
end
theorem info76s : (Try.prog.info? 76).map (fun i => (i.zero, i.size, i.bytes)) = some (some (.agg #[.int .i64 0, .int .i64 0]), 2, 16) := by kernel_rfl
theorem wpList_appH {ops : Array Oper} {rest : List Oper} {o : Oper} {a : Act} {Q : Exit → Act → World → Prop} {W : World} {base gm N : Nat} {vc : Value} {M : Fld} {cs : List (Int × Int)} {x y : Int} {C : Nat} (hgd : o.guard = none) (sv xv : Operand) (ho : o.op = .call { callee := .builtin .append, args := #[sv, xv], argTypes := #[68, 68] })
    (hs : a.eval sv = vc) (hx : a.eval xv = .slice (some ⟨C, 0, none⟩) 1 1) (h : HpAt W base gm N vc M cs) (hbase : base ≤ W.heap.size) (hl : cs.length ≤ 1000000) (hC : W.heap[C]? = some (.cells #[.int .i64 x, .int .i64 y] 76 (0, 0)))
    (k : ∀ g1 cap w1, HpAt w1 base gm N (.slice (some ⟨g1, 0, none⟩) (cs.length + 1) cap) M (cs ++ [(x, y)]) → Below base W w1 → W.grownBy w1 vc.ownBlock → (vc.ownBlock = some g1 ∨ g1 = W.heap.size) →
      wpList Try.prog ops Q rest (a.put o.dst (.slice (some ⟨g1, 0, none⟩) (cs.length + 1) cap)) w1) : wpList Try.prog ops Q (o :: rest) a W := by
  obtain ⟨i0, hi0, hz⟩ := Option.map_eq_some_iff.1 info76s
  simp only [Prod.mk.injEq] at hz
  obtain ⟨hz0, hz1, hz2⟩ := hz
  refine wpList_append_lies (w := W) hgd sv xv 68 ho base 76 i0 (.agg #[.int .i64 0, .int .i64 0]) 2 16 Try.underlying68 hi0 hz0 hz1 hz2 rfl (by omega) vc cs.length (flat cs) hs h.cells ⟨C, 0, none⟩ 1 1 [.int .i64 x, .int .i64 y] hx rfl (World.news_of_block hC) (by intro u hu; simp at hu; rcases hu with rfl | rfl <;> rfl) (by omega) (by unfold maxLen; omega) (by omega) hbase _ rfl ?_
  intro g1 cap w1 hown hg hat hlt
  have hown' : w1.ownsRow base 76 2 (.slice (some ⟨g1, 0, none⟩) (cs.length + 1) cap) (cs ++ [(x, y)]).length (flat (cs ++ [(x, y)])) := by rw [flat_app, List.length_append, List.length_singleton]; exact hown
  exact k g1 cap w1 ⟨h.hm, h.map.move (hg.block gm h.lt (fun e => h.apart e.symm)), hown'⟩ ((Below.refl base W).grown hg hbase (own_base h.cells)) hg hat
theorem HpAt.entry {W : World} {base gm N : Nat} {vc : Value} {M : Fld} {cs : List (Int × Int)} (h : HpAt W base gm N vc M cs) {x y : Int} (hx : (Lit.int .i64 x).wf = true) (hy : (Lit.int .i64 y).wf = true) (hN : N ≤ 80000000) {r : Int} (hr : (Lit.int .i64 r).wf = true) :
    ∃ (c : Value) (st : Int) (w6 w8 : World), (Instr.mapEntry 67 (.map (some gm)) (.agg #[.int .i64 x, .int .i64 y])).run Try.prog W = .ok (.tuple #[c, .int .i64 st]) w6 ∧
      (Instr.lookup 67 (.map (some gm)) (.agg #[.int .i64 x, .int .i64 y]) false).run Try.prog w6 = .ok (.int .i64 ((M x y).getD 0)) w6 ∧
      (Instr.entryStore 67 (.map (some gm)) (.int .i64 st) (.int .i64 r)).run Try.prog w6 = .ok () w8 ∧ HpAt w8 base gm (N + 1) vc (upd M x y r) cs ∧
      (∀ b, b < W.heap.size → b ≠ gm → w6.heap[b]? = W.heap[b]?) ∧ (∀ b, b < W.heap.size → b ≠ gm → w8.heap[b]? = W.heap[b]?) ∧ (∀ w0, base ≤ W.heap.size → Below base w0 W → Below base w0 w8) := by
  obtain ⟨cv, st, w6, w7, hE6, hg6, hl6, hS7, hM7, hg7⟩ := h.map.entry hx hy hN hr
  have k6 : ∀ b, b < W.heap.size → b ≠ gm → w6.heap[b]? = W.heap[b]? := fun b h1 h2 => hg6.block b h1 (fun e => h2 (Option.some.inj e))
  have k7 : ∀ b, b < W.heap.size → b ≠ gm → w7.heap[b]? = W.heap[b]? := fun b h1 h2 => (hg7.block b (Nat.lt_of_lt_of_le h1 hg6.size) (fun e => h2 (Option.some.inj e))).trans (k6 b h1 h2)
  refine ⟨cv, st, w6, w7, hE6, hl6, hS7, ⟨h.hm, hM7, own_move h.cells fun k hk => k7 k (own_lt h.cells k hk) (fun e => h.apart (by rw [hk, e]))⟩, k6, k7, fun w0 hb hB => ?_⟩
  exact (hB.grown hg6 hb (fun j hj => by cases hj; exact h.hm)).grown hg7 (Nat.le_trans hb hg6.size) (fun j hj => by cases hj; exact h.hm)
theorem heapM_bd (M : Fld) (x y t : Int) (ht : 0 ≤ t) (a b : Int) : ∀ j, -(4 * t) ≤ (heapM M x y t j a b).getD 0 - (M a b).getD 0 ∧ (heapM M x y t j a b).getD 0 - (M a b).getD 0 ≤ j * t
  | 0 => by
    simp only [heapM]
    rw [upd_get]
    by_cases e : a = x ∧ b = y
    · rw [if_pos e, e.1, e.2]; simp; omega
    · rw [if_neg e]; simp; omega
  | j + 1 => by
    obtain ⟨h1, h2⟩ := heapM_bd M x y t ht a b j
    simp only [heapM]
    rw [addC_get]
    have e : ((j + 1 : Nat) : Int) * t = j * t + t := by rw [Int.natCast_add, Int.add_mul]; simp
    rw [e]
    split <;> omega
theorem heapM_bd4 (M : Fld) (x y t : Int) (ht : 0 ≤ t) (a b : Int) {j : Nat} (hj : j ≤ 4) : -(4 * t) ≤ (heapM M x y t j a b).getD 0 - (M a b).getD 0 ∧ (heapM M x y t j a b).getD 0 - (M a b).getD 0 ≤ 4 * t := by
  obtain ⟨h1, h2⟩ := heapM_bd M x y t ht a b j
  have h3 := Int.mul_le_mul_of_nonneg_right (show (j : Int) ≤ 4 by omega) ht
  omega
theorem bdN1 {N N1 j q : Nat} {S : Int} (h : (N : Int) ≤ 1 + 5 * S) (hS : S ≤ 1209) (hj : j + (q + 1) = 4 ∧ N1 = N + 1 + j) : N1 ≤ 80000000 := by omega
theorem bdNx {N : Nat} {S : Int} (h : (N : Int) ≤ 1 + 5 * S) (hS : S ≤ 1209) : N ≤ 100000 := by omega
theorem bdN0 {N : Nat} {S : Int} (h : (N : Int) ≤ 1 + 5 * S) (hS : S ≤ 1209) : N ≤ 80000000 := by omega
theorem wfG {g t : Int} (hg : -5000 ≤ g ∧ g ≤ 15000) (h1 : 1 ≤ t) (h2 : t ≤ 1250) : (Lit.int .i64 (g + t)).wf = true ∧ wrap64 (g + t) = g + t := ⟨i64_ok (by omega) (by omega), wrap_id (by omega) (by omega)⟩
theorem apX {vc : Value} {g1 X n cap : Nat} {W : World} {o : Obj} (hvX : vc.ownBlock ≠ some X) (hX : X < W.heap.size) (h : vc.ownBlock = some g1 ∨ g1 = (W.alloc o).heap.size) : (Value.slice (some ⟨g1, 0, none⟩) n cap).ownBlock ≠ some X := by
  intro e
  have e1 : g1 = X := by simpa [Value.ownBlock] using e
  subst e1
  rcases h with h | h
  · exact hvX h
  · simp at h
    omega
theorem bdJ {N N1 j q : Nat} (hj : j + (q + 1) = 4 ∧ N1 = N + 1 + j) : j + 1 + q = 4 ∧ N1 + 1 = N + 1 + (j + 1) := by omega
theorem MapIs.put {W : World} {gm N : Nat} {F : Fld} (h : MapIs W gm N F) {x y r : Int} (hx : (Lit.int .i64 x).wf = true) (hy : (Lit.int .i64 y).wf = true) (hr : (Lit.int .i64 r).wf = true) (hN : N ≤ 80000000) :
    ∃ w8, (Instr.mapUpdate 67 (.map (some gm)) (.agg #[.int .i64 x, .int .i64 y]) (.int .i64 r)).run Try.prog W = .ok () w8 ∧ MapIs w8 gm (N + 1) (upd F x y r) ∧ W.grownBy w8 (some gm) := by
  obtain ⟨D, hown, hfi⟩ := h
  obtain ⟨w8, h1, h2, h3⟩ := hown.update law76 Try.underlying67 (by unfold maxLen; omega) (key_is x y hx hy) (plainElem_int Try.underlying3 hr)
  exact ⟨w8, h1, ⟨_, h2, hfi.put hown.isMap hx hy⟩, h3⟩
theorem S2_zero : S2 (fun _ _ => 0) = 0 := by decide +kernel
theorem quo4 {h : Int} (h4 : 4 ≤ h) : Int.tdiv h 4 = h / 4 ∧ 1 ≤ h / 4 ∧ 4 * (h / 4) ≤ h ∧ h - 4 * (h / 4) < 4 := ⟨Int.tdiv_eq_ediv_of_nonneg (by omega), by omega, by omega, by omega⟩
def Tc10 : Bool × List (List Nat × List Nat) := (true, [([], []), ([], []), ([0, 1], [0, 1]), ([], []), ([3], [3]), ([2, 4], [2, 4]), ([0, 1, 0, 1, 3, 4], [0, 1]), ([6], [6]), ([0, 7, 5, 6, 0, 1, 2, 3, 4, 5, 6, 7], [0, 5, 7])])
def Bc10 : List Nat := [0, 0, 3, 0, 8, 31, 27, 91, 255]
theorem tabc10 : rtab .any (opsOf Try.f81 10) = Tc10 := by kernel_rfl
theorem bitsc10 : waitsOk Tc10.2 Bc10 = true := by kernel_rfl
def Tc15 : Bool × List (List Nat × List Nat) := (true, [([], []), ([], []), ([0, 1], [0, 1]), ([], []), ([2, 3], [2, 3]), ([0, 1, 0, 1, 3], [0, 1]), ([5], [5]), ([0, 6, 4, 5, 0, 1, 2, 3, 4, 5, 6], [0, 4, 6])])
def Bc15 : List Nat := [0, 0, 3, 0, 15, 11, 43, 127]
theorem tabc15 : rtab .any (opsOf Try.f81 15) = Tc15 := by kernel_rfl
theorem bitsc15 : waitsOk Tc15.2 Bc15 = true := by kernel_rfl
set_option maxHeartbeats 4000000 in
set_option maxRecDepth 100000 in
theorem heapOf_calls (n : Int) (hn : 1 ≤ n ∧ n ≤ 250) (w : World) : Calls Try.prog 81 #[.int .i64 n] w (HpOut w n) := by
  have hu76 := Try.underlying76
  have hmm := @run_makeMap Try.prog
  have hn0 : n > 0 := by omega
  have hm0 : MapIs (w.alloc (.map #[] 0)) w.heap.size 0 (fun _ _ => none) := ⟨_, World.ownsMap_made w Try.prog 76 (plainElem Try.prog 3), FieldIs.nil⟩
  obtain ⟨w8, hst, hm1, hg1⟩ := hm0.put (x := 0) (y := 0) (r := n) (by decide) (by decide) (i64_ok (by omega) (by omega)) (by omega)
  have HB8 : Aside0 (Below w.heap.size w w8) := ⟨((Below.refl w.heap.size w).alloc (Nat.le_refl _) (.map #[] 0)).grown hg1 (by simp) (fun j hj => by cases hj; exact Nat.le_refl _)⟩
  have HM1 := Aside0.mk hm1
  clear hm0 hm1 hg1
  go_enter Try.func81, Try.ntmps81
  go_wp2
  have hs8 := HB8.out.size
  have HP0 : Aside0 (HpAt (w8.alloc (.cells #[.int .i64 0, .int .i64 0] 76)) w.heap.size w.heap.size (0 + 1) (.slice (some ⟨w8.heap.size, 0, none⟩) 1 1) (upd (fun _ _ => none) 0 0 n) [(0, 0)]) :=
    ⟨Nat.le_refl _, HM1.out.move ((MapKept.heap_alloc w8 _).2 _ (by obtain ⟨D, hm, _⟩ := HM1.out; exact hm.lt)), ⟨rfl, .inr ⟨w8.heap.size, 1, _, rfl, hs8, blk_new _ _, Nat.le_refl _, by unfold maxLen; simp, rfl, rfl⟩⟩⟩
  have HB0 : Aside0 (Below w.heap.size w (w8.alloc (.cells #[.int .i64 0, .int .i64 0] 76))) := ⟨HB8.out.alloc hs8 _⟩
  clear hst HM1 HB8 hs8
  go_loopg [4] 6050 (fun m v4 wr => ∃ (vc : Value) (N : Nat) (M : Fld) (cs : List (Int × Int)) (u : Odo), v4 = vc ∧ Aside0 (5 * (1209 - S2 u) + (cs.length : Int) ≤ m) ∧ Aside0 (HInv n u M) ∧ Aside0 (Listed n u cs) ∧ Aside0 (HpAt wr w.heap.size w.heap.size N vc M cs) ∧ Aside0 ((N : Int) ≤ 1 + 5 * S2 u ∧ (cs.length : Int) ≤ 1 + 4 * S2 u ∧ 0 ≤ S2 u ∧ S2 u ≤ 1209) ∧ Aside0 (Below w.heap.size w wr))
  case atStart => exact ⟨_, 0 + 1, _, [(0, 0)], fun _ _ => 0, rfl, ⟨by rw [S2_zero]; decide⟩, ⟨HInv.start hn.1⟩, ⟨Listed.start n⟩, HP0, ⟨by rw [S2_zero]; decide⟩, HB0⟩
  case round =>
    clear HP0 HB0
    obtain ⟨vc, N, M, cs, u, hvc, HI, HV, HL, HP, HN, HB⟩ := hrel
    replace hvc := hvc.symm
    subst hvc
    rcases List.eq_nil_or_concat cs with hcs | ⟨pre, c, hcs⟩
    · subst hcs
      obtain ⟨A, cap, hA, _⟩ := own_reads_row HP.out.cells (reps_flat wr []) rfl
      subst hA
      have hst : ∀ a b, hp n u a b ≤ 3 := fun a b => by
        have h1 := HL.out.all a b
        simp at h1
        omega
      have HST := Aside0.mk hst
      clear hst
      go_wp2_with (fail)
      refine bodyPost_ret (v := .map (some w.heap.size)) (by simp [results, Try.results81, go_sem]) rfl ?_
      exact ⟨_, _, u, M, rfl, HB.out, ⟨HP.out.map⟩, HV, HST, Nat.le_refl _, bdNx HN.out.1 HN.out.2.2.2⟩
    · rw [List.concat_eq_append] at hcs
      subst hcs
      obtain ⟨b, cap, hvs, hbb, hE⟩ := HP.out.cellsAt (by simp)
      obtain ⟨l, hl⟩ : ∃ l, l = pre.length := ⟨_, rfl⟩
      have hlen : (pre ++ [c]).length = l + 1 := by rw [hl]; simp
      rw [hlen] at hvs
      subst hvs
      have hnear := HL.out.near c (by simp)
      obtain ⟨q0, q1⟩ := hE.2 pre.length c (by simp)
      rw [← hl] at q0 q1
      replace hl := Aside0.mk hl
      clear hE
      have hcap : l + 1 ≤ cap := by
        rcases HP.out.cells.2 with ⟨h1, _⟩ | ⟨g, cap1, cur, h1, _, _, h3, _⟩
        · cases h1
        · injection h1 with _ _ e3
          rw [e3, ← hlen]
          exact h3
      have hcapi : (l : Int) ≤ (cap : Int) := by omega
      have hli : (l : Int) + 1 > 0 := by omega
      have hlb : (l : Int) ≤ 5000 := by have := HN.out; rw [hlen] at this; omega
      have hwl := wrap_id (x := (l : Int)) (by omega) (by omega)
      have hll : (l : Int) < (l : Int) + 1 := by omega
      have hwx : (Lit.int .i64 c.1).wf = true := i64_ok (by omega) (by omega)
      have hwy : (Lit.int .i64 c.2).wf = true := i64_ok (by omega) (by omega)
      have HPa := Aside0.mk (HP.out.alloc (.cells #[.int .i64 c.1, .int .i64 c.2] 76))
      have HA0 := Aside0.mk (blk_new wr (.cells #[.int .i64 c.1, .int .i64 c.2] 76))
      have HBa := Aside0.mk (HB.out.alloc HB.out.size (.cells #[.int .i64 c.1, .int .i64 c.2] 76))
      have hlook := HPa.out.map.look0 hwx hwy
      rw [HV.out.val] at hlook
      have hpb := hp_le HV.out.legal hn.2 (by omega) c.1 c.2
      have hpn := HV.out.nn c.1 c.2
      obtain ⟨h, hh⟩ : ∃ h, h = hp n u c.1 c.2 := ⟨_, rfl⟩
      rw [← hh] at hlook hpb hpn
      have hXv : (Value.slice (some ⟨b, 0, none⟩) (l + 1) cap).ownBlock ≠ some wr.heap.size := fun e => Nat.lt_irrefl _ (own_lt HP.out.cells _ e)
      have hXg : w.heap.size ≠ wr.heap.size := fun e => by have := HP.out.lt; omega
      replace hh := Aside0.mk hh
      by_cases h4 : h < 4
      · clear hXv hXg
        cases gk with
        | zero => have := HI.out; rw [hlen] at this; have := HN.out; omega
        | succ m =>
          have HPp : Aside0 (HpAt (wr.alloc (.cells #[.int .i64 c.1, .int .i64 c.2] 76)) w.heap.size w.heap.size N (.slice (some ⟨b, 0, none⟩) l cap) M pre) := ⟨HPa.out.pop hl.out.symm⟩
          go_wp2_with (fail)
          go_roundg m
          case measure => omega
          case rel => exact ⟨_, N, M, pre, u, rfl, ⟨by have := HI.out; rw [hlen] at this; have := hl.out; omega⟩, HV, ⟨HL.out.pop (by rw [← hh.out]; omega)⟩, HPp, ⟨by have := HN.out; rw [hlen] at this; have := hl.out; omega⟩, HBa⟩
      · obtain ⟨k1, k2, k3, k4⟩ := quo4 (h := h) (by omega)
        cases gk with
        | zero => have := HI.out; rw [hlen] at this; have := HN.out; omega
        | succ m =>
          obtain ⟨t, ht⟩ : ∃ t, t = h / 4 := ⟨_, rfl⟩
          rw [← ht] at k1 k2 k3 k4
          have hge : 4 ≤ h := by omega
          replace ht := Aside0.mk ht
          have hwa := wrap_id (x := 4 * t) (by omega) (by omega)
          have hwb : IntKind.i64.wrap (4 * t) = 4 * t := by rw [i64_w]; exact hwa
          have hwc := wrap_id (x := h - 4 * t) (by omega) (by omega)
          have hwd : IntKind.i64.wrap (h - 4 * t) = h - 4 * t := by rw [i64_w]; exact hwc
          go_upto_region 10 with (fail)
          have hsX : w.heap.size ≤ wr.heap.size := HB.out.size
          clear HP HB q0 q1 hlook
          generalize wr.alloc (.cells #[.int .i64 c.1, .int .i64 c.2] 76) = W5 at *
          generalize wr.heap.size = X at *
          have HPd := Aside0.mk HPa.out.drew
          have HAd : Aside0 (W5.drew.heap[X]? = some (.cells #[.int .i64 c.1, .int .i64 c.2] 76 (0, 0))) := ⟨HA0.out⟩
          have HBd := Aside0.mk (below_drew HBa.out)
          clear HPa HA0 HBa
          have a0 := blk_cell HAd.out 0
          have a1 := blk_cell HAd.out 1
          simp only [List.getElem?_toArray, List.getElem?_cons_succ, List.getElem?_cons_zero] at a0 a1
          have hlk := HPd.out.map.look0 hwx hwy
          have hMh : (M c.1 c.2).getD 0 = h := by rw [HV.out.val, ← hh.out]
          obtain ⟨cv, st, w6, w7, hE6, hl6, hS7, hP7, k6, k7, hB7⟩ := HPd.out.entry hwx hwy (bdN0 HN.out.1 HN.out.2.2.2) (r := h - 4 * t) (i64_ok (by omega) (by omega))
          rw [hMh] at hlk hl6
          have hXlt := blk_lt HAd.out
          have HA6 : Aside0 (w6.heap[X]? = some (.cells #[.int .i64 c.1, .int .i64 c.2] 76 (0, 0))) := ⟨(k6 X hXlt (fun e => hXg e.symm)).trans HAd.out⟩
          have HA7 : Aside0 (w7.heap[X]? = some (.cells #[.int .i64 c.1, .int .i64 c.2] 76 (0, 0))) := ⟨(k7 X hXlt (fun e => hXg e.symm)).trans HAd.out⟩
          have b0 := blk_cell HA6.out 0
          have b1 := blk_cell HA6.out 1
          simp only [List.getElem?_toArray, List.getElem?_cons_succ, List.getElem?_cons_zero] at b0 b1
          have HP7 : Aside0 (HpAt w7 w.heap.size w.heap.size (N + 1) (.slice (some ⟨b, 0, none⟩) (l + 1) cap) (heapM M c.1 c.2 t 0) (pre ++ [c])) := ⟨by
            have e : heapM M c.1 c.2 t 0 = upd M c.1 c.2 (h - 4 * t) := by rw [← hMh]; rfl
            rw [e]
            exact hP7⟩
          have HB7 := Aside0.mk (hB7 w HBd.out.size HBd.out)
          clear hP7 k6 k7 hB7 hMh HPd HAd HBd hXlt
          refine start_ (n := 9) (S := fun w' => w'.cell? ⟨X, 0, none⟩ = some (.int .i64 c.1) ∧ w'.cell? ⟨X, 1, none⟩ = some (.int .i64 c.2) ∧ (Instr.lookup 67 (.map (some w.heap.size)) (.agg #[.int .i64 c.1, .int .i64 c.2]) false).run Try.prog w' = .ok (.int .i64 h) w') (ds := [8]) #[false, false, false, false, false, false, false, false, false] (by kernel_rfl) rfl rfl ⟨a0, a1, hlk⟩ (fun hHeld => ?_)
          refine with_tabW tabc10 bitsc10 (fun HT_ HW_ => ?_)
          generalize W5.drew = Y0 at *
          refine pure_ (i := 0) (N := some 39) (v := ?_) (a' := ?_) #[true, false, false, false, false, false, false, false, false] rfl rfl (any_of HT_.out (by kernel_rfl)) (fun _ _ _ h => h) (Or.inl ⟨by rfl, ?_⟩) ?_ ?_
          rotate_left
          · intro w'
            go_simp
            with_reducible rfl
          rotate_left
          · simp only [Act.put, List.setIfInBounds_toArray, List.set_cons_zero, List.set_cons_succ, i64_w, i32_w]
            rfl
          refine pure_ (i := 3) (N := some 42) (v := ?_) (a' := ?_) #[true, false, false, true, false, false, false, false, false] rfl rfl (any_of HT_.out (by kernel_rfl)) (fun _ _ _ h => h) (Or.inl ⟨by rfl, ?_⟩) ?_ ?_
          rotate_left
          · intro w'
            go_simp
            with_reducible rfl
          rotate_left
          · simp only [Act.put, List.setIfInBounds_toArray, List.set_cons_zero, List.set_cons_succ, i64_w, i32_w]
            rfl
          refine pure_ (i := 4) (N := some 43) (v := ?_) (a' := ?_) #[true, false, false, true, true, false, false, false, false] rfl rfl (any_of HT_.out (by kernel_rfl)) (fun _ _ _ h => h) (Or.inl ⟨by rfl, ?_⟩) ?_ ?_
          rotate_left
          · intro w'
            go_simp
            with_reducible rfl
          rotate_left
          · simp only [Act.put, List.setIfInBounds_toArray, List.set_cons_zero, List.set_cons_succ, i64_w, i32_w]
            rfl
          refine take_ (i := 1) (N := some 40) (v := ?_) (a' := ?_) #[true, true, false, true, true, false, false, false, false] rfl rfl (take_ofW HT_.out HW_.out (by kernel_rfl)) (fun _ _ _ h => h) (Or.inl ⟨by rfl, ?_⟩) hHeld ?_ ?_
          rotate_left
          · intro w' hSw; obtain ⟨hS0, hS1, hS2⟩ := hSw
            go_simp
            with_reducible rfl
          rotate_left
          · simp only [Act.put, List.setIfInBounds_toArray, List.set_cons_zero, List.set_cons_succ, i64_w, i32_w]
            rfl
          refine take_ (i := 2) (N := some 41) (v := ?_) (a' := ?_) #[true, true, true, true, true, false, false, false, false] rfl rfl (take_ofW HT_.out HW_.out (by kernel_rfl)) (fun _ _ _ h => h) (Or.inl ⟨by rfl, ?_⟩) hHeld ?_ ?_
          rotate_left
          · intro w' hSw; obtain ⟨hS0, hS1, hS2⟩ := hSw
            go_simp
            with_reducible rfl
          rotate_left
          · simp only [Act.put, List.setIfInBounds_toArray, List.set_cons_zero, List.set_cons_succ, i64_w, i32_w]
            rfl
          refine pure_ (i := 5) (N := some 44) (v := ?_) (a' := ?_) #[true, true, true, true, true, true, false, false, false] rfl rfl (any_of HT_.out (by kernel_rfl)) (fun _ _ _ h => h) (Or.inl ⟨by rfl, ?_⟩) ?_ ?_
          rotate_left
          · intro w'
            go_simp
            with_reducible rfl
          rotate_left
          · simp only [Act.put, List.setIfInBounds_toArray, List.set_cons_zero, List.set_cons_succ, i64_w, i32_w]
            rfl
          refine one_ (i := 6) (N := some 45) #[true, true, true, true, true, true, true, false, false] rfl rfl (one_of HT_.out (by kernel_rfl)) (by decide) (fun K hK => ?_)
          refine value_ (v := .tuple #[cv, .int .i64 st]) (w1 := w6) (by rfl) rfl (by go_simp) ?_
          refine hK.out _ _ ⟨b0, b1, hl6⟩ (fun hHeld => ?_)
          clear hK K a0 a1 hlk hE6
          (try simp only [Act.put, List.setIfInBounds_toArray, List.set_cons_zero, List.set_cons_succ])
          refine pure_ (i := 7) (N := some 46) (v := ?_) (a' := ?_) #[true, true, true, true, true, true, true, true, false] rfl rfl (any_of HT_.out (by kernel_rfl)) (fun _ _ _ h => h) (Or.inl ⟨by rfl, ?_⟩) ?_ ?_
          rotate_left
          · intro w'
            go_simp
            with_reducible rfl
          rotate_left
          · simp only [Act.put, List.setIfInBounds_toArray, List.set_cons_zero, List.set_cons_succ, i64_w, i32_w]
            rfl
          refine lastS_ (i := 8) (w1 := w7) #[true, true, true, true, true, true, true, true, true] rfl rfl (one_of HT_.out (by kernel_rfl)) (by decide) (by rfl) ?_ ?_
          · go_simp
          clear hS7 hl6 b0 b1 hHeld
          (try simp only [Act.put, List.setIfInBounds_toArray, List.set_cons_zero, List.set_cons_succ])
          refine done_ (done_of HT_.out (by kernel_rfl)) ?_
          clear HT_ HW_ HA6
          go_wp2_with (fail)
          have hbox := (HV.out.legal.topple hn.2 k2 (by rw [← hh.out]; exact k3)).1
          have htb : t ≤ 1250 := by omega
          go_loopg [4, 47] 4 (fun q v4 v47 wq => ∃ (vc : Value) (N1 j : Nat), v4 = vc ∧ v47 = .int .i64 (j : Int) ∧ Aside0 (j + q = 4 ∧ N1 = N + 1 + j) ∧ Aside0 (HpAt wq w.heap.size w.heap.size N1 vc (heapM M c.1 c.2 t j) ((pre ++ [c]) ++ nbrs c.1 c.2 j)) ∧ Aside0 (wq.heap[X]? = some (.cells #[.int .i64 c.1, .int .i64 c.2] 76 (0, 0)) ∧ vc.ownBlock ≠ some X) ∧ Aside0 (Below w.heap.size w wq))
          case atStart => exact ⟨_, N + 1, 0, rfl, rfl, ⟨rfl, rfl⟩, ⟨by rw [show nbrs c.1 c.2 0 = [] from rfl, List.append_nil]; exact HP7.out⟩, ⟨HA7.out, hXv⟩, HB7⟩
          case round =>
            clear HP7 HA7 HB7 hXv
            obtain ⟨vc, N1, j, hvc, rfl, HJ, HP, HA, HB⟩ := hrel
            replace hvc := hvc.symm
            subst hvc
            cases gk with
            | zero =>
              have hj : j = 4 := by have := HJ.out.1; omega
              have hji : ¬ ((j : Int) < 4) := by omega
              have HPe := HP
              rw [hj] at HPe
              obtain ⟨_, g2, g3, g4⟩ := HV.out.legal.topple hn.2 k2 (by rw [← hh.out]; exact k3)
              have HT := Aside0.mk (HV.out.topple (by omega) hn.2 k2 (by rw [← hh.out]; exact k3))
              have HLt := Aside0.mk (HL.out.topple hbox k2 (by rw [← hh.out]; exact k4))
              have hN1 := HJ.out.2
              go_wp2_with (fail)
              go_roundg m
              case measure => omega
              case rel => exact ⟨_, N1, heapM M c.1 c.2 t 4, (pre ++ [c]) ++ nbrs c.1 c.2 4, bump u c.1 c.2 t, rfl, ⟨by have := HI.out; rw [List.length_append, nbrs_len, g3]; rw [hlen] at *; omega⟩, HT, HLt, HPe, ⟨by have := HN.out; rw [List.length_append, nbrs_len, g3]; rw [hlen] at *; omega⟩, HB⟩
            | succ q =>
              have hji : (j : Int) < 4 := by have := HJ.out.1; omega
              have hj4 : j ≤ 4 := by omega
              have HE := Aside0.mk (fun W => exit_calls c.1 c.2 (j : Int) W (by omega) (by omega) (by omega))
              obtain ⟨pq, hpq⟩ : ∃ pq, pq = mv4 (j : Int) c.1 c.2 := ⟨_, rfl⟩
              have hpb2 : (-10 ≤ pq.1 ∧ pq.1 ≤ 10) ∧ (-10 ≤ pq.2 ∧ pq.2 ≤ 10) := by
                rw [hpq]
                unfold mv4
                repeat' split
                all_goals (simp only; omega)
              rw [← hpq] at HE
              have hwp := i64_ok (x := pq.1) (by omega) (by omega)
              have hwq := i64_ok (x := pq.2) (by omega) (by omega)
              obtain ⟨g, hgg⟩ : ∃ g, g = (heapM M c.1 c.2 t j pq.1 pq.2).getD 0 := ⟨_, rfl⟩
              have hgb : -5000 ≤ g ∧ g ≤ 15000 := by
                have h1 := heapM_bd4 M c.1 c.2 t (by omega) pq.1 pq.2 hj4
                have h2 := HV.out.val pq.1 pq.2
                have h3 := hp_le HV.out.legal hn.2 (by omega) pq.1 pq.2
                have h4 := HV.out.nn pq.1 pq.2
                rw [← hgg] at h1
                omega
              have hMn : heapM M c.1 c.2 t (j + 1) = upd (heapM M c.1 c.2 t j) pq.1 pq.2 (g + t) := by rw [hgg, hpq]; rfl
              have hNs : (pre ++ [c]) ++ nbrs c.1 c.2 (j + 1) = ((pre ++ [c]) ++ nbrs c.1 c.2 j) ++ [(pq.1, pq.2)] := by rw [nbrs_succ, ← List.append_assoc, hpq]
              have hcl : ((pre ++ [c]) ++ nbrs c.1 c.2 j).length ≤ 1000000 := by have := HN.out; rw [List.length_append, nbrs_len]; omega
              generalize hMj : heapM M c.1 c.2 t j = Mj at *
              generalize hcj : (pre ++ [c]) ++ nbrs c.1 c.2 j = cj at *
              replace hMn := Aside0.mk hMn
              replace hNs := Aside0.mk hNs
              replace hgg := Aside0.mk hgg
              clear hMj hcj hpq
              have hga := (wfG hgb k2 htb).2
              have hgc : IntKind.i64.wrap (g + t) = g + t := by rw [i64_w]; exact hga
              have hwj := wrap_id (x := (j : Int) + 1) (by omega) (by omega)
              have a0 := blk_cell HA.out.1 0
              have a1 := blk_cell HA.out.1 1
              simp at a0 a1
              go_upto_region 15 with (first | (go_at_call 98; (with_reducible refine (HE.out _).mono ?_); rintro e w9 ⟨rfl, hB⟩; have HP9 := Aside0.mk (HP.out.below hB); have HA9 := Aside0.mk ((hB.block _ (blk_lt HA.out.1)).trans HA.out.1); have HB9 := Aside0.mk (below_then HB.out HB.out.size hB); clear hB))
              have HX9 := blk_lt HA9.out
              have HP8 := Aside0.mk (HP9.out.alloc (.cells #[.int .i64 pq.1, .int .i64 pq.2] 76))
              have HA8 := Aside0.mk (((MapKept.heap_alloc w9 (.cells #[.int .i64 pq.1, .int .i64 pq.2] 76)).2 X HX9).trans HA9.out)
              have HQ8 := Aside0.mk (blk_new w9 (.cells #[.int .i64 pq.1, .int .i64 pq.2] 76))
              have HB8 := Aside0.mk (HB9.out.alloc HB9.out.size (.cells #[.int .i64 pq.1, .int .i64 pq.2] 76))
              have hX8 : w.heap.size ≠ w9.heap.size := fun e => by have := HP9.out.lt; omega
              have hv8 : vc.ownBlock ≠ some w9.heap.size := fun e => Nat.lt_irrefl _ (own_lt HP9.out.cells _ e)
              have hvX := HA.out.2
              have hX9 : X ≠ w9.heap.size := by omega
              clear HP HA HB a0 a1 HP9 HA9 HB9 HX9
              generalize w9.alloc (.cells #[.int .i64 pq.1, .int .i64 pq.2] 76) = W8 at *
              generalize w9.heap.size = X8 at *
              have HPd := Aside0.mk HP8.out.drew
              have HAd : Aside0 (W8.drew.heap[X]? = some (.cells #[.int .i64 c.1, .int .i64 c.2] 76 (0, 0))) := ⟨HA8.out⟩
              have HQd : Aside0 (W8.drew.heap[X8]? = some (.cells #[.int .i64 pq.1, .int .i64 pq.2] 76 (0, 0))) := ⟨HQ8.out⟩
              have HBd := Aside0.mk (below_drew HB8.out)
              clear HP8 HA8 HQ8 HB8
              have a0 := blk_cell HQd.out 0
              have a1 := blk_cell HQd.out 1
              simp only [List.getElem?_toArray, List.getElem?_cons_succ, List.getElem?_cons_zero] at a0 a1
              have hlk := HPd.out.map.look0 hwp hwq
              obtain ⟨cv2, st2, w6, w7, hE6, hl6, hS7, hP7, k6, k7, hB7⟩ := HPd.out.entry hwp hwq (bdN1 HN.out.1 HN.out.2.2.2 HJ.out) (r := g + t) (wfG hgb k2 htb).1
              rw [← hgg.out] at hlk hl6
              have hXlt := blk_lt HAd.out
              have hQlt := blk_lt HQd.out
              have HQ6 : Aside0 (w6.heap[X8]? = some (.cells #[.int .i64 pq.1, .int .i64 pq.2] 76 (0, 0))) := ⟨(k6 X8 hQlt (fun e => hX8 e.symm)).trans HQd.out⟩
              have HQ7 : Aside0 (w7.heap[X8]? = some (.cells #[.int .i64 pq.1, .int .i64 pq.2] 76 (0, 0))) := ⟨(k7 X8 hQlt (fun e => hX8 e.symm)).trans HQd.out⟩
              have HA7 : Aside0 (w7.heap[X]? = some (.cells #[.int .i64 c.1, .int .i64 c.2] 76 (0, 0))) := ⟨(k7 X hXlt (fun e => hXg e.symm)).trans HAd.out⟩
              have b0 := blk_cell HQ6.out 0
              have b1 := blk_cell HQ6.out 1
              simp only [List.getElem?_toArray, List.getElem?_cons_succ, List.getElem?_cons_zero] at b0 b1
              have HP7 := Aside0.mk hP7
              have HB7 := Aside0.mk (hB7 w HBd.out.size HBd.out)
              clear hP7 k6 k7 hB7 HPd HAd HQd HBd hXlt hQlt
              refine start_ (n := 8) (S := fun w' => w'.cell? ⟨X8, 0, none⟩ = some (.int .i64 pq.1) ∧ w'.cell? ⟨X8, 1, none⟩ = some (.int .i64 pq.2) ∧ (Instr.lookup 67 (.map (some w.heap.size)) (.agg #[.int .i64 pq.1, .int .i64 pq.2]) false).run Try.prog w' = .ok (.int .i64 g) w') (ds := [7]) #[false, false, false, false, false, false, false, false] (by kernel_rfl) rfl rfl ⟨a0, a1, hlk⟩ (fun hHeld => ?_)
              refine with_tabW tabc15 bitsc15 (fun HT_ HW_ => ?_)
              generalize W8.drew = Z0 at *
              refine pure_ (i := 0) (N := some 53) (v := ?_) (a' := ?_) #[true, false, false, false, false, false, false, false] rfl rfl (any_of HT_.out (by kernel_rfl)) (fun _ _ _ h => h) (Or.inl ⟨by rfl, ?_⟩) ?_ ?_
              rotate_left
              · intro w'
                go_simp
                with_reducible rfl
              rotate_left
              · simp only [Act.put, List.setIfInBounds_toArray, List.set_cons_zero, List.set_cons_succ, i64_w, i32_w]
                rfl
              refine pure_ (i := 3) (N := some 56) (v := ?_) (a' := ?_) #[true, false, false, true, false, false, false, false] rfl rfl (any_of HT_.out (by kernel_rfl)) (fun _ _ _ h => h) (Or.inl ⟨by rfl, ?_⟩) ?_ ?_
              rotate_left
              · intro w'
                go_simp
                with_reducible rfl
              rotate_left
              · simp only [Act.put, List.setIfInBounds_toArray, List.set_cons_zero, List.set_cons_succ, i64_w, i32_w]
                rfl
              refine take_ (i := 1) (N := some 54) (v := ?_) (a' := ?_) #[true, true, false, true, false, false, false, false] rfl rfl (take_ofW HT_.out HW_.out (by kernel_rfl)) (fun _ _ _ h => h) (Or.inl ⟨by rfl, ?_⟩) hHeld ?_ ?_
              rotate_left
              · intro w' hSw; obtain ⟨hS0, hS1, hS2⟩ := hSw
                go_simp
                with_reducible rfl
              rotate_left
              · simp only [Act.put, List.setIfInBounds_toArray, List.set_cons_zero, List.set_cons_succ, i64_w, i32_w]
                rfl
              refine take_ (i := 2) (N := some 55) (v := ?_) (a' := ?_) #[true, true, true, true, false, false, false, false] rfl rfl (take_ofW HT_.out HW_.out (by kernel_rfl)) (fun _ _ _ h => h) (Or.inl ⟨by rfl, ?_⟩) hHeld ?_ ?_
              rotate_left
              · intro w' hSw; obtain ⟨hS0, hS1, hS2⟩ := hSw
                go_simp
                with_reducible rfl
              rotate_left
              · simp only [Act.put, List.setIfInBounds_toArray, List.set_cons_zero, List.set_cons_succ, i64_w, i32_w]
                rfl
              refine pure_ (i := 4) (N := some 57) (v := ?_) (a' := ?_) #[true, true, true, true, true, false, false, false] rfl rfl (any_of HT_.out (by kernel_rfl)) (fun _ _ _ h => h) (Or.inl ⟨by rfl, ?_⟩) ?_ ?_
              rotate_left
              · intro w'
                go_simp
                with_reducible rfl
              rotate_left
              · simp only [Act.put, List.setIfInBounds_toArray, List.set_cons_zero, List.set_cons_succ, i64_w, i32_w]
                rfl
              refine one_ (i := 5) (N := some 58) #[true, true, true, true, true, true, false, false] rfl rfl (one_of HT_.out (by kernel_rfl)) (by decide) (fun K hK => ?_)
              refine value_ (v := .tuple #[cv2, .int .i64 st2]) (w1 := w6) (by rfl) rfl (by go_simp) ?_
              refine hK.out _ _ ⟨b0, b1, hl6⟩ (fun hHeld => ?_)
              clear hK K a0 a1 hlk hE6
              (try simp only [Act.put, List.setIfInBounds_toArray, List.set_cons_zero, List.set_cons_succ])
              refine pure_ (i := 6) (N := some 59) (v := ?_) (a' := ?_) #[true, true, true, true, true, true, true, false] rfl rfl (any_of HT_.out (by kernel_rfl)) (fun _ _ _ h => h) (Or.inl ⟨by rfl, ?_⟩) ?_ ?_
              rotate_left
              · intro w'
                go_simp
                with_reducible rfl
              rotate_left
              · simp only [Act.put, List.setIfInBounds_toArray, List.set_cons_zero, List.set_cons_succ, i64_w, i32_w]
                rfl
              refine lastS_ (i := 7) (w1 := w7) #[true, true, true, true, true, true, true, true] rfl rfl (one_of HT_.out (by kernel_rfl)) (by decide) (by rfl) ?_ ?_
              · go_simp
              clear hS7 hl6 b0 b1 hHeld
              (try simp only [Act.put, List.setIfInBounds_toArray, List.set_cons_zero, List.set_cons_succ])
              refine done_ (done_of HT_.out (by kernel_rfl)) ?_
              clear HT_ HW_ HQ6
              have HPb := Aside0.mk (HP7.out.alloc (.cells #[.int .i64 pq.1, .int .i64 pq.2] 76))
              have HBb := Aside0.mk (HB7.out.alloc HB7.out.size (.cells #[.int .i64 pq.1, .int .i64 pq.2] 76))
              have HAb := Aside0.mk (((MapKept.heap_alloc w7 (.cells #[.int .i64 pq.1, .int .i64 pq.2] 76)).2 X (blk_lt HA7.out)).trans HA7.out)
              have hXlt := blk_lt HA7.out
              have e0 := blk_cell HQ7.out 0
              have e1 := blk_cell HQ7.out 1
              simp only [List.getElem?_toArray, List.getElem?_cons_succ, List.getElem?_cons_zero] at e0 e1
              have hbs := HBb.out.size
              replace hXlt := Aside0.mk hXlt
              go_wp2_with (first | ((with_reducible refine gate_builtin (b := .append) (xs := #[.tmp 60, .tmp 62]) rfl ?_); refine wpList_appH rfl (.tmp 60) (.tmp 62) rfl rfl rfl HPb.out hbs hcl (blk_new w7 _) ?_; intro g1 cap1 w11 hP hB hgr hat; have HP11 := Aside0.mk hP; have HB11 := Aside0.mk (HBb.out.trans hB); have HA11 := Aside0.mk ((hgr.block X (blk_lt HAb.out) (fun e => hvX e.symm)).trans HAb.out); have hat1 := Aside0.mk hat; clear hP hB hgr hat))
              (try simp only [hwj])
              go_roundg q
              case measure => omega
              case rel => exact ⟨.slice (some ⟨g1, 0, none⟩) (cj.length + 1) cap1, N1 + 1, j + 1, rfl, by first | rfl | go_num, ⟨bdJ HJ.out⟩, ⟨by rw [hMn.out, hNs.out]; exact HP11.out⟩, ⟨HA11.out, apX hvX hXlt.out hat1.out⟩, HB11⟩
end Go.Proofs.Ytjedhjeijpbobaa.G8

/-! ## Hu -/
namespace Go.Proofs.Ytjedhjeijpbobaa.G8
open Go.RowKit Go.Maps Go.MapKept Go.WideShapes Go.ChangeMaps Go.Proofs.YtjedhjeijpbobaaW.PrintWords Go.Proofs.YtjedhjeijpbobaaW.PrintLast Go.Proofs.YtjedhjeijpbobaaW.PrintMore
set_option linter.unusedVariables false
set_option linter.unusedSimpArgs false
set_option maxRecDepth 100000 in
theorem lit_inv (d : Nat) {v : Value} {ls : List Lit} (h : Try.prog.keyLits (d + 1) 3 [v] = some ls) : ∃ x : Int, v = .int .i64 x ∧ (Lit.int .i64 x).wf = true := by
  unfold Program.keyLits at h
  rw [Try.underlying3] at h
  cases v <;> simp at h
  rename_i k x
  obtain ⟨⟨rfl, hw⟩, _⟩ := h
  exact ⟨x, rfl, hw⟩
set_option maxRecDepth 100000 in
theorem key_inv {key : Value} {kl : Lit} (h : keyOf Try.prog 76 key = some kl) : ∃ p : Int × Int, key = cellV p.1 p.2 ∧ (Lit.int .i64 p.1).wf = true ∧ (Lit.int .i64 p.2).wf = true := by
  obtain ⟨d, hd⟩ : ∃ d, Try.prog.types.size + 1 = d + 2 := ⟨Try.prog.types.size - 1, by have h : 76 < Try.prog.types.size := row76; omega⟩
  unfold keyOf at h
  rw [Try.underlying76, hd] at h
  simp only at h
  split at h
  · rename_i hc
    rw [Bool.and_eq_true] at hc
    have hf := hc.2
    obtain ⟨ls, hls, _⟩ := Option.map_eq_some_iff.1 h
    cases key with
    | agg cs =>
      simp [Value.formed, Try.underlying76, cells76] at hf
      obtain ⟨cs⟩ := cs
      match cs, hf with
      | [a, b], _ =>
        unfold Program.keyLits at hls
        rw [Try.underlying76] at hls
        simp [Value.cells, cells76, cells3] at hls
        obtain ⟨q1, hq1, hq3⟩ := Option.bind_eq_some_iff.1 hls
        simp at hq3
        obtain ⟨q2, hq2⟩ : ∃ q2, Try.prog.keyLits (d + 1) 3 [b] = some q2 := by
          cases hk : Try.prog.keyLits (d + 1) 3 [b] with
          | none => rw [hk] at hq3; simp at hq3
          | some q2 => exact ⟨q2, rfl⟩
        obtain ⟨x, rfl, hx⟩ := lit_inv d hq1
        obtain ⟨y, rfl, hy⟩ := lit_inv d hq2
        exact ⟨(x, y), rfl, hx, hy⟩
    | _ => simp [Value.formed, Try.underlying76] at hf
  · cases h
abbrev wfI (x : Int) : Prop := (Lit.int .i64 x).wf = true
/-- The cells met so far: those that are there and no longer to come, each once. -/
structure Coll (F : Fld) (left : Lit → Bool) (cs : List (Int × Int)) : Prop where
  once : cs.Nodup
  wf : ∀ c ∈ cs, wfI c.1 ∧ wfI c.2
  is : ∀ x y, wfI x → wfI y → ((x, y) ∈ cs ↔ (F x y).isSome = true ∧ left (keyLit x y) = false)
theorem Coll.start {H : Type} {D : DataW H} {F : Fld} (h : FieldIs D F) : Coll F (Maps.has D) [] := by
  refine ⟨List.nodup_nil, fun c hc => by simp at hc, fun x y hx hy => ?_⟩
  rw [h.has x y hx hy]
  cases F x y <;> simp
theorem Coll.step {F : Fld} {left : Lit → Bool} {cs : List (Int × Int)} (h : Coll F left cs) {x y : Int} (hx : wfI x) (hy : wfI y) (hl : left (keyLit x y) = true) (hs : (F x y).isSome = true) : Coll F (fun z => left z && !z.sameKey (keyLit x y)) (cs ++ [(x, y)]) := by
  have hk : WideAt.IsKeyLit (keyLit x y) := law76.key (key_is x y hx hy)
  have hno : (x, y) ∉ cs := fun hm => by
    have := ((h.is x y hx hy).1 hm).2
    rw [hl] at this
    cases this
  refine ⟨?_, fun c hc => ?_, fun a b ha hb => ?_⟩
  · rw [List.nodup_append]
    refine ⟨h.once, by simp, fun p hp q hq => ?_⟩
    simp at hq
    subst hq
    rintro rfl
    exact hno hp
  · simp only [List.mem_append, List.mem_singleton] at hc
    rcases hc with hc | rfl
    · exact h.wf c hc
    · exact ⟨hx, hy⟩
  · simp only [List.mem_append, List.mem_singleton, Prod.mk.injEq]
    rw [h.is a b ha hb]
    by_cases e : a = x ∧ b = y
    · rw [e.1, e.2]
      simp [hs, WideAt.sameKey_self hk]
    · have hne := key_ne hx hy ha hb e
      have hsk : (keyLit a b).sameKey (keyLit x y) = false := by
        cases q : (keyLit a b).sameKey (keyLit x y) with
        | false => rfl
        | true => exact absurd (WideAt.sameKey_eq q) hne
      simp only [e, or_false, hsk, Bool.not_false, Bool.and_true]
theorem wpList_appL {ops : Array Oper} {rest : List Oper} {o : Oper} {a : Act} {Q : Exit → Act → World → Prop} {W : World} {base : Nat} {vc : Value} {cs : List (Int × Int)} {x y : Int} {C : Nat} (hgd : o.guard = none) (sv xv : Operand) (ho : o.op = .call { callee := .builtin .append, args := #[sv, xv], argTypes := #[68, 68] })
    (hs : a.eval sv = vc) (hx : a.eval xv = .slice (some ⟨C, 0, none⟩) 1 1) (h : W.ownsRow base 76 2 vc cs.length (flat cs)) (hbase : base ≤ W.heap.size) (hl : cs.length ≤ 1000000) (hC : W.heap[C]? = some (.cells #[.int .i64 x, .int .i64 y] 76 (0, 0)))
    (k : ∀ g1 cap w1, w1.ownsRow base 76 2 (.slice (some ⟨g1, 0, none⟩) (cs.length + 1) cap) (cs ++ [(x, y)]).length (flat (cs ++ [(x, y)])) → Below base W w1 → W.grownBy w1 vc.ownBlock →
      wpList Try.prog ops Q rest (a.put o.dst (.slice (some ⟨g1, 0, none⟩) (cs.length + 1) cap)) w1) : wpList Try.prog ops Q (o :: rest) a W := by
  obtain ⟨i0, hi0, hz⟩ := Option.map_eq_some_iff.1 info76s
  simp only [Prod.mk.injEq] at hz
  obtain ⟨hz0, hz1, hz2⟩ := hz
  refine wpList_append_lies (w := W) hgd sv xv 68 ho base 76 i0 (.agg #[.int .i64 0, .int .i64 0]) 2 16 Try.underlying68 hi0 hz0 hz1 hz2 rfl (by omega) vc cs.length (flat cs) hs h ⟨C, 0, none⟩ 1 1 [.int .i64 x, .int .i64 y] hx rfl (World.news_of_block hC) (by intro u hu; simp at hu; rcases hu with rfl | rfl <;> rfl) (by omega) (by unfold maxLen; omega) (by omega) hbase _ rfl ?_
  intro g1 cap w1 hown hg hat hlt
  exact k g1 cap w1 (by rw [flat_app, List.length_append, List.length_singleton]; exact hown) ((Below.refl base W).grown hg hbase (own_base h)) hg
theorem ranges_apart {w : World} {gm r N n : Nat} {D : DataW Nat} {left : Lit → Bool} {cnt : Nat} {base : Nat} {vc : Value} {xs : List Value} (h : w.ranges Try.prog 76 (plainElem Try.prog 3) gm r N D left cnt) (hv : w.ownsRow base 76 2 vc n xs) : some r ≠ vc.ownBlock ∧ some gm ≠ vc.ownBlock := by
  obtain ⟨es, clock, since, seen, c0, hb, _, _, _, hr, _⟩ := h
  constructor
  · intro e
    obtain ⟨cells, hc⟩ := own_typed hv r e.symm
    rw [hr] at hc
    cases hc
  · intro e
    obtain ⟨cells, hc⟩ := own_typed hv gm e.symm
    rw [hb] at hc
    cases hc
def CellsOut (w : World) (F : Fld) (e : Ending) (w' : World) : Prop := ∃ vc cs, e = .returned vc ∧ Below w.heap.size w w' ∧ Aside0 (w'.ownsRow w.heap.size 76 2 vc cs.length (flat cs)) ∧ cs.length ≤ 100000 ∧ cs.Nodup ∧ (∀ c ∈ cs, wfI c.1 ∧ wfI c.2) ∧ ∀ x y, wfI x → wfI y → ((x, y) ∈ cs ↔ (F x y).isSome = true)
set_option maxHeartbeats 4000000 in
set_option maxRecDepth 100000 in
theorem cellsOf_calls (gm N : Nat) (F : Fld) (w : World) (hM : MapIs w gm N F) (hN : N ≤ 100000) : Calls Try.prog 80 #[.map (some gm)] w (CellsOut w F) := by
  have hu76 := Try.underlying76
  obtain ⟨D, hown, hfi⟩ := hM
  have hsz := hown.size_le
  have hgl := hown.lt
  have HO := Aside0.mk hown
  have HF := Aside0.mk hfi
  clear hown hfi
  go_enter Try.func80, Try.ntmps80
  go_wp2_with (first | (at_range; refine wpList_range_own _ rfl _ 67 rfl 76 3 law76 Try.underlying67 _ gm N _ rfl (HO.out.kept (World.grownBy_alloc w (.cells #[] 76) none) (by simp)) ?_; intro w0 hrg0 hg0 hs0))
  go_frame
  have e1 : (w.alloc (.cells #[] 76)).heap.size = w.heap.size + 1 := by simp
  rw [e1] at hrg0 hs0 ⊢
  have HRG0 := Aside0.mk hrg0
  have HB0 : Aside0 (Below w.heap.size w w0) := ⟨((Below.refl w.heap.size w).alloc (Nat.le_refl _) (.cells #[] 76)).grown hg0 (by simp) (fun j hj => by cases hj)⟩
  have HR0 : Aside0 (w0.ownsRow w.heap.size 76 2 (.slice (some ⟨w.heap.size, 0, none⟩) 0 0) 0 (flat [])) := ⟨⟨rfl, .inr ⟨w.heap.size, 0, #[], rfl, Nat.le_refl _, (hg0.block _ (by simp) (by simp)).trans (blk_new w _), Nat.le_refl _, by unfold maxLen; simp, rfl, rfl⟩⟩⟩
  clear hrg0 hg0 hs0
  go_loopg [3] (Maps.size D) (fun m v3 wr => ∃ (vc : Value) (left : Lit → Bool) (cnt : Nat) (cs : List (Int × Int)), v3 = vc ∧ Aside0 (wr.ranges Try.prog 76 (plainElem Try.prog 3) gm (w.heap.size + 1) N D left cnt) ∧ Aside0 (cnt ≤ m ∧ cs.length + cnt ≤ N) ∧ Aside0 (Coll F left cs) ∧ Aside0 (wr.ownsRow w.heap.size 76 2 vc cs.length (flat cs)) ∧ Aside0 (Below w.heap.size w wr))
  case atStart => exact ⟨_, _, _, [], rfl, HRG0, ⟨Nat.le_refl _, by simpa using hsz⟩, ⟨Coll.start HF.out⟩, HR0, HB0⟩
  case round =>
    clear HRG0 HB0 HR0
    obtain ⟨vc, left, cnt, cs, hvc, HRG, HI, HC, HR, HB⟩ := hrel
    replace hvc := hvc.symm
    subst hvc
    obtain ⟨ap1, ap2⟩ := ranges_apart HRG.out HR.out
    go_wp2_with (first | (at_next; refine wpList_next_ranges _ rfl (.tmp 7) rfl 76 law76 (plainElem Try.prog 3) (fun p : Int × Int => cellV p.1 p.2) (Value.int .i64) (fun key kl h => by obtain ⟨p, hp, _⟩ := key_inv h; exact ⟨p, hp⟩) (fun v y hv => by obtain ⟨c, rfl, _⟩ := plainElem_int_inv Try.underlying3 hv; exact ⟨c, rfl⟩) gm (w.heap.size + 1) N D left cnt rfl HRG.out ?_ ?_))
    · intro hc0 hl0
      have hlen : cs.length ≤ 100000 := by have := HI.out.2; omega
      have HE : Aside0 (∀ x y, wfI x → wfI y → ((x, y) ∈ cs ↔ (F x y).isSome = true)) := ⟨fun x y hx hy => by rw [HC.out.is x y hx hy, hl0]; simp⟩
      clear hc0 hl0
      go_wp2_with (fail)
      refine bodyPost_ret (v := vc) (by simp [results, Try.results80, go_sem]) rfl ?_
      exact ⟨vc, cs, rfl, HB.out, HR, hlen, HC.out.once, HC.out.wf, HE.out⟩
    · intro px py c kl y1 y2 w1 cnt1 hkey hlk hRv hat hrg1 hlt hg1 hs1 hen
      cases gk with
      | zero => have := HI.out.1; omega
      | succ m =>
        obtain ⟨p2, hp2, hx, hy⟩ := key_inv hkey
        obtain ⟨hp21, hp22⟩ : px = p2.1 ∧ py = p2.2 := by
          injection hp2 with hp2
          have h3 := congrArg Array.toList hp2
          simp at h3
          exact h3
        rw [← hp21] at hx
        rw [← hp22] at hy
        have hkl : keyLit px py = kl := Option.some.inj ((key_is px py hx hy).symm.trans hkey)
        have hsome : (F px py).isSome = true := by
          rw [← HF.out.has px py hx hy, hkl]
          exact Maps.has_true_of_atKey hat
        have HC1 := Aside0.mk (HC.out.step hx hy (by rw [hkl]; exact hlk) hsome)
        rw [hkl] at HC1
        have HRG1 := Aside0.mk hrg1
        have HR1 : Aside0 (w1.ownsRow w.heap.size 76 2 vc cs.length (flat cs)) := ⟨own_move HR.out fun k hk => hg1.block k (own_lt HR.out k hk) (fun e => ap1 (by rw [hk, e]))⟩
        have HB1 : Aside0 (Below w.heap.size w w1) := ⟨HB.out.grown hg1 HB.out.size (fun j hj => by cases hj; exact Nat.le_succ _)⟩
        have hcl : cs.length ≤ 1000000 := by have := HI.out.2; omega
        have HI1 : Aside0 (cnt1 ≤ m ∧ cs.length + 1 + cnt1 ≤ N) := ⟨by have := HI.out; omega⟩
        clear hkey hlk hRv hat hrg1 hg1 hs1 hp2 hp21 hp22 hkl hsome HRG HR HB HC hlt
        have hs1 := HB1.out.size
        have HRb : Aside0 (((w1.alloc (.cells #[.int .i64 px, .int .i64 py] 76)).alloc (.cells #[.int .i64 px, .int .i64 py] 76)).ownsRow w.heap.size 76 2 vc cs.length (flat cs)) := ⟨own_move HR1.out fun k hk => ((MapKept.heap_alloc _ _).2 k (by have := own_lt HR1.out k hk; simp; omega)).trans ((MapKept.heap_alloc w1 _).2 k (own_lt HR1.out k hk))⟩
        have HBb : Aside0 (Below w.heap.size w ((w1.alloc (.cells #[.int .i64 px, .int .i64 py] 76)).alloc (.cells #[.int .i64 px, .int .i64 py] 76))) := ⟨(HB1.out.alloc hs1 _).alloc (by simp; omega) _⟩
        have HGb : Aside0 (((w1.alloc (.cells #[.int .i64 px, .int .i64 py] 76)).alloc (.cells #[.int .i64 px, .int .i64 py] 76)).ranges Try.prog 76 (plainElem Try.prog 3) gm (w.heap.size + 1) N D (fun z => left z && !z.sameKey kl) cnt1) := ⟨(HRG1.out.alloc _).alloc _⟩
        go_wp2_with (first | ((with_reducible refine gate_builtin (b := .append) (xs := #[.tmp 12, .tmp 14]) rfl ?_); refine wpList_appL rfl (.tmp 12) (.tmp 14) rfl rfl rfl HRb.out HBb.out.size hcl (by first | exact two_new1 w1 _ _ | exact blk_new _ _) ?_; intro g1 cap1 w11 hR hB hgr; have HR11 := Aside0.mk hR; have HB11 := Aside0.mk (HBb.out.trans hB); have HG11 := Aside0.mk (HGb.out.kept hgr ap2 ap1); clear hR hB hgr))
        trace_state
        go_roundg m
        case measure => omega
        case rel => exact ⟨_, _, cnt1, cs ++ [(px, py)], rfl, HG11, ⟨by have := HI1.out; rw [List.length_append, List.length_singleton]; exact this⟩, HC1, HR11, HB11⟩
end Go.Proofs.Ytjedhjeijpbobaa.G8

/-! ## Hz -/
namespace Go.Proofs.Ytjedhjeijpbobaa.G8
open Go.RowKit Go.Maps Go.Proofs.YtjedhjeijpbobaaW.PrintWords Go.Proofs.YtjedhjeijpbobaaW.PrintLast Go.Proofs.YtjedhjeijpbobaaW.PrintMore
open Go.Proofs.Ytjedhjeijpbobaa.GA
set_option linter.unusedVariables false
set_option linter.unusedSimpArgs false
theorem greatest_l1 (cs : List (Int × Int)) (hl : cs.length ≤ 100000) (hb : ∀ c ∈ cs, -15 ≤ c.1 ∧ c.1 ≤ 15 ∧ -15 ≤ c.2 ∧ c.2 ≤ 15) : ∀ (m i : Nat) (a : Int), i + m = cs.length → impl_greatest.l0 (m + 1) a (cs.map toS) (cs.length : Int) (i : Int) = some (sqF a (cs.drop i)) := by
  intro m
  induction m with
  | zero =>
    intro i a h
    simp only [impl_greatest.l0]
    rw [if_neg (by omega), List.drop_eq_nil_of_le (by omega)]
    rfl
  | succ m ih =>
    intro i a h
    unfold impl_greatest.l0
    have hi : i < cs.length := by omega
    rw [if_pos (by omega), if_pos (by omega), if_pos (by rw [List.length_map]; omega)]
    have e : rd_T76 (cs.map toS) (i : Int) = toS cs[i] := by
      unfold rd_T76
      rw [Int.toNat_natCast, List.getD_eq_getElem?_getD, List.getElem?_map, List.getElem?_eq_getElem hi]
      rfl
    obtain ⟨h1, h2, h3, h4, h5⟩ := sq_box (hb _ (List.getElem_mem hi))
    have e2 : impl_cell_square.f (toS cs[i]).f0 (toS cs[i]).f1 = some (sq cs[i]) := by
      unfold impl_cell_square.f toS
      simp only
      rw [h1, h2, h3]
    rw [e, e2, Option.bind_some, wrap_id (x := (i : Int) + 1) (by omega) (by omega)]
    have := ih (i + 1) (mx a (sq cs[i])) (by omega)
    rw [show ((i + 1 : Nat) : Int) = (i : Int) + 1 by omega] at this
    rw [this, List.drop_eq_getElem_cons hi]
    have e3 : mx a (sq cs[i]) = if a > sq cs[i] then a else sq cs[i] := by
      unfold mx
      by_cases q : a < sq cs[i]
      · rw [if_pos q, if_neg (by omega)]
      · by_cases q2 : a > sq cs[i]
        · rw [if_neg q, if_pos q2]
        · rw [if_neg q, if_neg q2]; omega
    rw [e3]
    rfl
theorem greatest_many {cs : List (Int × Int)} (hl : cs.length ≤ 100000) (hb : ∀ c ∈ cs, -15 ≤ c.1 ∧ c.1 ≤ 15 ∧ -15 ≤ c.2 ∧ c.2 ≤ 15) (W : World) (A : Option Addr) (n c : Nat) (hn : n = cs.length) (hc : n ≤ c) (h : Kd.C k76 W A n (cs.map toS)) : Calls Try.prog 76 #[.slice A n c] W fun e w' => e = .returned (.int .i64 (sqF 0 cs)) ∧ Below W.heap.size W w' := by
  have e : n = (cs.map toS).length := by rw [List.length_map]; exact hn
  subst e
  refine impl_greatest.calls (cs.length + 1) A c (cs.map toS) _ W h hc ?_
  unfold impl_greatest.f
  rw [List.length_map]
  exact greatest_l1 cs hl hb cs.length 0 0 (by omega)
theorem cells_reads {w : World} {base : Nat} {vc : Value} {cs : List (Int × Int)} (h : w.ownsRow base 76 2 vc cs.length (flat cs)) : ∃ A c, vc = .slice A cs.length c ∧ cs.length ≤ c ∧ Kd.C k76 w A cs.length (cs.map toS) := by
  obtain ⟨A, c, he, hr⟩ := own_reads_row h (reps_flat w cs) (by simp)
  refine ⟨A, c, he, ?_, hr⟩
  rcases h.2 with ⟨h1, h2⟩ | ⟨g, cap, cur, h1, _, _, h3, _⟩
  · rw [h1] at he
    injection he with _ e2 e3
    omega
  · rw [h1] at he
    injection he with _ e2 e3
    omega
/-- The heap's cells, as the program lists them: the same cells as the reference's. -/
theorem same_cells {n : Int} (hn : 1 ≤ n ∧ n ≤ 250) {u : Odo} {M : Fld} (hV : HInv n u M) (hs : ∀ a b, hp n u a b ≤ 3) {cs : List (Int × Int)} (hw : ∀ c ∈ cs, wfI c.1 ∧ wfI c.2) (hm : ∀ x y, wfI x → wfI y → ((x, y) ∈ cs ↔ (M x y).isSome = true)) : (∀ c, c ∈ cs ↔ c ∈ heapCs n) ∧ ∀ c ∈ cs, -15 ≤ c.1 ∧ c.1 ≤ 15 ∧ -15 ≤ c.2 ∧ c.2 ≤ 15 := by
  have h0 : 0 ≤ n ∧ n ≤ 250 := by omega
  have hu := heapU_is h0 hV.legal hs
  have hiff : ∀ a b, (M a b).isSome = true ↔ hot n u a b := fun a b => by rw [hV.has, key_iff hV.legal h0.1 hV.nn]; rfl
  have h1 : ∀ c, c ∈ cs ↔ c ∈ heapCs n := fun c => by
    rw [show c = (c.1, c.2) from rfl, mem_heapCs h0, ← hu, ← hiff]
    constructor
    · intro k
      exact (hm c.1 c.2 (hw c k).1 (hw c k).2).1 k
    · intro k
      have := hot_near hV.legal h0.2 ((hiff c.1 c.2).1 k)
      exact (hm c.1 c.2 (i64_ok (by omega) (by omega)) (i64_ok (by omega) (by omega))).2 k
  refine ⟨h1, fun c hc => ?_⟩
  have := hot_near (heapU_ok h0).1 h0.2 ((mem_heapCs h0 c.1 c.2).1 ((h1 c).1 hc))
  omega
theorem iin_bad {n : Int} (h : ¬ (1 ≤ n ∧ n ≤ 250)) : impl_in.f n 1 250 = some false := by
  unfold impl_in.f
  by_cases q : 1 ≤ n
  · rw [if_pos q, decide_eq_false (by omega)]
  · rw [if_neg q]
theorem iin_good {n : Int} (h : 1 ≤ n ∧ n ≤ 250) : impl_in.f n 1 250 = some true := by
  unfold impl_in.f
  rw [if_pos h.1, decide_eq_true h.2]
def impl_HeapSquare.f (n : Int) : Option (Int × Bool) := some (heapV n, okHeap n)
def spec_HeapSquare.f (n : Int) : Option (Int × Bool) := some (heapV n, okHeap n)
set_option maxHeartbeats 4000000 in
set_option maxRecDepth 100000 in
theorem impl_HeapSquare.walk (n : Int) (w : World) : Calls Try.prog 36 #[.int .i64 n] w fun e w' => e = .returned (.tuple #[.int .i64 (heapV n), .bool (okHeap n)]) ∧ Below w.heap.size w w' := by
  by_cases hn : 1 ≤ n ∧ n ≤ 250
  · have hv : heapV n = sqF 0 (heapCs n) ∧ okHeap n = true := ⟨if_pos hn, decide_eq_true hn⟩
    rw [hv.1, hv.2]
    have HA := Aside0.mk (fun W => impl_in.calls n 1 250 true W (iin_good hn))
    have HH := Aside0.mk (fun W => heapOf_calls n hn W)
    clear hv
    go_enter Try.func36, Try.ntmps36
    go_wp2_with (first | (go_at_call 79; (with_reducible refine (HA.out _).mono ?_); rintro e w1 ⟨rfl, ⟨nd, rfl⟩⟩) | (go_at_call 81; (with_reducible refine (HH.out _).mono ?_); rintro e w2 ⟨gm, N, u, M, rfl, hB, hM, hV, hS, hg, hN⟩) | (go_at_call 80; refine (cellsOf_calls gm N M _ hM.out hN).mono ?_; rintro e w3 ⟨vc, cs, rfl, hB3, hO, hl, hnd, hw, hm⟩; obtain ⟨sm, hbx⟩ := same_cells hn hV.out hS.out hw hm; obtain ⟨A, c, hvc, hc, hC⟩ := cells_reads hO.out; subst hvc) | (go_at_call 76; refine (greatest_many hl hbx _ _ _ _ rfl hc hC).mono ?_; rintro e w4 ⟨rfl, hB4⟩))
    go_ret2
    exact ⟨by rw [sqF_same 0 sm]; rfl, below_then (below_then (below_then (pw_below_drewN (Below.refl w.heap.size w) nd) (by simp) hB) (by have := hB.size; simpa using this) hB3) (by have h1 := hB.size; have h2 := hB3.size; simp at h1 h2 ⊢; omega) hB4⟩
  · have hv : heapV n = 0 ∧ okHeap n = false := ⟨if_neg hn, decide_eq_false hn⟩
    rw [hv.1, hv.2]
    have HA := Aside0.mk (fun W => impl_in.calls n 1 250 false W (iin_bad hn))
    clear hv
    go_enter Try.func36, Try.ntmps36
    go_wp2_with (first | (go_at_call 79; (with_reducible refine (HA.out _).mono ?_); rintro e w1 ⟨rfl, ⟨nd, rfl⟩⟩))
    go_ret2
    exact ⟨rfl, by repeat (first | exact Below.refl _ _ | apply pw_below_drewN)⟩
theorem hot_mid {n : Int} (hn : 1 ≤ n ∧ n ≤ 250) : (0, 0) ∈ heapCs n := by
  have h0 : 0 ≤ n ∧ n ≤ 250 := by omega
  rw [mem_heapCs h0]
  exact (key_iff (heapU_ok h0).1 h0.1 (fun a b => ((heapU_ok h0).2 a b).1) 0 0).1 (.inl ⟨rfl, rfl, by omega⟩)
theorem hrows_at {n : Int} {u : Odo} {cs : List (Int × Int)} {i : Nat} {c : Int × Int} (h : cs[i]? = some c) : (hrows n u cs)[i]? = some [c.1, c.2, hp n u c.1 c.2] := by unfold hrows; rw [List.getElem?_map, h]; rfl
/-- Rows of cells, read. -/
theorem hrows_form {w : World} {base : Nat} {vc : Value} {n : Int} {u : Odo} {cs : List (Int × Int)} (h : RowsAt w base vc (hrows n u cs)) (hp0 : 0 < cs.length) : ∃ g cap, vc = .slice (some ⟨g, 0, none⟩) cs.length cap ∧ ∀ (i : Nat) (c : Int × Int), cs[i]? = some c → ∃ b, w.cell? ⟨g, i, none⟩ = some (.slice (some ⟨b, 0, none⟩) 3 3) ∧ w.cell? ⟨b, 0, none⟩ = some (.int .i64 c.1) ∧ w.cell? ⟨b, 1, none⟩ = some (.int .i64 c.2) := by
  obtain ⟨g, cap, h1, h2⟩ := h.form (by rw [hrows_len]; exact hp0)
  rw [hrows_len] at h1
  refine ⟨g, cap, h1, fun i c hc => ?_⟩
  obtain ⟨b, q1, q2, q3⟩ := h2 i _ (hrows_at hc)
  exact ⟨b, q1, (blk_cell q3 0).trans rfl, (blk_cell q3 1).trans rfl⟩
theorem cs_near {n : Int} (hn : 0 ≤ n ∧ n ≤ 250) : ∀ c ∈ heapCs n, -15 ≤ c.1 ∧ c.1 ≤ 15 ∧ -15 ≤ c.2 ∧ c.2 ≤ 15 := fun c hc => by
  have := hot_near (heapU_ok hn).1 hn.2 ((mem_heapCs hn c.1 c.2).1 hc)
  omega
theorem cs_few {n : Int} (hn : 0 ≤ n ∧ n ≤ 250) {cs : List (Int × Int)} {u : Odo} (h : HList n u 61 (-60) cs) : cs.length ≤ 100000 := by
  have := h.few
  omega
theorem zero_cells {w : World} {base : Nat} {vc : Value} {u : Odo} {cs : List (Int × Int)} (hR : RowsAt w base vc (hrows 0 u cs)) (hL : Legal 0 u) (hS : ∀ a b, 0 ≤ hp 0 u a b ∧ hp 0 u a b ≤ 3) (hC : HList 0 u 61 (-60) cs) : ∃ A cap, vc = .slice A 0 cap := by
  have hn : (0 : Int) ≤ 0 ∧ (0 : Int) ≤ 250 := by omega
  have hu := heapU_is hn hL (fun a b => (hS a b).2)
  subst hu
  have h1 := hC.eq hn
  rw [heap_none] at h1
  subst h1
  obtain ⟨A, cap, h, _⟩ := hR.reads
  exact ⟨A, cap, h⟩
theorem many_cells {w : World} {base : Nat} {vc : Value} {n : Int} (hn : 0 ≤ n ∧ n ≤ 250) {u : Odo} {cs S : List (Int × Int)} (hSn : S = heapCs n) (hp0 : 0 < S.length) (hR : RowsAt w base vc (hrows n u cs)) (hL : Legal n u) (hS : ∀ a b, 0 ≤ hp n u a b ∧ hp n u a b ≤ 3) (hC : HList n u 61 (-60) cs) :
    S.length ≤ 100000 ∧ ∃ g cap, vc = .slice (some ⟨g, 0, none⟩) S.length cap ∧ ∀ (i : Nat) (c : Int × Int), S[i]? = some c → ∃ b, w.cell? ⟨g, i, none⟩ = some (.slice (some ⟨b, 0, none⟩) 3 3) ∧ w.cell? ⟨b, 0, none⟩ = some (.int .i64 c.1) ∧ w.cell? ⟨b, 1, none⟩ = some (.int .i64 c.2) := by
  have hu := heapU_is hn hL (fun a b => (hS a b).2)
  subst hu
  have h1 := hC.eq hn
  rw [← hSn] at h1
  subst h1
  exact ⟨cs_few hn hC, hrows_form hR hp0⟩
set_option maxHeartbeats 4000000 in
set_option maxRecDepth 100000 in
theorem spec_HeapSquare.walk (n : Int) (w : World) : Calls Try.prog 35 #[.int .i64 n] w fun e w' => e = .returned (.tuple #[.int .i64 (heapV n), .bool (okHeap n)]) ∧ Below w.heap.size w w' := by
  by_cases hn : 0 ≤ n ∧ n ≤ 250
  · have HA := Aside0.mk (fun W => heapCells_calls n hn W)
    by_cases h0 : n = 0
    · have hv : heapV n = 0 ∧ okHeap n = false := ⟨if_neg (by omega), decide_eq_false (by omega)⟩
      rw [hv.1, hv.2]
      clear hv
      subst h0
      go_enter Try.func35, Try.ntmps35
      go_wp2_with (first | (go_at_call 61; (with_reducible refine (HA.out _).mono ?_); rintro e w1 ⟨vc, cs, u, rfl, hB, hR, hL, hS, hC⟩; obtain ⟨A, cap, hvc⟩ := zero_cells hR.out hL.out hS.out hC.out; subst hvc; have HB := Aside0.mk hB; clear hB hR hL hS hC))
      go_loopg [6, 16] 0 (fun m v6 v16 wr => v6 = .int .i64 0 ∧ v16 = .int .i64 0 ∧ Aside0 (Below w.heap.size w wr))
      case atStart => exact ⟨rfl, rfl, HB⟩
      case round =>
        obtain ⟨rfl, rfl, HBr⟩ := hrel
        go_wp2_with (fail)
        go_ret2
        exact ⟨by first | rfl | trivial, HBr.out⟩
    · have hv : heapV n = sqF 0 (heapCs n) ∧ okHeap n = true := ⟨if_pos (by omega), decide_eq_true (by omega)⟩
      rw [hv.1, hv.2]
      clear hv
      have hn1 : n > 0 := by omega
      obtain ⟨S, hSn⟩ : ∃ S, S = heapCs n := ⟨_, rfl⟩
      have hpos : 0 < S.length := by rw [hSn]; exact List.length_pos_of_mem (hot_mid (by omega))
      have hb : Aside0 (∀ c ∈ S, -15 ≤ c.1 ∧ c.1 ≤ 15 ∧ -15 ≤ c.2 ∧ c.2 ≤ 15) := ⟨by rw [hSn]; exact cs_near hn⟩
      rw [← hSn]
      replace hSn := Aside0.mk hSn
      go_enter Try.func35, Try.ntmps35
      go_upto_region 2 with (first | (go_at_call 61; (with_reducible refine (HA.out _).mono ?_); rintro e w1 ⟨vc, cs, u, rfl, hB, hR, hL, hS, hC⟩; obtain ⟨hlen, g, cap, hvc, hE⟩ := many_cells hn hSn.out hpos hR.out hL.out hS.out hC.out; subst hvc; have HB := Aside0.mk hB; have HE := Aside0.mk hE; clear hB hR hL hS hC hE))
      go_wp2_with (fail)
      go_loopg [6, 16] S.length (fun m v6 v24 wr => ∃ (i : Nat) (a : Int), v6 = .int .i64 a ∧ v24 = .int .i64 (i : Int) ∧ Aside0 (i + m = S.length) ∧ Aside0 (sqF a (S.drop i) = sqF 0 S) ∧ Aside0 (∃ nn, wr = w1.drewN nn))
      case atStart => exact ⟨0, 0, rfl, rfl, ⟨by omega⟩, ⟨rfl⟩, ⟨0, rfl⟩⟩
      case round =>
        obtain ⟨i, a, rfl, rfl, HI, HF, HW⟩ := hrel
        have hce : ∀ p, wr.cell? p = w1.cell? p := fun p => by obtain ⟨nn, e⟩ := HW.out; rw [e]; simp
        have hbe : ∀ W, Below w.heap.size W w1 → Below w.heap.size W wr := fun W h => by obtain ⟨nn, e⟩ := HW.out; rw [e]; exact pw_below_drewN h nn
        cases gk with
        | zero =>
          have hi : ¬ ((i : Int) < (S.length : Int)) := by have := HI.out; omega
          have ht : a = sqF 0 S := by
            have := HF.out
            rw [List.drop_eq_nil_of_le (by have := HI.out; omega)] at this
            exact this
          replace ht := Aside0.mk ht
          replace hbe := Aside0.mk hbe
          clear HF HI hce
          go_wp2_with (fail)
          go_ret2
          exact ⟨by first | rfl | (rw [ht.out]; rfl), hbe.out _ (below_then (by repeat (first | exact Below.refl _ _ | apply pw_below_drewN)) (by simp) HB.out)⟩
        | succ m =>
          have hin : i < S.length := by have := HI.out; omega
          have hi : (i : Int) < (S.length : Int) := by omega
          obtain ⟨c, hc⟩ : ∃ c, c = S[i] := ⟨_, rfl⟩
          have hcm : c ∈ S := by rw [hc]; exact List.getElem_mem hin
          obtain ⟨b, q1, q4, q5⟩ := HE.out i c (by rw [hc]; exact List.getElem?_eq_getElem hin)
          rw [← hce] at q1 q4 q5
          clear hce hbe
          obtain ⟨s1, s2, s3, s4, s5⟩ := sq_box (hb.out c hcm)
          have HM := Aside0.mk (most_quiet a c (hb.out c hcm))
          have hnx : sqF (if a > sq c then a else sq c) (S.drop (i + 1)) = sqF 0 S := by
            have := HF.out
            rw [List.drop_eq_getElem_cons hin, ← hc] at this
            exact this
          generalize (if a > sq c then a else sq c) = t at HM hnx
          have HX := Aside0.mk hnx
          have hw := wrap_id (x := (i : Int) + 1) (by omega) (by omega)
          clear HF hnx hcm hc s1 s2 s3 s4 s5
          go_upto_region 7 with (fail)
          go_quiet ((go_at_call 75; exact Calls.quiet_of (HM.out _)))
          go_wp2_with (fail)
          go_roundg m
          case measure => omega
          case rel => exact ⟨i + 1, _, by first | rfl | trivial, by first | rfl | go_num, ⟨by have := HI.out; omega⟩, HX, ⟨by obtain ⟨nn, e⟩ := HW.out; exact ⟨nn + nq, by rw [e, World.drewN_drewN]⟩⟩⟩
  · have hv : heapV n = 0 ∧ okHeap n = false := ⟨if_neg (by omega), decide_eq_false (by omega)⟩
    rw [hv.1, hv.2]
    have HA := Aside0.mk (fun W => heapCells_bad n hn W)
    clear hv
    go_enter Try.func35, Try.ntmps35
    go_wp2_with (first | (go_at_call 61; (with_reducible refine (HA.out _).mono ?_); rintro e w1 ⟨rfl, hB⟩))
    have HB := Aside0.mk hB
    clear hB
    go_loopg [6, 16] 0 (fun m v6 v16 wr => v6 = .int .i64 0 ∧ v16 = .int .i64 0 ∧ Aside0 (Below w.heap.size w wr))
    case atStart => exact ⟨rfl, rfl, HB⟩
    case round =>
      obtain ⟨rfl, rfl, HBr⟩ := hrel
      go_wp2_with (fail)
      go_ret2
      exact ⟨by first | rfl | trivial, HBr.out⟩
theorem spec_HeapSquare.calls (n : Int) (r1 : Int) (r2 : Bool) (w : World) (h : spec_HeapSquare.f n = some (r1, r2)) :
    Calls Try.prog 35 #[.int .i64 n] w fun e w' => e = .returned (.tuple #[.int .i64 r1, .bool r2]) ∧ Below w.heap.size w w' := by
  have e := Option.some.inj h
  injection e with e1 e2
  subst e1 e2
  exact spec_HeapSquare.walk n w
theorem impl_HeapSquare.calls (n : Int) (r1 : Int) (r2 : Bool) (w : World) (h : impl_HeapSquare.f n = some (r1, r2)) :
    Calls Try.prog 36 #[.int .i64 n] w fun e w' => e = .returned (.tuple #[.int .i64 r1, .bool r2]) ∧ Below w.heap.size w w' := by
  have e := Option.some.inj h
  injection e with e1 e2
  subst e1 e2
  exact impl_HeapSquare.walk n w
end Go.Proofs.Ytjedhjeijpbobaa.G8
