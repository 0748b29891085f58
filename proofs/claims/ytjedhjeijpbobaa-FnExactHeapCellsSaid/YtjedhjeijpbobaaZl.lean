/-
  The heap's cells in order with their chips: of the program, walked. The heap's cells with their chips: the reference's answer. The law of the heap's cells: walked.
-/
import Derived.Test.YtjedhjeijpbobaaZi
import Derived.Test.YtjedhjeijpbobaaZh
import Derived.Test.YtjedhjeijpbobaaZf
/-! ## Sn -/
namespace Go.Proofs.Ytjedhjeijpbobaa.G8
open Go.RowKit Go.Maps Go.MapKept Go.WideShapes Go.ChangeMaps Go.Proofs.YtjedhjeijpbobaaW.PrintWords Go.Proofs.YtjedhjeijpbobaaW.PrintLast Go.Proofs.YtjedhjeijpbobaaW.PrintMore
open Go.Proofs.Ytjedhjeijpbobaa.GA
set_option linter.unusedVariables false
set_option linter.unusedSimpArgs false
/-- A row is replaced, by one in its own block or in a new one. -/
theorem RowsD.change2 {w w1 : World} {base : Nat} {rows : List (List Int)} {L : List Value} {u v : Value} {r : List Int} {g cap i : Nat} (h1 : w.ownsRow base 29 1 (.slice (some ⟨g, 0, none⟩) rows.length cap) rows.length L) (h2 : RowsL w base rows L) (hi : i < rows.length) (hu : L[i]? = some u) (hv : w1.ownsRow base 3 1 v r.length (encI r)) (hf : ∀ k, v.ownBlock = some k → w.heap.size ≤ k ∨ u.ownBlock = some k) (e : ∀ b, b < w.heap.size → u.ownBlock ≠ some b → w1.heap[b]? = w.heap[b]?) :
    RowsD (w1.setCell ⟨g, i, none⟩ v) base (.slice (some ⟨g, 0, none⟩) rows.length cap) (rows.set i r) ∧ w1.heap[g]? = w.heap[g]? := by
  have hn : L.length = rows.length := by have := own_len h1; omega
  rcases h1.2 with ⟨h3, _⟩ | ⟨g1, cap1, cur, h3, hb, hh, h4, h5, h6, h7⟩
  · cases h3
  injection h3 with e1 _ e3
  injection e1 with e1
  injection e1 with e1
  subst e1
  subst e3
  have hug : u.ownBlock ≠ some g := fun c => by
    obtain ⟨_, _, cells, hc⟩ := h2.blk hn hu c
    rw [hh] at hc
    simp at hc
  have hh1 : w1.heap[g]? = some (.cells cur 29 (0, 0)) := (e g (blk_lt hh) hug).trans hh
  refine ⟨?_, hh1.trans hh.symm⟩
  have hvg : v.ownBlock ≠ some g := fun c => by
    obtain ⟨cells, hc⟩ := own_typed hv g c
    rw [hh1] at hc
    simp at hc
  refine ⟨L.set i v, ?_, fun j s hs => ?_, fun a b x y k hx hy hab hk => ?_⟩
  · refine ⟨by simp [hn], .inr ⟨g, cap, _, by rw [List.length_set], hb, blk_set hh1 _ _, by rw [List.length_set]; exact h4, h5, by simpa using h6, ?_⟩⟩
    rw [List.length_set, Nat.mul_one] at *
    apply List.ext_getElem?
    intro j
    by_cases hj : j < rows.length
    · rw [List.getElem?_take_of_lt hj, Array.getElem?_toList]
      by_cases q : i = j
      · subst q
        rw [Array.getElem?_setIfInBounds_self_of_lt (by omega), List.getElem?_set_self (by omega)]
      · rw [Array.getElem?_setIfInBounds_ne q, List.getElem?_set_ne q, ← h7, List.getElem?_take_of_lt hj, Array.getElem?_toList]
    · rw [List.getElem?_take_eq_none (by omega), List.getElem?_eq_none (by simp; omega)]
  · by_cases q : i = j
    · subst q
      rw [List.getElem?_set_self hi] at hs
      cases hs
      exact ⟨v, List.getElem?_set_self (by omega), own_setCell hv (fun c => hvg c.symm) _⟩
    · rw [List.getElem?_set_ne q] at hs
      obtain ⟨x, q1, q2⟩ := h2.1 j s hs
      have q3 : w1.ownsRow base 3 1 x s.length (encI s) := own_move q2 fun k hk => e k (own_lt q2 k hk) (fun c => h2.2 i j u x k hu q1 q c hk)
      refine ⟨x, by rw [List.getElem?_set_ne q]; exact q1, own_setCell q3 (fun c => ?_) _⟩
      obtain ⟨cells, hc⟩ := own_typed q3 g c.symm
      rw [hh1] at hc
      simp at hc
  · have aux : ∀ (a : Nat) (x : Value), (L.set i v)[a]? = some x → (a ≠ i ∧ L[a]? = some x) ∨ (a = i ∧ x = v) := fun a x hx => by
      by_cases q : i = a
      · subst q
        rw [List.getElem?_set_self (by omega)] at hx
        exact .inr ⟨rfl, (Option.some.inj hx).symm⟩
      · rw [List.getElem?_set_ne q] at hx
        exact .inl ⟨fun c => q c.symm, hx⟩
    rcases aux a x hx with ⟨ha, hx2⟩ | ⟨ha, rfl⟩ <;> rcases aux b y hy with ⟨hb2, hy2⟩ | ⟨hb2, rfl⟩
    · exact h2.2 a b x y k hx2 hy2 hab hk
    · intro c
      rcases hf k c with h | h
      · have := (h2.blk hn hx2 hk).2.1
        omega
      · exact h2.2 a i x u k hx2 hu ha hk h
    · intro c
      rcases hf k hk with h | h
      · have := (h2.blk hn hy2 c).2.1
        omega
      · exact h2.2 b i y u k hy2 hu hb2 c h
    · omega
/-! ### no chips -/
def Hp0Out (w : World) (e : Ending) (w' : World) : Prop := ∃ gm, e = .returned (.map (some gm)) ∧ Below w.heap.size w w' ∧ Aside0 (MapIs w' gm 0 (fun _ _ => none))
set_option maxHeartbeats 4000000 in
set_option maxRecDepth 100000 in
theorem heapOf0_calls (w : World) : Calls Try.prog 81 #[.int .i64 0] w (Hp0Out w) := by
  have hu76 := Try.underlying76
  have hmm := @run_makeMap Try.prog
  have hm0 : MapIs (w.alloc (.map #[] 0)) w.heap.size 0 (fun _ _ => none) := ⟨_, World.ownsMap_made w Try.prog 76 (plainElem Try.prog 3), FieldIs.nil⟩
  have HM0 := Aside0.mk hm0
  have HB0 : Aside0 (Below w.heap.size w (w.alloc (.map #[] 0))) := ⟨(Below.refl w.heap.size w).alloc (Nat.le_refl _) (.map #[] 0)⟩
  clear hm0
  go_enter Try.func81, Try.ntmps81
  go_wp2_with (fail)
  have HM1 : Aside0 (MapIs ((w.alloc (.map #[] 0)).alloc (.cells #[.int .i64 0, .int .i64 0] 76)) w.heap.size 0 (fun _ _ => none)) := ⟨HM0.out.move ((MapKept.heap_alloc _ _).2 _ (by simp))⟩
  have HB1 : Aside0 (Below w.heap.size w ((w.alloc (.map #[] 0)).alloc (.cells #[.int .i64 0, .int .i64 0] 76))) := ⟨HB0.out.alloc (by simp) _⟩
  have HC1 : Aside0 (((w.alloc (.map #[] 0)).alloc (.cells #[.int .i64 0, .int .i64 0] 76)).heap[w.heap.size + 1]? = some (.cells #[.int .i64 0, .int .i64 0] 76 (0, 0))) := ⟨two_new1 w _ _⟩
  clear HM0 HB0
  go_loopg [4] 1 (fun m v4 wr => v4 = .slice (some ⟨w.heap.size + 1, 0, none⟩) m 1 ∧ Aside0 (m ≤ 1) ∧ Aside0 (wr.heap[w.heap.size + 1]? = some (.cells #[.int .i64 0, .int .i64 0] 76 (0, 0))) ∧ Aside0 (MapIs wr w.heap.size 0 (fun _ _ => none)) ∧ Aside0 (Below w.heap.size w wr))
  case atStart => exact ⟨rfl, ⟨Nat.le_refl _⟩, HC1, HM1, HB1⟩
  case round =>
    clear HC1 HM1 HB1
    obtain ⟨rfl, HI, HC, HM, HB⟩ := hrel
    cases gk with
    | zero =>
      go_wp2_with (fail)
      refine bodyPost_ret (v := .map (some w.heap.size)) (by simp [results, Try.results81, go_sem]) rfl ?_
      exact ⟨_, rfl, HB.out, HM⟩
    | succ m =>
      obtain rfl : m = 0 := by have := HI.out; omega
      have q0 := (blk_cell HC.out 0).trans rfl
      have q1 := (blk_cell HC.out 1).trans rfl
      have hs := HB.out.size
      have HMa : Aside0 (MapIs (wr.alloc (.cells #[.int .i64 0, .int .i64 0] 76)) w.heap.size 0 (fun _ _ => none)) := ⟨HM.out.move ((MapKept.heap_alloc wr _).2 _ (by obtain ⟨D, hm, _⟩ := HM.out; exact hm.lt))⟩
      have HBa := Aside0.mk (HB.out.alloc hs (.cells #[.int .i64 0, .int .i64 0] 76))
      have HCa := Aside0.mk (((MapKept.heap_alloc wr (.cells #[.int .i64 0, .int .i64 0] 76)).2 _ (blk_lt HC.out)).trans HC.out)
      have hlook := HMa.out.look0 (x := 0) (y := 0) (by decide) (by decide)
      simp only [Option.getD_none] at hlook
      have hw0 := wrap_id (x := (0 : Int)) (by omega) (by omega)
      clear HC HM HB
      go_wp2_with (fail)
      go_roundg 0
      case measure => omega
      case rel => exact ⟨by first | rfl | trivial, ⟨Nat.zero_le _⟩, HCa, HMa, HBa⟩
/-! ### the cells in order -/
theorem lex_or {a b : Int × Int} (h : ¬ lexLt b a) (hne : a ≠ b) : lexLt a b := by
  by_cases q : lexLt a b
  · exact q
  · exact absurd (lex_total q h) hne
theorem sortC_is {cs ds : List (Int × Int)} (hn : cs.Nodup) (hd : ds.Pairwise lexLt) (hm : ∀ c, c ∈ cs ↔ c ∈ ds) : sortC cs = ds := by
  have h1 : (sortC cs).Pairwise fun a b => ¬ lexLt b a := by
    have := sortC_ord cs
    unfold Ord pairs at this
    rw [List.pairwise_map] at this
    exact this.imp fun {a b} h => h
  have h2 : (sortC cs).Nodup := (sortC_perm cs).nodup_iff.2 hn
  have h3 : (sortC cs).Pairwise lexLt := by
    have h2' : (sortC cs).Pairwise (fun a b => a ≠ b) := h2
    exact (h1.and h2').imp fun {a b} h => lex_or h.1 h.2
  exact lex_one h3 hd fun c => ((sortC_perm cs).mem_iff).trans (hm c)
def okH0 (n : Int) : Bool := decide (0 ≤ n ∧ n ≤ 250)
def heapRows (n : Int) : List (List Int) := if okH0 n = true then hrows n (heapU n) (heapCs n) else []
theorem heapRows0 {n : Int} (h : okH0 n = false) : heapRows n = [] := by unfold heapRows; rw [if_neg (by rw [h]; decide)]
theorem heapRows1 {n : Int} (h : okH0 n = true) : heapRows n = hrows n (heapU n) (heapCs n) := by unfold heapRows; rw [if_pos h]
/-- The rows so far: with chips, and behind them without. -/
def midH (f : Int × Int → Int) (S : List (Int × Int)) (i : Nat) : List (List Int) := ((S.take i).map fun c => [c.1, c.2, f c]) ++ pairs (S.drop i)
theorem midH_len (f : Int × Int → Int) (S : List (Int × Int)) (i : Nat) : (midH f S i).length = S.length := by
  unfold midH
  rw [List.length_append, List.length_map, pairs_len, List.length_take, List.length_drop]
  omega
theorem midH_get {f : Int × Int → Int} {S : List (Int × Int)} {i : Nat} (hi : i < S.length) : (midH f S i)[i]? = some [S[i].1, S[i].2] := by
  unfold midH pairs
  rw [List.getElem?_append_right (by simp; omega), List.length_map, List.length_take, List.getElem?_map, List.getElem?_drop, show i + (i - min i S.length) = i by omega, List.getElem?_eq_getElem hi]
  rfl
theorem midH_set {f : Int × Int → Int} {S : List (Int × Int)} {i : Nat} (hi : i < S.length) : (midH f S i).set i [S[i].1, S[i].2, f S[i]] = midH f S (i + 1) := by
  unfold midH
  have hl : ((S.take i).map fun c => [c.1, c.2, f c]).length = i := by rw [List.length_map, List.length_take]; omega
  have hp : pairs (S[i] :: S.drop (i + 1)) = [S[i].1, S[i].2] :: pairs (S.drop (i + 1)) := rfl
  rw [List.take_succ_eq_append_getElem hi, List.drop_eq_getElem_cons hi, List.map_append, hp, List.set_append, if_neg (by omega), hl, Nat.sub_self, List.set_cons_zero]
  simp
theorem iin0_bad {n : Int} (h : ¬ (0 ≤ n ∧ n ≤ 250)) : impl_in.f n 0 250 = some false := by
  unfold impl_in.f
  by_cases q : 0 ≤ n
  · rw [if_pos q, decide_eq_false (by omega)]
  · rw [if_neg q]
theorem iin0_good {n : Int} (h : 0 ≤ n ∧ n ≤ 250) : impl_in.f n 0 250 = some true := by
  unfold impl_in.f
  rw [if_pos h.1, decide_eq_true h.2]
/-- Chips, in a map: those of the cells that are told. -/
def HcellsOut (w : World) (n : Int) (e : Ending) (w' : World) : Prop := ∃ gm N M, e = .returned (.map (some gm)) ∧ Below w.heap.size w w' ∧ Aside0 (MapIs w' gm N M) ∧ Aside0 (∀ a b, (M a b).getD 0 = hp n (heapU n) a b) ∧ Aside0 (∀ a b, (M a b).isSome = true ↔ (a, b) ∈ heapCs n) ∧ N ≤ 100000
theorem heapOf_any (n : Int) (h : 0 ≤ n ∧ n ≤ 250) (w : World) : Calls Try.prog 81 #[.int .i64 n] w (HcellsOut w n) := by
  by_cases h0 : n = 0
  · subst h0
    refine (heapOf0_calls w).mono ?_
    rintro e w' ⟨gm, rfl, hB, hM⟩
    have hz : heapU 0 = fun _ _ => 0 := ((heapU_is h (Legal.zero 0) (fun a b => by rw [hp_zero]; split <;> omega))).symm
    refine ⟨gm, 0, _, rfl, hB, hM, ⟨fun a b => ?_⟩, ⟨fun a b => ?_⟩, by omega⟩
    · rw [hz, hp_zero]
      simp
    · rw [heap_none]
      simp
  · refine (heapOf_calls n (by omega) w).mono ?_
    rintro e w' ⟨gm, N, u, M, rfl, hB, hM, hV, hS, hg, hN⟩
    have hu := heapU_is h hV.out.legal hS.out
    refine ⟨gm, N, M, rfl, hB, hM, ⟨fun a b => by rw [← hu]; exact hV.out.val a b⟩, ⟨fun a b => ?_⟩, hN⟩
    rw [mem_heapCs h, ← hu, hV.out.has, key_iff hV.out.legal h.1 hV.out.nn]
    rfl
def T8h : Bool × List (List Nat × List Nat) := (true, [([], []), ([], []), ([], []), ([], []), ([], []), ([4], [4]), ([5], [5]), ([], []), ([7], [7]), ([8], [8]), ([6, 9], [6, 9]), ([3, 10], [3, 10]), ([11], [11]), ([2, 12], [2, 12]), ([0, 1, 0, 1, 2, 3, 4, 5, 6, 7, 8, 9, 10, 11, 12, 13], [0, 1]), ([14, 13, 13, 0, 1, 2, 3, 4, 5, 6, 7, 8, 9, 10, 11, 12, 13], [13, 14])])
def B8h : List Nat := [0, 0, 0, 0, 0, 16, 48, 0, 128, 384, 1008, 2040, 4088, 8188, 16383, 32767]
theorem tab8h : rtab .any (opsOf Try.f62 8) = T8h := by kernel_rfl
theorem bits8h : waitsOk T8h.2 B8h = true := by kernel_rfl
theorem info3 : (Try.prog.info? 3).map (fun i => (i.zero, i.size, i.bytes)) = some (some (.int .i64 0), 1, 8) := by kernel_rfl

theorem cellsIn_of {w : World} {base : Nat} {vc : Value} {cs : List (Int × Int)} (h : w.ownsRow base 76 2 vc cs.length (flat cs)) : ∃ A cap, vc = .slice A cs.length cap ∧ CellsIn w.heap.size w A cs := by
  rcases Nat.eq_zero_or_pos cs.length with h0 | h0
  · have hn : cs = [] := List.eq_nil_of_length_eq_zero h0
    rcases h.2 with ⟨h1, h2⟩ | ⟨b, cap, cur, h1, _⟩
    · exact ⟨none, 0, by rw [h1, h0], fun i c hc => by rw [hn] at hc; simp at hc⟩
    · exact ⟨_, cap, h1, fun i c hc => by rw [hn] at hc; simp at hc⟩
  · obtain ⟨g2, cap, h1, h2⟩ := cells_at h h0
    refine ⟨_, cap, h1, fun i c hc => ?_⟩
    obtain ⟨q1, q2⟩ := h2 i c hc
    exact ⟨g2, rfl, own_lt h g2 (by rw [h1]; rfl), q1, q2⟩
theorem cells_same {n : Int} (h : 0 ≤ n ∧ n ≤ 250) {M : Fld} (hK : ∀ a b, (M a b).isSome = true ↔ (a, b) ∈ heapCs n) {cs : List (Int × Int)} (hw : ∀ c ∈ cs, wfI c.1 ∧ wfI c.2) (hm : ∀ x y, wfI x → wfI y → ((x, y) ∈ cs ↔ (M x y).isSome = true)) (c : Int × Int) : c ∈ cs ↔ c ∈ heapCs n := by
  constructor
  · intro k
    exact (hK c.1 c.2).1 ((hm c.1 c.2 (hw c k).1 (hw c k).2).1 k)
  · intro k
    have := cs_near h c k
    exact (hm c.1 c.2 (i64_ok (by omega) (by omega)) (i64_ok (by omega) (by omega))).2 ((hK c.1 c.2).2 k)

theorem RowsD.two_at {w : World} {base : Nat} {rows : List (List Int)} {L : List Value} {i : Nat} {x y : Int} (h : RowsL w base rows L) (hi : rows[i]? = some [x, y]) : ∃ b cap, L[i]? = some (.slice (some ⟨b, 0, none⟩) 2 cap) ∧ w.ownsRow base 3 1 (.slice (some ⟨b, 0, none⟩) 2 cap) 2 [.int .i64 x, .int .i64 y] ∧ w.cell? ⟨b, 0, none⟩ = some (.int .i64 x) ∧ w.cell? ⟨b, 1, none⟩ = some (.int .i64 y) ∧ b < w.heap.size := by
  obtain ⟨v, h1, h2⟩ := h.1 i _ hi
  rcases h2.2 with ⟨_, h3⟩ | ⟨g, cap, cur, rfl, hb, hh, h4, h5, h6, h7⟩
  · simp at h3
  · refine ⟨g, cap, h1, h2, ?_, ?_, blk_lt hh⟩
    · rw [blk_cell hh 0]
      have := congrArg (fun l => l[0]?) h7
      simpa [encI] using this
    · rw [blk_cell hh 1]
      have := congrArg (fun l => l[1]?) h7
      simpa [encI] using this
theorem MapIs.far {w : World} {gm N g i : Nat} {M : Fld} {cs : Array Value} {t : TypeId} (h : MapIs w gm N M) (hg : w.heap[g]? = some (.cells cs t (0, 0))) (v : Value) : MapIs (w.setCell ⟨g, i, none⟩ v) gm N M := by
  refine h.move (Below.heap_setCell _ _ _ _ fun e => ?_)
  obtain ⟨D, ⟨es, clock, hb, _⟩, _⟩ := h
  have e2 : gm = g := e
  subst e2
  rw [hb] at hg
  cases hg
theorem MapIs.notCells {w : World} {gm N g : Nat} {M : Fld} (h : MapIs w gm N M) {cells : Array Value} {t : TypeId} (hg : w.heap[g]? = some (.cells cells t (0, 0))) : gm ≠ g := fun e => by
  obtain ⟨D, ⟨es, clock, hb, _⟩, _⟩ := h
  subst e
  rw [hb] at hg
  cases hg
/-- 'append(c, x)', at one step of the region. -/
theorem step_app3 {ops : Array Oper} {o : Oper} {a : Act} {K : Act → World → Prop} {Q : Exit → Act → World → Prop} {E : Prop} {W : World} {base b cap : Nat} {x y h : Int} (hgd : o.guard = none) (sv xv : Operand) (ho : o.op = .call { callee := .builtin .append, args := #[sv, xv], argTypes := #[29, 29] })
    (hs : a.eval sv = .slice (some ⟨b, 0, none⟩) 2 cap) {C : Nat} (hx : a.eval xv = .slice (some ⟨C, 0, none⟩) 1 1) (hown : W.ownsRow base 3 1 (.slice (some ⟨b, 0, none⟩) 2 cap) 2 [.int .i64 x, .int .i64 y]) (hC : W.heap[C]? = some (.cells #[.int .i64 h] 3 (0, 0))) (hbase : base ≤ W.heap.size)
    (k : ∀ g1 cap1 w1, w1.ownsRow base 3 1 (.slice (some ⟨g1, 0, none⟩) 3 cap1) 3 [.int .i64 x, .int .i64 y, .int .i64 h] → W.grownBy w1 (some b) → (g1 = b ∨ g1 = W.heap.size) → K (a.put o.dst (.slice (some ⟨g1, 0, none⟩) 3 cap1)) w1) :
    if Region.wanted o (yielded ops a.tmps) = true then Oper.wp Try.prog o a W K Q else E := by
  obtain ⟨i0, hi0, hz⟩ := Option.map_eq_some_iff.1 info3
  simp only [Prod.mk.injEq] at hz
  obtain ⟨hz0, hz1, hz2⟩ := hz
  refine step_append_lies W hgd sv xv 29 ho base 3 i0 (.int .i64 0) 1 8 Try.underlying29 hi0 hz0 hz1 hz2 rfl (by omega) _ 2 _ hs hown ⟨C, 0, none⟩ 1 1 [.int .i64 h] hx rfl (World.news_of_block hC) (by intro u hu; simp at hu; subst hu; rfl) (by omega) (by unfold maxLen; omega) (by omega) hbase _ rfl ?_
  intro g1 cap1 w1 hown1 hg hat hlt
  refine k g1 cap1 w1 hown1 hg ?_
  rcases hat with h1 | h1
  · simp [Value.ownBlock] at h1
    exact .inl h1.symm
  · exact .inr h1
theorem cell_same {w w1 : World} {g : Nat} (h : w1.heap[g]? = w.heap[g]?) (i : Nat) : w1.cell? ⟨g, i, none⟩ = w.cell? ⟨g, i, none⟩ := by
  unfold World.cell?
  simp only [h]
theorem frozen_same {w w1 : World} {g : Nat} (h : w1.heap[g]? = w.heap[g]?) (i : Nat) : w1.frozen? ⟨g, i, none⟩ = w.frozen? ⟨g, i, none⟩ := by
  unfold World.frozen?
  simp only [h]
set_option maxHeartbeats 8000000 in
set_option maxRecDepth 100000 in
theorem impl_HeapCells_calls (n : Int) (w : World) : Calls Try.prog 62 #[.int .i64 n] w (RowsTwo w (heapRows n) (okH0 n)) := by
  have hu76 := Try.underlying76
  by_cases hn : 0 ≤ n ∧ n ≤ 250
  · have hok : okH0 n = true := decide_eq_true hn
    rw [heapRows1 hok, hok]
    have HA := Aside0.mk (fun W => impl_in.calls n 0 250 true W (iin0_good hn))
    have HH := Aside0.mk (fun W => heapOf_any n hn W)
    have hsort := Aside0.mk (sorted_gridL (hotB n) (-60) 121 121 (-60))
    obtain ⟨S, hS⟩ : ∃ S, S = heapCs n := ⟨_, rfl⟩
    have hnear : Aside0 (∀ c ∈ S, -15 ≤ c.1 ∧ c.1 ≤ 15 ∧ -15 ≤ c.2 ∧ c.2 ≤ 15) := ⟨by rw [hS]; exact cs_near hn⟩
    have hso : Aside0 (S.Pairwise lexLt) := ⟨by rw [hS]; exact hsort.out⟩
    obtain ⟨f, hf⟩ : ∃ f : Int × Int → Int, f = fun c => hp n (heapU n) c.1 c.2 := ⟨_, rfl⟩
    have hR : hrows n (heapU n) S = midH f S S.length := by unfold hrows midH pairs; rw [hf]; simp
    have HS := Aside0.mk hS
    have HF := Aside0.mk hf
    rw [← hS, hR]
    clear hsort hS hR hok hf
    go_enter Try.func62, Try.ntmps62
    go_wp2_with (first | (go_at_call 79; (with_reducible refine (HA.out _).mono ?_); rintro e w1 ⟨rfl, ⟨nd, rfl⟩⟩) | (go_at_call 81; (with_reducible refine (HH.out _).mono ?_); rintro e w2 ⟨gm, N, M, rfl, hB, hM, hV, hK, hN⟩) | (go_at_call 80; refine (cellsOf_calls gm N M _ hM.out hN).mono ?_; rintro e w3 ⟨vc, cs, rfl, hB3, hO, hl, hnd, hw, hm⟩; have hsub : ∀ c, c ∈ cs ↔ c ∈ S := (fun c => by rw [HS.out]; exact cells_same hn hK.out hw hm c); have hsc : sortC cs = S := sortC_is hnd hso.out hsub; obtain ⟨A, cap, hvc, hCi⟩ := cellsIn_of hO.out; subst hvc) | (go_at_call 84; refine (sorted_calls A cap cs (by omega) _ hCi).mono ?_; rintro e w4 ⟨vo, rfl, hB4, hD4⟩; rw [hsc] at hD4; obtain ⟨Ao, co, hvo, hco⟩ := hD4.out.slice; rw [pairs_len] at hvo hco; subst hvo))
    have hB0 : Aside0 (Below w.heap.size w w2) := ⟨below_then (pw_below_drewN (Below.refl w.heap.size w) nd) (by simp) hB⟩
    have hs2 := hB0.out.size
    have hs3 := hB3.size
    have HB : Aside0 (Below w.heap.size w w4) := ⟨(hB0.out.trans (hB3.mono hs2)).trans (hB4.mono (Nat.le_trans hs2 hs3))⟩
    have HM4 : Aside0 (MapIs w4 gm N M) := ⟨hM.out.move (by
      have hg : gm < w2.heap.size := by obtain ⟨D, hm, _⟩ := hM.out; exact hm.lt
      exact (hB4.block gm (by omega)).trans (hB3.block gm hg))⟩
    have hlS : S.length ≤ 100000 := by rw [← hsc, sortC_len]; exact hl
    have HD4 : Aside0 (RowsD w4 w.heap.size (.slice Ao S.length co) (midH f S 0)) := ⟨by have := hD4.out.lower (Nat.le_trans hs2 hs3); simpa [midH] using this⟩
    clear hB hB3 hB4 hM hO hl hnd hw hm hsub hsc hCi hD4 hK HH HA hB0 hs2 hs3
    go_loopg [18] S.length (fun m v18 wr => ∃ (i : Nat), v18 = .int .i64 (i : Int) ∧ Aside0 (i + m = S.length) ∧ Aside0 (RowsD wr w.heap.size (.slice Ao S.length co) (midH f S i)) ∧ Aside0 (MapIs wr gm N M) ∧ Aside0 (Below w.heap.size w wr))
    case atStart => exact ⟨0, rfl, ⟨by omega⟩, HD4, HM4, HB⟩
    case round =>
      clear HD4 HM4 HB
      obtain ⟨i, rfl, HI, HD, HM, HB⟩ := hrel
      cases gk with
      | zero =>
        have hi : ¬ ((i : Int) < (S.length : Int)) := by have := HI.out; omega
        have hil : i = S.length := by have := HI.out; omega
        subst hil
        go_wp2_with (fail)
        go_ret2
        exact ⟨_, rfl, HB.out, HD⟩
      | succ m =>
        have hin : i < S.length := by have := HI.out; omega
        have hi : (i : Int) < (S.length : Int) := by omega
        have hwi := wrap_id (x := (i : Int) + 1) (by omega) (by omega)
        obtain ⟨c, hc⟩ : ∃ c, c = S[i] := ⟨_, rfl⟩
        have hcn := hnear.out c (by rw [hc]; exact List.getElem_mem hin)
        have HG := Aside0.mk (midH_get (f := f) hin)
        have HSet := Aside0.mk (midH_set (f := f) hin)
        rw [← hc] at HG HSet
        have hwx : (Lit.int .i64 c.1).wf = true := i64_ok (by omega) (by omega)
        have hwy : (Lit.int .i64 c.2).wf = true := i64_ok (by omega) (by omega)
        obtain ⟨L, hL, hE⟩ := HD.out
        obtain ⟨b, capb, hLb, hob, hb0, hb1, hbl⟩ := RowsD.two_at hE HG.out
        obtain ⟨g, cg, hA, hgb, hcell, hfz⟩ := RowsD.at hL hLb
        rw [midH_len] at hA
        injection hA with hA hA2 hA3
        clear hA2
        subst hA hA3
        have HLook : Aside0 (∀ Y, MapIs Y gm N M → (Instr.lookup 67 (.map (some gm)) (.agg #[.int .i64 c.1, .int .i64 c.2]) false).run Try.prog Y = .ok (.int .i64 (f c)) Y) := ⟨fun Y hY => by
          have := hY.look0 hwx hwy
          rw [hV.out] at this
          rw [HF.out]
          exact this⟩
        have HX := Aside0.mk (And.intro hL hE)
        have HLb := Aside0.mk hLb
        have HOb := Aside0.mk hob
        clear hwx hwy hcn hc HG hL hE hLb hob HD
        go_upto_region 8 with (fail)
        have a0 : wr.drew.cell? ⟨b, 0, none⟩ = some (.int .i64 c.1) := hb0
        have a1 : wr.drew.cell? ⟨b, 1, none⟩ = some (.int .i64 c.2) := hb1
        have hfg : wr.drew.frozen? ⟨g, i, none⟩ = false := hfz
        have HXd : Aside0 (wr.drew.ownsRow w.heap.size 29 1 (.slice (some ⟨g, 0, none⟩) (midH f S i).length co) (midH f S i).length L ∧ RowsL wr.drew w.heap.size (midH f S i) L) := ⟨by rw [midH_len]; have := HX.out.1; rw [midH_len] at this; exact this, HX.out.2⟩
        have HMd : Aside0 (MapIs wr.drew gm N M) := ⟨HM.out.move rfl⟩
        have HBd : Aside0 (Below w.heap.size w wr.drew) := ⟨pw_below_drewN HB.out 1⟩
        have HOd : Aside0 (wr.drew.ownsRow w.heap.size 3 1 (.slice (some ⟨b, 0, none⟩) 2 capb) 2 [.int .i64 c.1, .int .i64 c.2]) := ⟨HOb.out⟩
        have hlk := HLook.out _ HMd.out
        have hblk : b < wr.drew.heap.size := hbl
        have hcell0 : wr.drew.cell? ⟨g, i, none⟩ = some (.slice (some ⟨b, 0, none⟩) 2 capb) := hcell
        clear HX HM HB HOb hb0 hb1 hfz hbl HLook
        refine start_ (n := 16) (S := fun w' => w'.cell? ⟨b, 0, none⟩ = some (.int .i64 c.1) ∧ w'.cell? ⟨b, 1, none⟩ = some (.int .i64 c.2) ∧ (Instr.lookup 67 (.map (some gm)) (.agg #[.int .i64 c.1, .int .i64 c.2]) false).run Try.prog w' = .ok (.int .i64 (f c)) w') (ds := [12, 13, 15]) #[false, false, false, false, false, false, false, false, false, false, false, false, false, false, false, false] (by kernel_rfl) rfl rfl ⟨a0, a1, hlk⟩ (fun hHeld => ?_)
        refine with_tabW tab8h bits8h (fun HT_ HW_ => ?_)
        generalize wr.drew = Y0 at *
        refine pure_ (i := 0) (N := some 23) (v := ?_) (a' := ?_) #[true, false, false, false, false, false, false, false, false, false, false, false, false, false, false, false] rfl rfl (any_of HT_.out (by kernel_rfl)) (fun _ _ _ h => h) (Or.inl ⟨by rfl, ?_⟩) ?_ ?_
        rotate_left
        · intro w'
          go_simp
          with_reducible rfl
        rotate_left
        · simp only [Act.put, List.setIfInBounds_toArray, List.set_cons_zero, List.set_cons_succ, i64_w, i32_w]
          rfl
        refine pure_ (i := 1) (N := some 24) (v := ?_) (a' := ?_) #[true, true, false, false, false, false, false, false, false, false, false, false, false, false, false, false] rfl rfl (any_of HT_.out (by kernel_rfl)) (fun _ _ _ h => h) (Or.inl ⟨by rfl, ?_⟩) ?_ ?_
        rotate_left
        · intro w'
          go_simp
          with_reducible rfl
        rotate_left
        · simp only [Act.put, List.setIfInBounds_toArray, List.set_cons_zero, List.set_cons_succ, i64_w, i32_w]
          rfl
        refine pure_ (i := 2) (N := some 25) (v := ?_) (a' := ?_) #[true, true, true, false, false, false, false, false, false, false, false, false, false, false, false, false] rfl rfl (any_of HT_.out (by kernel_rfl)) (fun _ _ _ h => h) (Or.inl ⟨by rfl, ?_⟩) ?_ ?_
        rotate_left
        · intro w'
          go_simp
          with_reducible rfl
        rotate_left
        · simp only [Act.put, List.setIfInBounds_toArray, List.set_cons_zero, List.set_cons_succ, i64_w, i32_w]
          rfl
        refine pure_ (i := 3) (N := some 26) (v := ?_) (a' := ?_) #[true, true, true, true, false, false, false, false, false, false, false, false, false, false, false, false] rfl rfl (any_of HT_.out (by kernel_rfl)) (fun _ _ _ h => h) (Or.inl ⟨by rfl, ?_⟩) ?_ ?_
        rotate_left
        · intro w'
          go_simp
          with_reducible rfl
        rotate_left
        · simp only [Act.put, List.setIfInBounds_toArray, List.set_cons_zero, List.set_cons_succ, i64_w, i32_w]
          rfl
        refine pure_ (i := 4) (N := some 27) (v := ?_) (a' := ?_) #[true, true, true, true, true, false, false, false, false, false, false, false, false, false, false, false] rfl rfl (any_of HT_.out (by kernel_rfl)) (fun _ _ _ h => h) (Or.inl ⟨by rfl, ?_⟩) ?_ ?_
        rotate_left
        · intro w'
          go_simp
          with_reducible rfl
        rotate_left
        · simp only [Act.put, List.setIfInBounds_toArray, List.set_cons_zero, List.set_cons_succ, i64_w, i32_w]
          rfl
        refine pure_ (i := 7) (N := some 30) (v := ?_) (a' := ?_) #[true, true, true, true, true, false, false, true, false, false, false, false, false, false, false, false] rfl rfl (any_of HT_.out (by kernel_rfl)) (fun _ _ _ h => h) (Or.inl ⟨by rfl, ?_⟩) ?_ ?_
        rotate_left
        · intro w'
          go_simp
          with_reducible rfl
        rotate_left
        · simp only [Act.put, List.setIfInBounds_toArray, List.set_cons_zero, List.set_cons_succ, i64_w, i32_w]
          rfl
        refine pure_ (i := 5) (N := some 28) (v := ?_) (a' := ?_) #[true, true, true, true, true, true, false, true, false, false, false, false, false, false, false, false] rfl rfl (any_of HT_.out (by kernel_rfl)) (fun _ _ _ h => h) (Or.inl ⟨by rfl, ?_⟩) ?_ ?_
        rotate_left
        · intro w'
          go_simp
          with_reducible rfl
        rotate_left
        · simp only [Act.put, List.setIfInBounds_toArray, List.set_cons_zero, List.set_cons_succ, i64_w, i32_w]
          rfl
        refine pure_ (i := 8) (N := some 31) (v := ?_) (a' := ?_) #[true, true, true, true, true, true, false, true, true, false, false, false, false, false, false, false] rfl rfl (any_of HT_.out (by kernel_rfl)) (fun _ _ _ h => h) (Or.inl ⟨by rfl, ?_⟩) ?_ ?_
        rotate_left
        · intro w'
          go_simp
          with_reducible rfl
        rotate_left
        · simp only [Act.put, List.setIfInBounds_toArray, List.set_cons_zero, List.set_cons_succ, i64_w, i32_w]
          rfl
        refine take_ (i := 6) (N := some 29) (v := ?_) (a' := ?_) #[true, true, true, true, true, true, true, true, true, false, false, false, false, false, false, false] rfl rfl (take_ofW HT_.out HW_.out (by kernel_rfl)) (fun _ _ _ h => h) (Or.inl ⟨by rfl, ?_⟩) hHeld ?_ ?_
        rotate_left
        · intro w' hSw; obtain ⟨hS0, hS1, hS2⟩ := hSw
          go_simp
          with_reducible rfl
        rotate_left
        · simp only [Act.put, List.setIfInBounds_toArray, List.set_cons_zero, List.set_cons_succ, i64_w, i32_w]
          rfl
        refine take_ (i := 9) (N := some 32) (v := ?_) (a' := ?_) #[true, true, true, true, true, true, true, true, true, true, false, false, false, false, false, false] rfl rfl (take_ofW HT_.out HW_.out (by kernel_rfl)) (fun _ _ _ h => h) (Or.inl ⟨by rfl, ?_⟩) hHeld ?_ ?_
        rotate_left
        · intro w' hSw; obtain ⟨hS0, hS1, hS2⟩ := hSw
          go_simp
          with_reducible rfl
        rotate_left
        · simp only [Act.put, List.setIfInBounds_toArray, List.set_cons_zero, List.set_cons_succ, i64_w, i32_w]
          rfl
        refine pure_ (i := 10) (N := some 33) (v := ?_) (a' := ?_) #[true, true, true, true, true, true, true, true, true, true, true, false, false, false, false, false] rfl rfl (any_of HT_.out (by kernel_rfl)) (fun _ _ _ h => h) (Or.inl ⟨by rfl, ?_⟩) ?_ ?_
        rotate_left
        · intro w'
          go_simp
          with_reducible rfl
        rotate_left
        · simp only [Act.put, List.setIfInBounds_toArray, List.set_cons_zero, List.set_cons_succ, i64_w, i32_w]
          rfl
        refine take_ (i := 11) (N := some 34) (v := ?_) (a' := ?_) #[true, true, true, true, true, true, true, true, true, true, true, true, false, false, false, false] rfl rfl (take_ofW HT_.out HW_.out (by kernel_rfl)) (fun _ _ _ h => h) (Or.inl ⟨by rfl, ?_⟩) hHeld ?_ ?_
        rotate_left
        · intro w' hSw; obtain ⟨hS0, hS1, hS2⟩ := hSw
          go_simp
          with_reducible rfl
        rotate_left
        · simp only [Act.put, List.setIfInBounds_toArray, List.set_cons_zero, List.set_cons_succ, i64_w, i32_w]
          rfl
        refine last_ (i := 12) (N := some 35) #[true, true, true, true, true, true, true, true, true, true, true, true, true, false, false, false] rfl rfl (one_of HT_.out (by kernel_rfl)) (by decide) (fun K hK => ?_)
        refine value_ (v := .slice (some ⟨Y0.heap.size, 0, none⟩) 1 1) (w1 := Y0.alloc (.cells #[.int .i64 (f c)] 3)) (by rfl) rfl (by go_simp) ?_
        refine hK.out _ _ ?_
        clear hK K
        (try simp only [Act.put, List.setIfInBounds_toArray, List.set_cons_zero, List.set_cons_succ])
        refine last_ (i := 13) (N := some 36) #[true, true, true, true, true, true, true, true, true, true, true, true, true, true, false, false] rfl rfl (one_of HT_.out (by kernel_rfl)) (by decide) (fun K hK => ?_)
        refine step_app3 rfl (.tmp 25) (.tmp 35) rfl rfl rfl (own_alloc HOd.out _) (blk_new Y0 _) (by have := HBd.out.size; simp; omega) ?_
        intro g1 cap1 Y1 hO1 hg1 hat1
        refine hK.out _ _ ?_
        clear hK K
        (try simp only [Act.put, List.setIfInBounds_toArray, List.set_cons_zero, List.set_cons_succ])
        have hbb : w.heap.size ≤ b := own_base HOd.out b rfl
        have hold : ∀ k, k < Y0.heap.size → b ≠ k → Y1.heap[k]? = Y0.heap[k]? := fun k hk hne => (hg1.block k (by simp; omega) (by simpa using fun e => hne e.symm)).trans ((MapKept.heap_alloc Y0 _).2 k hk)
        have hput := RowsD.change2 (w1 := Y1) (r := [c.1, c.2, f c]) HXd.out.1 HXd.out.2 (by rw [midH_len]; exact hin) HLb.out hO1 (by intro k hk; simp [Value.ownBlock] at hk; rcases hat1 with h | h; exact .inr (by simp [Value.ownBlock]; omega); exact .inl (by simp at h; omega)) (fun k hk hne => hold k hk (by simpa [Value.ownBlock] using hne))
        rw [HSet.out, midH_len] at hput
        have hgm : gm < Y0.heap.size ∧ b ≠ gm ∧ gm ≠ g := by
          obtain ⟨cb, hcb⟩ := own_typed HOd.out b rfl
          obtain ⟨cgg, hcgg⟩ := own_typed HXd.out.1 g rfl
          exact ⟨by obtain ⟨D, hm, _⟩ := HMd.out; exact hm.lt, fun e => HMd.out.notCells hcb e.symm, HMd.out.notCells hcgg⟩
        have hcg : Y1.cell? ⟨g, i, none⟩ = some (.slice (some ⟨b, 0, none⟩) 2 capb) := (cell_same hput.2 i).trans hcell0
        have hfg1 : Y1.frozen? ⟨g, i, none⟩ = false := (frozen_same hput.2 i).trans hfg
        have HDn : Aside0 (RowsD (Y1.setCell ⟨g, i, none⟩ (.slice (some ⟨g1, 0, none⟩) 3 cap1)) w.heap.size (.slice (some ⟨g, 0, none⟩) S.length co) (midH f S (i + 1))) := ⟨hput.1⟩
        have HMn : Aside0 (MapIs (Y1.setCell ⟨g, i, none⟩ (.slice (some ⟨g1, 0, none⟩) 3 cap1)) gm N M) := ⟨(HMd.out.move (hold gm hgm.1 hgm.2.1)).move (Below.heap_setCell _ _ _ _ hgm.2.2)⟩
        have HBn : Aside0 (Below w.heap.size w (Y1.setCell ⟨g, i, none⟩ (.slice (some ⟨g1, 0, none⟩) 3 cap1))) := ⟨((HBd.out.alloc HBd.out.size _).grown hg1 (by have := HBd.out.size; simp; omega) (fun j e => by cases e; exact hbb)).setCell hgb _⟩
        clear hput hgm hO1 hg1 hat1 HXd HMd HBd HOd hold HLb HSet a0 a1 hlk hcell hcell0 hfg hblk hbb hHeld
        refine pure_ (i := 14) (N := some 37) (v := ?_) (a' := ?_) #[true, true, true, true, true, true, true, true, true, true, true, true, true, true, true, false] rfl rfl (any_of HT_.out (by kernel_rfl)) (fun _ _ _ h => h) (Or.inl ⟨by rfl, ?_⟩) ?_ ?_
        rotate_left
        · intro w'
          go_simp
          with_reducible rfl
        rotate_left
        · simp only [Act.put, List.setIfInBounds_toArray, List.set_cons_zero, List.set_cons_succ, i64_w, i32_w]
          rfl
        refine lastS_ (i := 15) (w1 := Y1.setCell ⟨g, i, none⟩ (.slice (some ⟨g1, 0, none⟩) 3 cap1)) #[true, true, true, true, true, true, true, true, true, true, true, true, true, true, true, true] rfl rfl (one_of HT_.out (by kernel_rfl)) (by decide) (by rfl) ?_ ?_
        · go_simp
        clear hcg hfg1
        generalize Y1.setCell ⟨g, i, none⟩ (.slice (some ⟨g1, 0, none⟩) 3 cap1) = Y2 at *
        (try simp only [Act.put, List.setIfInBounds_toArray, List.set_cons_zero, List.set_cons_succ])
        refine done_ (done_of HT_.out (by kernel_rfl)) ?_
        clear HT_ HW_
        go_wp2_with (fail)
        go_roundg m
        case measure => omega
        case rel => exact ⟨i + 1, by first | rfl | go_num, ⟨by have := HI.out; omega⟩, HDn, HMn, HBn⟩
  · have hok : okH0 n = false := decide_eq_false hn
    rw [heapRows0 hok, hok]
    have HA := Aside0.mk (fun W => impl_in.calls n 0 250 false W (iin0_bad hn))
    clear hok
    go_enter Try.func62, Try.ntmps62
    go_wp2_with (first | (go_at_call 79; (with_reducible refine (HA.out _).mono ?_); rintro e w1 ⟨rfl, ⟨nd, rfl⟩⟩))
    go_ret2
    exact ⟨_, rfl, by repeat (first | exact Below.refl _ _ | apply pw_below_drewN), ⟨RowsD.nil _ _⟩⟩
end Go.Proofs.Ytjedhjeijpbobaa.G8

/-! ## So -/
namespace Go.Proofs.Ytjedhjeijpbobaa.G8
open Go.RowKit Go.Maps Go.Proofs.YtjedhjeijpbobaaW.PrintWords Go.Proofs.YtjedhjeijpbobaaW.PrintLast Go.Proofs.YtjedhjeijpbobaaW.PrintMore
set_option linter.unusedVariables false
set_option linter.unusedSimpArgs false
theorem heapRows_three (n : Int) : ∀ r ∈ heapRows n, r.length ≤ 3 := fun r hr => by
  unfold heapRows at hr
  split at hr
  · unfold hrows at hr
    obtain ⟨c, _, rfl⟩ := List.mem_map.1 hr
    exact Nat.le_refl 3
  · simp at hr
theorem rowL_len (p : Int → Int → Bool) (x : Int) : ∀ (k : Nat) (y : Int), (rowL p x k y).length ≤ k
  | 0, y => by simp [rowL]
  | k + 1, y => by
    have := rowL_len p x k (y + 1)
    unfold rowL
    split
    · rw [List.length_cons]; omega
    · omega
theorem gridL_len (p : Int → Int → Bool) (lo : Int) (m : Nat) : ∀ (k : Nat) (x : Int), (gridL p lo m k x).length ≤ k * m
  | 0, x => by simp [gridL]
  | k + 1, x => by
    have h1 := rowL_len p x m lo
    have h2 := gridL_len p lo m k (x + 1)
    unfold gridL
    rw [List.length_append, Nat.add_mul]
    omega
theorem heapCs_len (n : Int) : (heapCs n).length ≤ 14641 := gridL_len (hotB n) (-60) 121 121 (-60)
theorem heapRows_len (n : Int) : (heapRows n).length ≤ 14641 := by
  unfold heapRows
  split
  · rw [hrows_len]; exact heapCs_len n
  · simp
theorem spec_HeapCells_calls (n : Int) (w : World) : Calls Try.prog 61 #[.int .i64 n] w (RowsRef w (heapRows n) (okH0 n)) := by
  by_cases hn : 0 ≤ n ∧ n ≤ 250
  · have hok : okH0 n = true := decide_eq_true hn
    rw [heapRows1 hok, hok]
    refine (heapCells_calls n hn w).mono ?_
    rintro e w' ⟨vc, cs, u, rfl, hB, hR, hL, hS, hC⟩
    have hu := heapU_is hn hL.out (fun a b => (hS.out a b).2)
    subst hu
    have hcs := hC.out.eq hn
    refine ⟨vc, rfl, hB, ⟨?_⟩⟩
    rw [← hcs]
    refine hR.out.readsC fun r hr => ?_
    unfold hrows at hr
    obtain ⟨c, _, rfl⟩ := List.mem_map.1 hr
    exact Nat.le_of_ble_eq_true rfl
  · have hok : okH0 n = false := decide_eq_false hn
    rw [heapRows0 hok, hok]
    refine (heapCells_bad n hn w).mono ?_
    rintro e w' ⟨rfl, hB⟩
    exact ⟨_, rfl, hB, ⟨rowsC_nil _⟩⟩
end Go.Proofs.Ytjedhjeijpbobaa.G8

/-! ## Sp -/
namespace Go.Proofs.Ytjedhjeijpbobaa.G8
open Go.RowKit Go.Maps Go.Proofs.YtjedhjeijpbobaaW.PrintWords Go.Proofs.YtjedhjeijpbobaaW.PrintLast Go.Proofs.YtjedhjeijpbobaaW.PrintMore
open Go.Proofs.Ytjedhjeijpbobaa.GA
set_option linter.unusedVariables false
set_option linter.unusedSimpArgs false
set_option maxHeartbeats 4000000 in
set_option maxRecDepth 100000 in
theorem law_HeapCells.walk (n : Int) (w : World) : Calls Try.prog 15 #[.int .i64 n] w fun e w' => e = .returned (.bool true) ∧ Below w.heap.size w w' := by
  obtain ⟨R, hR⟩ : ∃ R, R = heapRows n := ⟨_, rfl⟩
  obtain ⟨ok, hok⟩ : ∃ ok, ok = okH0 n := ⟨_, rfl⟩
  have hl : R.length ≤ 14641 := by rw [hR]; exact heapRows_len n
  have h2 : ∀ r ∈ R, r.length ≤ 3 := by rw [hR]; exact heapRows_three n
  have hS := fun W => spec_HeapCells_calls n W
  have hI := fun W => impl_HeapCells_calls n W
  rw [← hR, ← hok] at hS hI
  clear hR hok
  have ht := tot_bound R 3 h2
  have ht0 := tot_pos R
  have HL : Aside0 (R.length ≤ 10000000 ∧ (0 ≤ (1 : Int) ∧ 1 + tot R ≤ 1000000000) ∧ ∀ r ∈ R, r.length ≤ 3) := ⟨by omega, ⟨by omega, by omega⟩, h2⟩
  have HS := Aside0.mk hS
  have HI := Aside0.mk hI
  have hq : ¬ (1 + tot R < 0) := by omega
  clear hl h2 hS hI ht ht0
  go_enter Try.func15, Try.ntmps15
  go_upto_region 3 with (first | (go_at_call 61; refine (HS.out _).mono ?_; rintro e w1 ⟨vs, rfl, hB1, hC1⟩) | (go_at_call 62; refine (HI.out _).mono ?_; rintro e w2 ⟨vg, rfl, hB2, hD2⟩))
  have HB1 := Aside0.mk hB1
  have HB2 := Aside0.mk hB2
  clear hB1 hB2
  go_upto_region 5 with (first | (go_at_call 58; refine (eqIntSS_calls _ _ _ R hD2.out.reads (hC1.out.below HB2.out) HL.out.1 3 HL.out.2.2 (by decide)).mono ?_; rintro e w3 ⟨rfl, ⟨nd, rfl⟩⟩))
  have HB3 : Aside0 (Below w1.heap.size w1 (w2.drewN nd)) := ⟨pw_below_drewN HB2.out nd⟩
  have HD3 : Aside0 (RowsD (w2.drewN nd) w1.heap.size vg R) := ⟨hD2.out.drewN nd⟩
  clear hD2 HB2
  generalize w2.drewN nd = w3 at *
  go_upto_region 7 with (first | (go_at_call 59; refine (markIntSS_calls w1 _ HB3.out _ R 1 HD3.out HL.out.2.1 HL.out.1).mono ?_; rintro e w4 ⟨rfl, hB4, hD4⟩))
  have HB4 := Aside0.mk hB4
  clear hB4 HB3 HD3
  go_upto_region 9 with (first | (go_at_call 60; refine (heldIntSS_calls _ _ R 1 hD4.out.reads HL.out.1 HL.out.2.1 3 HL.out.2.2).mono ?_; rintro e w5 ⟨rfl, ⟨nd, rfl⟩⟩))
  have HB5 : Aside0 (Below w1.heap.size w1 (w4.drewN nd)) := ⟨pw_below_drewN HB4.out nd⟩
  have HD5 : Aside0 (RowsD (w4.drewN nd) w1.heap.size vg (markRows R 1)) := ⟨hD4.out.drewN nd⟩
  clear hD4 HB4
  generalize w4.drewN nd = w5 at *
  go_upto_region 14 with (first | (go_at_call 62; refine (HI.out _).mono ?_; rintro e w6 ⟨vh, rfl, hB6, hD6⟩))
  have HB6 := Aside0.mk hB6
  have HC6 : Aside0 (RowsC w6 vs R) := ⟨hC1.out.below (HB5.out.trans (hB6.mono HB5.out.size))⟩
  have HD7 : Aside0 (RowsD w6 w1.heap.size vg (markRows R 1)) := ⟨HD5.out.below hB6⟩
  have HB7 : Aside0 (Below w1.heap.size w1 w6) := ⟨HB5.out.trans (hB6.mono HB5.out.size)⟩
  clear hB6 HB6 HD5 HB5 hC1
  go_upto_region 16 with (first | (go_at_call 58; refine (eqIntSS_calls _ _ _ R hD6.out.reads HC6.out HL.out.1 3 HL.out.2.2 (by decide)).mono ?_; rintro e w7 ⟨rfl, ⟨nd, rfl⟩⟩))
  have HB8 : Aside0 (Below w1.heap.size w1 (w6.drewN nd)) := ⟨pw_below_drewN HB7.out nd⟩
  have HD8 : Aside0 (RowsD (w6.drewN nd) w1.heap.size vg (markRows R 1)) := ⟨HD7.out.drewN nd⟩
  clear hD6 HB7 HD7 HC6
  generalize w6.drewN nd = w8 at *
  go_wp2_with (first | (go_at_call 60; refine (heldIntSS_calls _ _ R 1 HD8.out.reads HL.out.1 HL.out.2.1 3 HL.out.2.2).mono ?_; rintro e w9 ⟨rfl, ⟨nd, rfl⟩⟩))
  go_ret
  exact ⟨by first | rfl | trivial, pw_below_drewN (HB1.out.trans (HB8.out.mono HB1.out.size)) nd⟩
end Go.Proofs.Ytjedhjeijpbobaa.G8
