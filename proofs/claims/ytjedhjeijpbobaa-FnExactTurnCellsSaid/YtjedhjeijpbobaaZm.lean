/-
  Cells turned: of the program, walked. Cells turned: of the reference, walked. Rows marked, wherever they lie: nothing else changes. Sizes and copies of rows. The law of turned cells: walked.
-/
import Derived.Test.YtjedhjeijpbobaaZi
import Derived.Test.YtjedhjeijpbobaaGK1
/-! ## St -/
namespace Go.Proofs.Ytjedhjeijpbobaa.G8
open Go.RowKit Go.Maps Go.Proofs.YtjedhjeijpbobaaW.PrintWords Go.Proofs.YtjedhjeijpbobaaW.PrintLast Go.Proofs.YtjedhjeijpbobaaW.PrintMore
open Go.Proofs.Ytjedhjeijpbobaa.GA
open Go.Proofs.Ytjedhjeijpbobaa.GJ (rd_L1 at_L1)
set_option linter.unusedVariables false
set_option linter.unusedSimpArgs false
/-- Rows that a copy has made. -/
theorem rowsD_of_S {w : World} {base : Nat} {ok : Nat → Prop} {v : Value} {rows : List (List Int)} (h : Kd.S (Kd.slice 3 (Kd.int .i64)) 29 w base ok v rows) : RowsD w base v rows := by
  obtain ⟨f, h0, inner, ho, hr⟩ := h
  rw [List.length_zipIdx] at ho
  have hl : inner.length = rows.length := by have h1 : inner.length = rows.length * 1 := ho.1; omega
  have hat : ∀ (i : Nat) (r : List Int), rows[i]? = some r → ∃ u, inner[i]? = some u ∧ w.ownsRow base 3 1 u r.length (encI r) ∧ ∀ k, u.ownBlock = some k → f k = i := fun i r hi => by
    obtain ⟨u, h1, h2⟩ := hr.2 i (r, i) (Kd.zip_at hi)
    have hin : i < inner.length := by rw [hl]; exact (List.getElem?_eq_some_iff.1 hi).1
    have e : inner[i] = u := by
      have h1' : (inner.drop (i * 1)).take 1 = [u] := h1
      rw [Nat.mul_one, List.drop_eq_getElem_cons hin, List.take_succ_cons, List.take_zero] at h1'
      exact (List.cons.inj h1').1
    refine ⟨u, by rw [List.getElem?_eq_getElem hin, e], Kd.own_of_R h2, fun k hk => (h2.1 k hk).2⟩
  refine ⟨inner, ho, fun i r hi => ?_, fun i j x y k hx hy hij hk hk2 => ?_⟩
  · obtain ⟨u, h1, h2, _⟩ := hat i r hi
    exact ⟨u, h1, h2⟩
  · have hi : i < rows.length := by rw [← hl]; exact (List.getElem?_eq_some_iff.1 hx).1
    have hj : j < rows.length := by rw [← hl]; exact (List.getElem?_eq_some_iff.1 hy).1
    obtain ⟨u, h1, _, h3⟩ := hat i _ (List.getElem?_eq_getElem hi)
    obtain ⟨u2, h4, _, h5⟩ := hat j _ (List.getElem?_eq_getElem hj)
    rw [hx] at h1
    rw [hy] at h4
    cases h1
    cases h4
    exact hij ((h3 k hk).symm.trans (h5 k hk2))
/-! ### what is asked -/
def cellOk (r : List Int) : Bool := decide (r.length = 2) && nearB (r.getD 0 0) (r.getD 1 0)
def okTurn (rows : List (List Int)) : Bool := decide (rows.length ≤ 250) && rows.all cellOk
def turnC (r : List Int) : Int × Int := (-(r.getD 1 0), r.getD 0 0)
def turnV (rows : List (List Int)) : List (List Int) := if okTurn rows = true then pairs (sortC (rows.map turnC)) else []
theorem turnV0 {rows : List (List Int)} (h : okTurn rows = false) : turnV rows = [] := by unfold turnV; rw [if_neg (by rw [h]; decide)]
theorem turnV1 {rows : List (List Int)} (h : okTurn rows = true) : turnV rows = pairs (sortC (rows.map turnC)) := by unfold turnV; rw [if_pos h]
/-- The first row that is none, or none. -/
theorem okTurn_split {rows : List (List Int)} (hl : rows.length ≤ 250) (h : okTurn rows = false) : ∃ (i : Nat) (hi : i < rows.length), cellOk rows[i] = false ∧ ∀ (j : Nat) (hj : j < rows.length), j < i → cellOk rows[j] = true := by
  unfold okTurn at h
  rw [decide_eq_true hl, Bool.true_and] at h
  clear hl
  induction rows with
  | nil => simp at h
  | cons r rows ih =>
    cases hr : cellOk r with
    | false => exact ⟨0, by simp, hr, fun j hj h0 => by omega⟩
    | true =>
      rw [List.all_cons, hr, Bool.true_and] at h
      obtain ⟨i, hi, h1, h2⟩ := ih h
      refine ⟨i + 1, by simpa using hi, h1, fun j hj hlt => ?_⟩
      match j with
      | 0 => exact hr
      | j + 1 => exact h2 j (by simpa using hj) (by omega)
theorem cellOk_near {r : List Int} (h : cellOk r = true) : ∃ x y, r = [x, y] ∧ nearB x y = true ∧ (-100 ≤ x ∧ x ≤ 100) ∧ (-100 ≤ y ∧ y ≤ 100) := by
  unfold cellOk at h
  rw [Bool.and_eq_true, decide_eq_true_eq] at h
  match r, h with
  | [x, y], h =>
    refine ⟨x, y, rfl, h.2, ?_⟩
    have := h.2
    simp only [nearB, inB, List.getD_cons_zero, List.getD_cons_succ, Bool.and_eq_true, decide_eq_true_eq] at this
    exact this
theorem cellOk_far {r : List Int} (h : cellOk r = false) : r.length ≠ 2 ∨ ∃ x y, r = [x, y] ∧ nearB x y = false := by
  by_cases hl : r.length = 2
  · right
    unfold cellOk at h
    rw [decide_eq_true hl, Bool.true_and] at h
    match r, hl with
    | [x, y], _ => exact ⟨x, y, rfl, h⟩
  · exact .inl hl
/-- A row of the argument, as it is read. -/
theorem row_at {w : World} {A : Option Addr} {rows : List (List Int)} (h : Kd.C (Kd.slice 3 (Kd.int .i64)) w A rows.length rows) {i : Nat} (hi : i < rows.length) : ∃ ad A0 c0, A = some ad ∧ w.cell? (ad.add i) = some (.slice A0 rows[i].length c0) ∧ rows[i].length ≤ c0 ∧ (Kd.int .i64).C w A0 rows[i].length rows[i] := by
  obtain ⟨ad, A0, c0, h1, h2, h3, h4⟩ := at_L1 h (i : Int) (by omega) (by omega)
  rw [rdL_at rows i hi] at h2 h3 h4
  exact ⟨ad, A0, c0, h1, by simpa using h2, h3, h4⟩
theorem pair_at {w : World} {A : Option Addr} {x y : Int} (h : (Kd.int .i64).C w A 2 [x, y]) : ∃ ad, A = some ad ∧ w.cell? ad = some (.int .i64 x) ∧ w.cell? ⟨ad.block, ad.off + 1, none⟩ = some (.int .i64 y) := by
  obtain ⟨ad, c, e, _, hK, hc0⟩ := Kd.C_get h 0 0 (by omega) (by omega)
  obtain ⟨ad2, c2, e2, _, hK2, hc1⟩ := Kd.C_get h 0 1 (by omega) (by omega)
  rw [e] at e2
  cases e2
  have k0 : c = [.int .i64 x] := hK
  have k1 : c2 = [.int .i64 y] := hK2
  subst k0 k1
  have h0 := hc0 0 _ rfl
  have h1 := hc1 0 _ rfl
  refine ⟨ad, e, ?_, ?_⟩
  · simpa [Addr.add] using h0
  · have h2 : w.cell? (ad.add 1) = some (.int .i64 y) := h1
    simpa [Addr.add] using h2
theorem cellsIn_own {w : World} {base : Nat} {vc : Value} {cs : List (Int × Int)} (h : w.ownsRow base 76 2 vc cs.length (flat cs)) : ∃ A cap, vc = .slice A cs.length cap ∧ CellsIn w.heap.size w A cs := by
  rcases Nat.eq_zero_or_pos cs.length with h0 | h0
  · have hn : cs = [] := List.eq_nil_of_length_eq_zero h0
    rcases h.2 with ⟨h1, h2⟩ | ⟨b, cap, cur, h1, _⟩
    · exact ⟨none, 0, by rw [h1, h0], fun i c hc => by rw [hn] at hc; simp at hc⟩
    · exact ⟨_, cap, h1, fun i c hc => by rw [hn] at hc; simp at hc⟩
  · obtain ⟨g2, cap, h1, h2⟩ := cells_at h h0
    refine ⟨_, cap, h1, fun i c hc => ?_⟩
    obtain ⟨q1, q2⟩ := h2 i c hc
    exact ⟨g2, rfl, own_lt h g2 (by rw [h1]; rfl), q1, q2⟩
def T9t : Bool × List (List Nat × List Nat) := (true, [([], []), ([], []), ([1], [1]), ([2], [2]), ([3], [3]), ([], []), ([5], [5]), ([6], [6]), ([4, 7], [4, 7]), ([8], [8]), ([0, 9], [0, 9]), ([10, 10, 0, 1, 2, 3, 4, 5, 6, 7, 8, 9, 10], [0, 10])])
def B9t : List Nat := [0, 0, 2, 6, 14, 0, 32, 96, 254, 510, 1023, 2047]
theorem tab9t : rtab .any (opsOf Try.f47 9) = T9t := by kernel_rfl
theorem bits9t : waitsOk T9t.2 B9t = true := by kernel_rfl
theorem isCell_quiet (x y : Int) (b : Bool) (W : World) (h : nearB x y = b) : Calls Try.prog 74 #[.int .i64 x, .int .i64 y] W fun e w' => e = .returned (.bool b) ∧ ∃ m, w' = W.drewN m :=
  (impl_isCell.calls x y b W (by rw [isCell_eq, h])).mono fun e w' ⟨he, m, hm⟩ => ⟨he, m, hm⟩
theorem step_appL {ops : Array Oper} {o : Oper} {a : Act} {K : Act → World → Prop} {Q : Exit → Act → World → Prop} {E : Prop} {W : World} {base : Nat} {vc : Value} {cs : List (Int × Int)} {x y : Int} {C : Nat} (hgd : o.guard = none) (sv xv : Operand) (ho : o.op = .call { callee := .builtin .append, args := #[sv, xv], argTypes := #[68, 68] })
    (hs : a.eval sv = vc) (hx : a.eval xv = .slice (some ⟨C, 0, none⟩) 1 1) (h : W.ownsRow base 76 2 vc cs.length (flat cs)) (hbase : base ≤ W.heap.size) (hl : cs.length ≤ 1000000) (hC : W.heap[C]? = some (.cells #[.int .i64 x, .int .i64 y] 76 (0, 0)))
    (k : ∀ g1 cap w1, w1.ownsRow base 76 2 (.slice (some ⟨g1, 0, none⟩) (cs.length + 1) cap) (cs ++ [(x, y)]).length (flat (cs ++ [(x, y)])) → Below base W w1 → K (a.put o.dst (.slice (some ⟨g1, 0, none⟩) (cs.length + 1) cap)) w1) :
    if Region.wanted o (yielded ops a.tmps) = true then Oper.wp Try.prog o a W K Q else E := by
  obtain ⟨i0, hi0, hz⟩ := Option.map_eq_some_iff.1 info76s
  simp only [Prod.mk.injEq] at hz
  obtain ⟨hz0, hz1, hz2⟩ := hz
  refine step_append_lies W hgd sv xv 68 ho base 76 i0 (.agg #[.int .i64 0, .int .i64 0]) 2 16 Try.underlying68 hi0 hz0 hz1 hz2 rfl (by omega) vc cs.length (flat cs) hs h ⟨C, 0, none⟩ 1 1 [.int .i64 x, .int .i64 y] hx rfl (World.news_of_block hC) (by intro u hu; simp at hu; rcases hu with rfl | rfl <;> rfl) (by omega) (by unfold maxLen; omega) (by omega) hbase _ rfl ?_
  intro g1 cap w1 hown hg hat hlt
  exact k g1 cap w1 (by rw [flat_app, List.length_append, List.length_singleton]; exact hown) ((Below.refl base W).grown hg hbase (own_base h))
theorem own76_new (w : World) : (w.alloc (.cells #[] 76)).ownsRow w.heap.size 76 2 (.slice (some ⟨w.heap.size, 0, none⟩) 0 0) ([] : List (Int × Int)).length (flat []) :=
  ⟨rfl, .inr ⟨w.heap.size, 0, #[], rfl, Nat.le_refl _, blk_new w _, Nat.le_refl _, by unfold maxLen; simp, rfl, rfl⟩⟩
set_option maxHeartbeats 1000000 in
set_option maxRecDepth 100000 in
theorem impl_TurnCells_calls (vc : Value) (rows : List (List Int)) (w : World) (h : RowsC w vc rows) : Calls Try.prog 47 #[vc] w (RowsTwo w (turnV rows) (okTurn rows)) := by
  have hu76 := Try.underlying76
  obtain ⟨A, cap, rfl, hcap, hC⟩ := h
  have HC := Aside0.mk hC
  clear hC
  by_cases hl : rows.length ≤ 250
  · have hgt : ¬ ((rows.length : Int) > 250) := by omega
    -- how far the rows are cells
    obtain ⟨lim, HLim⟩ : ∃ lim : Nat, Aside0 (lim ≤ rows.length ∧ (∀ (j : Nat) (hj : j < rows.length), j < lim → cellOk rows[j] = true) ∧ (lim < rows.length → okTurn rows = false ∧ ∀ hj : lim < rows.length, cellOk rows[lim] = false) ∧ (lim = rows.length → okTurn rows = true)) := by
      cases ho : okTurn rows with
      | true =>
        refine ⟨rows.length, ⟨Nat.le_refl _, fun j hj _ => ?_, fun h => by omega, fun _ => rfl⟩⟩
        unfold okTurn at ho
        rw [Bool.and_eq_true, List.all_eq_true] at ho
        exact ho.2 _ (List.getElem_mem hj)
      | false =>
        obtain ⟨i, hi, h1, h2⟩ := okTurn_split hl ho
        exact ⟨i, ⟨Nat.le_of_lt hi, fun j hj hlt => h2 j hj hlt, fun _ => ⟨rfl, fun _ => h1⟩, fun e => by omega⟩⟩
    go_enter Try.func47, Try.ntmps47
    go_wp2_with (fail)
    have HO0 := Aside0.mk (own76_new w)
    have HB0 : Aside0 (Below w.heap.size w (w.alloc (.cells #[] 76))) := ⟨(Below.refl w.heap.size w).alloc (Nat.le_refl _) _⟩
    go_loopg [4, 13] rows.length (fun m v4 v13 wr => ∃ (i : Nat) (vo : Value), v4 = vo ∧ v13 = .int .i64 (i : Int) ∧ Aside0 (i + m = rows.length ∧ i ≤ lim) ∧ Aside0 (wr.ownsRow w.heap.size 76 2 vo ((rows.take i).map turnC).length (flat ((rows.take i).map turnC))) ∧ Aside0 (Below w.heap.size w wr))
    case atStart => exact ⟨0, _, rfl, rfl, ⟨by omega, by omega⟩, HO0, HB0⟩
    case round =>
      clear HO0 HB0
      obtain ⟨i, vo, hvo, rfl, HI, HO, HB⟩ := hrel
      replace hvo := hvo.symm
      subst hvo
      cases gk with
      | zero =>
        have hi : ¬ ((i : Int) < (rows.length : Int)) := by have := HI.out.1; omega
        have hok : okTurn rows = true := HLim.out.2.2.2 (by have := HLim.out.1; have := HI.out; omega)
        have HE : Aside0 (rows.take i = rows) := ⟨List.take_of_length_le (by have := HI.out; omega)⟩
        rw [HE.out] at HO
        have HV : Aside0 (turnV rows = pairs (sortC (rows.map turnC)) ∧ okTurn rows = true) := ⟨turnV1 hok, hok⟩
        have hlm : (rows.map turnC).length ≤ 900000 := by rw [List.length_map]; omega
        clear hok HLim HE HI
        generalize rows.map turnC = zs at *
        obtain ⟨A2, c2, hv2, hI2⟩ := cellsIn_own HO.out
        subst hv2
        have HI2 := Aside0.mk hI2
        clear hI2
        go_wp2_with (first | (go_at_call 84; refine (sorted_calls A2 c2 _ hlm _ HI2.out).mono ?_; rintro e w4 ⟨vs, rfl, hB4, hD4⟩; have HB4 := Aside0.mk hB4; clear hB4))
        go_ret2
        exact ⟨vs, by rw [HV.out.2]; rfl, HB.out.trans (HB4.out.mono HB.out.size), ⟨by rw [HV.out.1]; exact hD4.out.lower HB.out.size⟩⟩
      | succ m =>
        have hin : i < rows.length := by have := HI.out.1; omega
        have hi : (i : Int) < (rows.length : Int) := by omega
        have hwi := wrap_id (x := (i : Int) + 1) (by omega) (by omega)
        obtain ⟨ad, Ar, cr, hA, hcell, hcr, hCr⟩ := row_at (Kd.C_below HC.out HB.out) hin
        subst hA
        by_cases hlim : i < lim
        · have hck := HLim.out.2.1 i hin hlim
          obtain ⟨x, y, hr, hnear, hx, hy⟩ := cellOk_near hck
          have HT : Aside0 ((rows.take (i + 1)).map turnC = (rows.take i).map turnC ++ [(-y, x)]) := ⟨by rw [List.take_succ_eq_append_getElem hin, List.map_append, hr, List.map_cons, List.map_nil, show turnC [x, y] = (-y, x) from rfl]⟩
          rw [hr] at hcell hcr hCr
          obtain ⟨ad2, hA2, q0, q1⟩ := pair_at hCr
          subst hA2
          have HN := Aside0.mk (fun W => isCell_quiet x y true W hnear)
          have hwy : wrap64 (-y) = -y := wrap_id (by omega) (by omega)
          have hml : ((rows.take i).map turnC).length ≤ 1000000 := by rw [List.length_map, List.length_take]; omega
          simp only [List.length_cons, List.length_nil] at hcell hcr
          generalize (rows.take i).map turnC = cs at *
          clear hCr hck hnear hr
          go_upto_region 7 with (fail)
          go_quiet ((go_at_call 74; exact Calls.quiet_of (HN.out _)))
          go_upto_region 9 with (fail)
          have a0 : (wr.drewN nq).drew.cell? ad2 = some (.int .i64 x) := by simpa using q0
          have a1 : (wr.drewN nq).drew.cell? ⟨ad2.block, ad2.off + 1, none⟩ = some (.int .i64 y) := by simpa using q1
          have HOd : Aside0 ((wr.drewN nq).drew.ownsRow w.heap.size 76 2 vo cs.length (flat cs)) := ⟨own_move HO.out fun k _ => by simp⟩
          have HBd : Aside0 (Below w.heap.size w (wr.drewN nq).drew) := ⟨pw_below_drewN (pw_below_drewN HB.out nq) 1⟩
          clear HO HB q0 q1 hcell hcr HN
          refine start_ (n := 12) (S := fun w' => w'.cell? ad2 = some (.int .i64 x) ∧ w'.cell? ⟨ad2.block, ad2.off + 1, none⟩ = some (.int .i64 y)) (ds := [9, 10]) #[false, false, false, false, false, false, false, false, false, false, false, false] (by kernel_rfl) rfl rfl ⟨a0, a1⟩ (fun hHeld => ?_)
          refine with_tabW tab9t bits9t (fun HT_ HW_ => ?_)
          generalize (wr.drewN nq).drew = Y0 at *
          refine pure_ (i := 0) (N := some 30) (v := ?_) (a' := ?_) #[true, false, false, false, false, false, false, false, false, false, false, false] rfl rfl (any_of HT_.out (by kernel_rfl)) (fun _ _ _ h => h) (Or.inl ⟨by rfl, ?_⟩) ?_ ?_
          rotate_left
          · intro w'
            go_simp
            with_reducible rfl
          rotate_left
          · simp only [Act.put, List.setIfInBounds_toArray, List.set_cons_zero, List.set_cons_succ, i64_w, i32_w]
            rfl
          refine pure_ (i := 1) (N := some 31) (v := ?_) (a' := ?_) #[true, true, false, false, false, false, false, false, false, false, false, false] rfl rfl (any_of HT_.out (by kernel_rfl)) (fun _ _ _ h => h) (Or.inl ⟨by rfl, ?_⟩) ?_ ?_
          rotate_left
          · intro w'
            go_simp
            with_reducible rfl
          rotate_left
          · simp only [Act.put, List.setIfInBounds_toArray, List.set_cons_zero, List.set_cons_succ, i64_w, i32_w]
            rfl
          refine pure_ (i := 5) (N := some 35) (v := ?_) (a' := ?_) #[true, true, false, false, false, true, false, false, false, false, false, false] rfl rfl (any_of HT_.out (by kernel_rfl)) (fun _ _ _ h => h) (Or.inl ⟨by rfl, ?_⟩) ?_ ?_
          rotate_left
          · intro w'
            go_simp
            with_reducible rfl
          rotate_left
          · simp only [Act.put, List.setIfInBounds_toArray, List.set_cons_zero, List.set_cons_succ, i64_w, i32_w]
            rfl
          refine pure_ (i := 2) (N := some 32) (v := ?_) (a' := ?_) #[true, true, true, false, false, true, false, false, false, false, false, false] rfl rfl (any_of HT_.out (by kernel_rfl)) (fun _ _ _ h => h) (Or.inl ⟨by rfl, ?_⟩) ?_ ?_
          rotate_left
          · intro w'
            go_simp
            with_reducible rfl
          rotate_left
          · simp only [Act.put, List.setIfInBounds_toArray, List.set_cons_zero, List.set_cons_succ, i64_w, i32_w]
            rfl
          refine pure_ (i := 6) (N := some 36) (v := ?_) (a' := ?_) #[true, true, true, false, false, true, true, false, false, false, false, false] rfl rfl (any_of HT_.out (by kernel_rfl)) (fun _ _ _ h => h) (Or.inl ⟨by rfl, ?_⟩) ?_ ?_
          rotate_left
          · intro w'
            go_simp
            with_reducible rfl
          rotate_left
          · simp only [Act.put, List.setIfInBounds_toArray, List.set_cons_zero, List.set_cons_succ, i64_w, i32_w]
            rfl
          refine take_ (i := 3) (N := some 33) (v := ?_) (a' := ?_) #[true, true, true, true, false, true, true, false, false, false, false, false] rfl rfl (take_ofW HT_.out HW_.out (by kernel_rfl)) (fun _ _ _ h => h) (Or.inl ⟨by rfl, ?_⟩) hHeld ?_ ?_
          rotate_left
          · intro w' hSw; obtain ⟨hS0, hS1⟩ := hSw
            go_simp
            with_reducible rfl
          rotate_left
          · simp only [Act.put, List.setIfInBounds_toArray, List.set_cons_zero, List.set_cons_succ, i64_w, i32_w]
            rfl
          refine take_ (i := 7) (N := some 37) (v := ?_) (a' := ?_) #[true, true, true, true, false, true, true, true, false, false, false, false] rfl rfl (take_ofW HT_.out HW_.out (by kernel_rfl)) (fun _ _ _ h => h) (Or.inl ⟨by rfl, ?_⟩) hHeld ?_ ?_
          rotate_left
          · intro w' hSw; obtain ⟨hS0, hS1⟩ := hSw
            go_simp
            with_reducible rfl
          rotate_left
          · simp only [Act.put, List.setIfInBounds_toArray, List.set_cons_zero, List.set_cons_succ, i64_w, i32_w]
            rfl
          refine pure_ (i := 4) (N := some 34) (v := ?_) (a' := ?_) #[true, true, true, true, true, true, true, true, false, false, false, false] rfl rfl (any_of HT_.out (by kernel_rfl)) (fun _ _ _ h => h) (Or.inl ⟨by rfl, ?_⟩) ?_ ?_
          rotate_left
          · intro w'
            go_simp
            (try rw [hwy]); with_reducible rfl
          rotate_left
          · simp only [Act.put, List.setIfInBounds_toArray, List.set_cons_zero, List.set_cons_succ, i64_w, i32_w]
            rfl
          refine pure_ (i := 8) (N := some 38) (v := ?_) (a' := ?_) #[true, true, true, true, true, true, true, true, true, false, false, false] rfl rfl (any_of HT_.out (by kernel_rfl)) (fun _ _ _ h => h) (Or.inl ⟨by rfl, ?_⟩) ?_ ?_
          rotate_left
          · intro w'
            go_simp
            with_reducible rfl
          rotate_left
          · simp only [Act.put, List.setIfInBounds_toArray, List.set_cons_zero, List.set_cons_succ, i64_w, i32_w]
            rfl
          refine last_ (i := 9) (N := some 39) #[true, true, true, true, true, true, true, true, true, true, false, false] rfl rfl (one_of HT_.out (by kernel_rfl)) (by decide) (fun K hK => ?_)
          refine value_ (v := .slice (some ⟨Y0.heap.size, 0, none⟩) 1 1) (w1 := Y0.alloc (.cells #[.int .i64 (-y), .int .i64 x] 76)) (by rfl) rfl (by go_simp) ?_
          refine hK.out _ _ ?_
          clear hK K
          (try simp only [Act.put, List.setIfInBounds_toArray, List.set_cons_zero, List.set_cons_succ])
          refine last_ (i := 10) (N := some 40) #[true, true, true, true, true, true, true, true, true, true, true, false] rfl rfl (one_of HT_.out (by kernel_rfl)) (by decide) (fun K hK => ?_)
          refine step_appL rfl (.tmp 30) (.tmp 39) rfl rfl rfl (own_alloc HOd.out _) (by have := HBd.out.size; simp; omega) hml (blk_new Y0 _) ?_
          intro g1 cap1 Y1 hO1 hB1
          refine hK.out _ _ ?_
          clear hK K
          (try simp only [Act.put, List.setIfInBounds_toArray, List.set_cons_zero, List.set_cons_succ])
          have HR9 := Aside0.mk hO1
          have HB9 : Aside0 (Below w.heap.size w Y1) := ⟨(HBd.out.alloc HBd.out.size _).trans hB1⟩
          clear HOd HBd hO1 hB1 a0 a1 hHeld
          refine pure_ (i := 11) (N := some 4) (v := ?_) (a' := ?_) #[true, true, true, true, true, true, true, true, true, true, true, true] rfl rfl (any_of HT_.out (by kernel_rfl)) (fun _ _ _ h => h) (Or.inl ⟨by rfl, ?_⟩) ?_ ?_
          rotate_left
          · intro w'
            go_simp
            with_reducible rfl
          rotate_left
          · simp only [Act.put, List.setIfInBounds_toArray, List.set_cons_zero, List.set_cons_succ, i64_w, i32_w]
            rfl
          refine done_ (done_of HT_.out (by kernel_rfl)) ?_
          clear HT_ HW_
          go_wp2_with (fail)
          go_roundg m
          case measure => omega
          case rel => exact ⟨i + 1, _, rfl, by first | rfl | go_num, ⟨by have := HI.out; omega, by omega⟩, ⟨by rw [HT.out]; exact HR9.out⟩, HB9⟩
        · have hil : i = lim := by have := HI.out.2; omega
          subst hil
          have hno := HLim.out.2.2.1 hin
          have HV : Aside0 (turnV rows = [] ∧ okTurn rows = false) := ⟨turnV0 hno.1, hno.1⟩
          rcases cellOk_far (hno.2 hin) with hne | ⟨x, y, hr, hnear⟩
          · have hnei : ¬ ((rows[i].length : Int) = 2) := by omega
            clear hno hne hCr
            generalize rows[i].length = n at *
            go_upto_region 7 with (fail)
            go_quiet ((fail))
            go_wp2_with (fail)
            go_ret2
            exact ⟨_, by rw [HV.out.2]; rfl, pw_below_drewN HB.out nq, ⟨by rw [HV.out.1]; exact RowsD.nil _ _⟩⟩
          · rw [hr] at hcell hcr hCr
            obtain ⟨ad2, hA2, q0, q1⟩ := pair_at hCr
            subst hA2
            have HN := Aside0.mk (fun W => isCell_quiet x y false W hnear)
            simp only [List.length_cons, List.length_nil] at hcell hcr
            clear hCr hnear hr hno
            go_upto_region 7 with (fail)
            go_quiet ((go_at_call 74; exact Calls.quiet_of (HN.out _)))
            go_wp2_with (fail)
            go_ret2
            exact ⟨_, by rw [HV.out.2]; rfl, pw_below_drewN HB.out nq, ⟨by rw [HV.out.1]; exact RowsD.nil _ _⟩⟩
  · have hgt : (rows.length : Int) > 250 := by omega
    have hno : okTurn rows = false := by unfold okTurn; rw [decide_eq_false hl, Bool.false_and]
    rw [turnV0 hno, hno]
    clear hno hl
    go_enter Try.func47, Try.ntmps47
    go_wp2_with (fail)
    go_ret2
    exact ⟨_, rfl, by repeat (first | exact Below.refl _ _ | apply pw_below_drewN), ⟨RowsD.nil _ _⟩⟩
end Go.Proofs.Ytjedhjeijpbobaa.G8

/-! ## Su -/
namespace Go.Proofs.Ytjedhjeijpbobaa.G8
open Go.RowKit Go.Maps Go.Proofs.YtjedhjeijpbobaaW.PrintWords Go.Proofs.YtjedhjeijpbobaaW.PrintLast Go.Proofs.YtjedhjeijpbobaaW.PrintMore
open Go.Proofs.Ytjedhjeijpbobaa.GA
set_option linter.unusedVariables false
set_option linter.unusedSimpArgs false
def T9u : Bool × List (List Nat × List Nat) := (true, [([], []), ([], []), ([1], [1]), ([2], [2]), ([3], [3]), ([], []), ([5], [5]), ([6], [6]), ([4, 7], [4, 7]), ([8], [8]), ([0, 9], [0, 9]), ([10, 10, 0, 1, 2, 3, 4, 5, 6, 7, 8, 9, 10], [0, 10])])
def B9u : List Nat := [0, 0, 2, 6, 14, 0, 32, 96, 254, 510, 1023, 2047]
theorem tab9u : rtab .any (opsOf Try.f50 9) = T9u := by kernel_rfl
theorem bits9u : waitsOk T9u.2 B9u = true := by kernel_rfl
theorem near_quiet (x y : Int) (b : Bool) (W : World) (h : nearB x y = b) : Calls Try.prog 71 #[.int .i64 x, .int .i64 y] W fun e w' => e = .returned (.bool b) ∧ ∃ m, w' = W.drewN m :=
  (spec_gwNear.calls x y b W (by rw [near_eq, h])).mono fun e w' ⟨he, m, hm⟩ => ⟨he, m, hm⟩
theorem step_appD {ops : Array Oper} {o : Oper} {a : Act} {K : Act → World → Prop} {Q : Exit → Act → World → Prop} {E : Prop} {W0 W : World} {base : Nat} {vc v : Value} {rows : List (List Int)} {r : List Int} {C : Nat} (hgd : o.guard = none) (sv xv : Operand) (ho : o.op = .call { callee := .builtin .append, args := #[sv, xv], argTypes := #[40, 40] })
    (hs : a.eval sv = vc) (hx : a.eval xv = .slice (some ⟨C, 0, none⟩) 1 1) (h : RowsD W0 base vc rows) (hk : ∀ b, b < W0.heap.size → W.heap[b]? = W0.heap[b]?) (hsz : W0.heap.size ≤ W.heap.size) (hbase : base ≤ W0.heap.size) (hl : rows.length ≤ 1000000)
    (hv : W.ownsRow base 3 1 v r.length (encI r)) (hf : ∀ k, v.ownBlock = some k → W0.heap.size ≤ k) (h1c : v.oneCell' = true) (hC : W.heap[C]? = some (.cells #[v] 29 (0, 0)))
    (k : ∀ g1 cap w1, RowsD w1 base (.slice (some ⟨g1, 0, none⟩) (rows.length + 1) cap) (rows ++ [r]) → Below base W w1 → K (a.put o.dst (.slice (some ⟨g1, 0, none⟩) (rows.length + 1) cap)) w1) :
    if Region.wanted o (yielded ops a.tmps) = true then Oper.wp Try.prog o a W K Q else E := by
  obtain ⟨i0, hi0, hz⟩ := Option.map_eq_some_iff.1 info29
  simp only [Prod.mk.injEq] at hz
  obtain ⟨hz0, hz1, hz2⟩ := hz
  obtain ⟨L, hL, hE⟩ := h
  have hL2 : W.ownsRow base 29 1 vc rows.length L := own_move hL fun b hb => hk b (own_lt hL b hb)
  refine step_append_lies W hgd sv xv 40 ho base 29 i0 (.slice none 0 0) 1 24 Try.underlying40 hi0 hz0 hz1 hz2 rfl (by omega) vc rows.length L hs hL2 ⟨C, 0, none⟩ 1 1 [v] hx rfl (World.news_of_block hC) (by intro u hu; simp at hu; subst hu; exact h1c) (by omega) (by unfold maxLen; omega) (by omega) (by omega) _ rfl ?_
  intro g1 cap w1 hown hg hat hlt
  refine k g1 cap w1 (RowsD.app hL hE (own_move hv fun b hb => ?_) hf hown fun b hb hne => (hg.block b (by omega) hne).trans (hk b hb)) ((Below.refl base W).grown hg (by omega) (own_base hL2))
  refine hg.block b (own_lt hv b hb) fun c => ?_
  obtain ⟨c1, e1⟩ := own_typed hv b hb
  obtain ⟨c2, e2⟩ := own_typed hL2 b c.symm
  rw [e1] at e2
  simp at e2
theorem okTurn_lim (rows : List (List Int)) (hl : rows.length ≤ 250) : ∃ lim : Nat, Aside0 (lim ≤ rows.length ∧ (∀ (j : Nat) (hj : j < rows.length), j < lim → cellOk rows[j] = true) ∧ (lim < rows.length → okTurn rows = false ∧ ∀ hj : lim < rows.length, cellOk rows[lim] = false) ∧ (lim = rows.length → okTurn rows = true)) := by
  cases ho : okTurn rows with
  | true =>
    refine ⟨rows.length, ⟨Nat.le_refl _, fun j hj _ => ?_, fun h => by omega, fun _ => rfl⟩⟩
    unfold okTurn at ho
    rw [Bool.and_eq_true, List.all_eq_true] at ho
    exact ho.2 _ (List.getElem_mem hj)
  | false =>
    obtain ⟨i, hi, h1, h2⟩ := okTurn_split hl ho
    exact ⟨i, ⟨Nat.le_of_lt hi, fun j hj hlt => h2 j hj hlt, fun _ => ⟨rfl, fun _ => h1⟩, fun e => by omega⟩⟩
set_option maxHeartbeats 1000000 in
set_option maxRecDepth 100000 in
theorem spec_TurnCells_calls (vc : Value) (rows : List (List Int)) (w : World) (h : RowsC w vc rows) : Calls Try.prog 50 #[vc] w (RowsRef w (turnV rows) (okTurn rows)) := by
  obtain ⟨A, cap, rfl, hcap, hC⟩ := h
  have HC := Aside0.mk hC
  clear hC
  by_cases hl : rows.length ≤ 250
  · have hgt : ¬ ((rows.length : Int) > 250) := by omega
    obtain ⟨lim, HLim⟩ := okTurn_lim rows hl
    go_enter Try.func50, Try.ntmps50
    go_wp2_with (fail)
    go_loopg [4, 12] rows.length (fun m v4 v12 wr => ∃ (i : Nat) (vo : Value), v4 = vo ∧ v12 = .int .i64 (i : Int) ∧ Aside0 (i + m = rows.length ∧ i ≤ lim) ∧ Aside0 (RowsD wr w.heap.size vo (pairs ((rows.take i).map turnC))) ∧ Aside0 (Below w.heap.size w wr))
    case atStart => exact ⟨0, _, rfl, rfl, ⟨by omega, by omega⟩, ⟨RowsD.nil _ _⟩, ⟨by repeat (first | exact Below.refl _ _ | apply pw_below_drewN)⟩⟩
    case round =>
      obtain ⟨i, vo, hvo, rfl, HI, HO, HB⟩ := hrel
      replace hvo := hvo.symm
      subst hvo
      cases gk with
      | zero =>
        have hi : ¬ ((i : Int) < (rows.length : Int)) := by have := HI.out.1; omega
        have hok : okTurn rows = true := HLim.out.2.2.2 (by have := HLim.out.1; have := HI.out; omega)
        have HE : Aside0 (rows.take i = rows) := ⟨List.take_of_length_le (by have := HI.out; omega)⟩
        rw [HE.out] at HO
        have HV : Aside0 (turnV rows = gwS (pairs (rows.map turnC)) ∧ okTurn rows = true) := ⟨by rw [turnV1 hok, gwS_pairs], hok⟩
        have hlm : (pairs (rows.map turnC)).length ≤ 900000 := by rw [pairs_len, List.length_map]; omega
        have h2 := Aside0.mk (pairs_two (rows.map turnC))
        clear hok HLim HE HI
        generalize pairs (rows.map turnC) = zs at *
        obtain ⟨A2, c2, hv2, hc2, hC2⟩ := HO.out.toW
        subst hv2
        have HC2 := Aside0.mk hC2
        clear hC2
        go_wp2_with (first | (go_at_call 85; refine (gwSorted_calls A2 c2 zs _ _ HC2.out h2.out hc2 hlm).mono ?_; rintro e w4 ⟨vs, rfl, hB4, hR4⟩; have HR4 := Aside0.mk (sortW_reads hR4.out hB4); have HB4 := Aside0.mk hB4; clear hB4 hR4))
        go_ret2
        exact ⟨vs, by rw [HV.out.2]; rfl, HB.out.trans (HB4.out.mono HB.out.size), ⟨by rw [HV.out.1]; exact HR4.out⟩⟩
      | succ m =>
        have hin : i < rows.length := by have := HI.out.1; omega
        have hi : (i : Int) < (rows.length : Int) := by omega
        have hwi := wrap_id (x := (i : Int) + 1) (by omega) (by omega)
        obtain ⟨ad, Ar, cr, hA, hcell, hcr, hCr⟩ := row_at (Kd.C_below HC.out HB.out) hin
        subst hA
        by_cases hlim : i < lim
        · have hck := HLim.out.2.1 i hin hlim
          obtain ⟨x, y, hr, hnear, hx, hy⟩ := cellOk_near hck
          have HT : Aside0 (pairs ((rows.take (i + 1)).map turnC) = pairs ((rows.take i).map turnC) ++ [[-y, x]]) := ⟨by rw [List.take_succ_eq_append_getElem hin, List.map_append, hr, List.map_cons, List.map_nil, show turnC [x, y] = (-y, x) from rfl]; unfold pairs; rw [List.map_append]; rfl⟩
          rw [hr] at hcell hcr hCr
          obtain ⟨ad2, hA2, q0, q1⟩ := pair_at hCr
          subst hA2
          have HN := Aside0.mk (fun W => near_quiet x y true W hnear)
          have hwy : wrap64 (-y) = -y := wrap_id (by omega) (by omega)
          have hml : (pairs ((rows.take i).map turnC)).length ≤ 1000000 := by rw [pairs_len, List.length_map, List.length_take]; omega
          simp only [List.length_cons, List.length_nil] at hcell hcr
          generalize pairs ((rows.take i).map turnC) = cs at *
          clear hCr hck hnear hr
          go_upto_region 7 with (fail)
          go_quiet ((go_at_call 71; exact Calls.quiet_of (HN.out _)))
          go_upto_region 9 with (fail)
          have a0 : (wr.drewN nq).drew.cell? ad2 = some (.int .i64 x) := by simpa using q0
          have a1 : (wr.drewN nq).drew.cell? ⟨ad2.block, ad2.off + 1, none⟩ = some (.int .i64 y) := by simpa using q1
          have HOd : Aside0 (RowsD (wr.drewN nq).drew w.heap.size vo cs) := ⟨HO.out.keep fun _ _ => by simp⟩
          have HBd : Aside0 (Below w.heap.size w (wr.drewN nq).drew) := ⟨pw_below_drewN (pw_below_drewN HB.out nq) 1⟩
          clear HO HB q0 q1 hcell hcr HN
          refine start_ (n := 12) (S := fun w' => w'.cell? ad2 = some (.int .i64 x) ∧ w'.cell? ⟨ad2.block, ad2.off + 1, none⟩ = some (.int .i64 y)) (ds := [8, 9, 10]) #[false, false, false, false, false, false, false, false, false, false, false, false] (by kernel_rfl) rfl rfl ⟨a0, a1⟩ (fun hHeld => ?_)
          refine with_tabW tab9u bits9u (fun HT_ HW_ => ?_)
          generalize (wr.drewN nq).drew = Y0 at *
          refine pure_ (i := 0) (N := some 29) (v := ?_) (a' := ?_) #[true, false, false, false, false, false, false, false, false, false, false, false] rfl rfl (any_of HT_.out (by kernel_rfl)) (fun _ _ _ h => h) (Or.inl ⟨by rfl, ?_⟩) ?_ ?_
          rotate_left
          · intro w'
            go_simp
            with_reducible rfl
          rotate_left
          · simp only [Act.put, List.setIfInBounds_toArray, List.set_cons_zero, List.set_cons_succ, i64_w, i32_w]
            rfl
          refine pure_ (i := 1) (N := some 30) (v := ?_) (a' := ?_) #[true, true, false, false, false, false, false, false, false, false, false, false] rfl rfl (any_of HT_.out (by kernel_rfl)) (fun _ _ _ h => h) (Or.inl ⟨by rfl, ?_⟩) ?_ ?_
          rotate_left
          · intro w'
            go_simp
            with_reducible rfl
          rotate_left
          · simp only [Act.put, List.setIfInBounds_toArray, List.set_cons_zero, List.set_cons_succ, i64_w, i32_w]
            rfl
          refine pure_ (i := 5) (N := some 34) (v := ?_) (a' := ?_) #[true, true, false, false, false, true, false, false, false, false, false, false] rfl rfl (any_of HT_.out (by kernel_rfl)) (fun _ _ _ h => h) (Or.inl ⟨by rfl, ?_⟩) ?_ ?_
          rotate_left
          · intro w'
            go_simp
            with_reducible rfl
          rotate_left
          · simp only [Act.put, List.setIfInBounds_toArray, List.set_cons_zero, List.set_cons_succ, i64_w, i32_w]
            rfl
          refine pure_ (i := 2) (N := some 31) (v := ?_) (a' := ?_) #[true, true, true, false, false, true, false, false, false, false, false, false] rfl rfl (any_of HT_.out (by kernel_rfl)) (fun _ _ _ h => h) (Or.inl ⟨by rfl, ?_⟩) ?_ ?_
          rotate_left
          · intro w'
            go_simp
            with_reducible rfl
          rotate_left
          · simp only [Act.put, List.setIfInBounds_toArray, List.set_cons_zero, List.set_cons_succ, i64_w, i32_w]
            rfl
          refine pure_ (i := 6) (N := some 35) (v := ?_) (a' := ?_) #[true, true, true, false, false, true, true, false, false, false, false, false] rfl rfl (any_of HT_.out (by kernel_rfl)) (fun _ _ _ h => h) (Or.inl ⟨by rfl, ?_⟩) ?_ ?_
          rotate_left
          · intro w'
            go_simp
            with_reducible rfl
          rotate_left
          · simp only [Act.put, List.setIfInBounds_toArray, List.set_cons_zero, List.set_cons_succ, i64_w, i32_w]
            rfl
          refine take_ (i := 3) (N := some 32) (v := ?_) (a' := ?_) #[true, true, true, true, false, true, true, false, false, false, false, false] rfl rfl (take_ofW HT_.out HW_.out (by kernel_rfl)) (fun _ _ _ h => h) (Or.inl ⟨by rfl, ?_⟩) hHeld ?_ ?_
          rotate_left
          · intro w' hSw; obtain ⟨hS0, hS1⟩ := hSw
            go_simp
            with_reducible rfl
          rotate_left
          · simp only [Act.put, List.setIfInBounds_toArray, List.set_cons_zero, List.set_cons_succ, i64_w, i32_w]
            rfl
          refine take_ (i := 7) (N := some 36) (v := ?_) (a' := ?_) #[true, true, true, true, false, true, true, true, false, false, false, false] rfl rfl (take_ofW HT_.out HW_.out (by kernel_rfl)) (fun _ _ _ h => h) (Or.inl ⟨by rfl, ?_⟩) hHeld ?_ ?_
          rotate_left
          · intro w' hSw; obtain ⟨hS0, hS1⟩ := hSw
            go_simp
            with_reducible rfl
          rotate_left
          · simp only [Act.put, List.setIfInBounds_toArray, List.set_cons_zero, List.set_cons_succ, i64_w, i32_w]
            rfl
          refine pure_ (i := 4) (N := some 33) (v := ?_) (a' := ?_) #[true, true, true, true, true, true, true, true, false, false, false, false] rfl rfl (any_of HT_.out (by kernel_rfl)) (fun _ _ _ h => h) (Or.inl ⟨by rfl, ?_⟩) ?_ ?_
          rotate_left
          · intro w'
            go_simp
            (try rw [hwy]); with_reducible rfl
          rotate_left
          · simp only [Act.put, List.setIfInBounds_toArray, List.set_cons_zero, List.set_cons_succ, i64_w, i32_w]
            rfl
          refine last_ (i := 8) (N := some 37) #[true, true, true, true, true, true, true, true, true, false, false, false] rfl rfl (one_of HT_.out (by kernel_rfl)) (by decide) (fun K hK => ?_)
          refine value_ (v := .slice (some ⟨Y0.heap.size, 0, none⟩) 2 2) (w1 := Y0.alloc (.cells #[.int .i64 (-y), .int .i64 x] 3)) (by rfl) rfl (by go_simp) ?_
          refine hK.out _ _ ?_
          clear hK K
          (try simp only [Act.put, List.setIfInBounds_toArray, List.set_cons_zero, List.set_cons_succ])
          refine last_ (i := 9) (N := some 38) #[true, true, true, true, true, true, true, true, true, true, false, false] rfl rfl (one_of HT_.out (by kernel_rfl)) (by decide) (fun K hK => ?_)
          refine value_ (v := .slice (some ⟨Y0.heap.size + 1, 0, none⟩) 1 1) (w1 := (Y0.alloc (.cells #[.int .i64 (-y), .int .i64 x] 3)).alloc (.cells #[.slice (some ⟨Y0.heap.size, 0, none⟩) 2 2] 29)) (by rfl) rfl (by go_simp) ?_
          refine hK.out _ _ ?_
          clear hK K
          (try simp only [Act.put, List.setIfInBounds_toArray, List.set_cons_zero, List.set_cons_succ])
          refine last_ (i := 10) (N := some 39) #[true, true, true, true, true, true, true, true, true, true, true, false] rfl rfl (one_of HT_.out (by kernel_rfl)) (by decide) (fun K hK => ?_)
          refine step_appD rfl (.tmp 29) (.tmp 38) rfl rfl rfl HOd.out (fun b hb => ((MapKept.heap_alloc _ _).2 b (by simp; omega)).trans ((MapKept.heap_alloc Y0 _).2 b hb)) (by simp; omega) HBd.out.size hml (own_two Y0 (-y) x _ HBd.out.size _) (by intro k hk; simp [Value.ownBlock] at hk; omega) rfl (two_new1 Y0 _ _) ?_
          intro g1 cap1 Y1 hO1 hB1
          refine hK.out _ _ ?_
          clear hK K
          (try simp only [Act.put, List.setIfInBounds_toArray, List.set_cons_zero, List.set_cons_succ])
          have HR9 := Aside0.mk hO1
          have HB9 : Aside0 (Below w.heap.size w Y1) := ⟨((HBd.out.alloc HBd.out.size _).alloc (by have := HBd.out.size; simp; omega) _).trans hB1⟩
          clear HOd HBd hO1 hB1 a0 a1 hHeld
          refine pure_ (i := 11) (N := some 4) (v := ?_) (a' := ?_) #[true, true, true, true, true, true, true, true, true, true, true, true] rfl rfl (any_of HT_.out (by kernel_rfl)) (fun _ _ _ h => h) (Or.inl ⟨by rfl, ?_⟩) ?_ ?_
          rotate_left
          · intro w'
            go_simp
            with_reducible rfl
          rotate_left
          · simp only [Act.put, List.setIfInBounds_toArray, List.set_cons_zero, List.set_cons_succ, i64_w, i32_w]
            rfl
          refine done_ (done_of HT_.out (by kernel_rfl)) ?_
          clear HT_ HW_
          go_wp2_with (fail)
          go_roundg m
          case measure => omega
          case rel => exact ⟨i + 1, _, rfl, by first | rfl | go_num, ⟨by have := HI.out; omega, by omega⟩, ⟨by rw [HT.out]; exact HR9.out⟩, HB9⟩
        · have hil : i = lim := by have := HI.out.2; omega
          subst hil
          have hno := HLim.out.2.2.1 hin
          have HV : Aside0 (turnV rows = [] ∧ okTurn rows = false) := ⟨turnV0 hno.1, hno.1⟩
          rcases cellOk_far (hno.2 hin) with hne | ⟨x, y, hr, hnear⟩
          · have hnei : ¬ ((rows[i].length : Int) = 2) := by omega
            clear hno hne hCr
            generalize rows[i].length = n at *
            go_upto_region 7 with (fail)
            go_quiet ((fail))
            go_wp2_with (fail)
            go_ret2
            exact ⟨_, by rw [HV.out.2]; rfl, pw_below_drewN HB.out nq, ⟨by rw [HV.out.1]; exact rowsC_nil _⟩⟩
          · rw [hr] at hcell hcr hCr
            obtain ⟨ad2, hA2, q0, q1⟩ := pair_at hCr
            subst hA2
            have HN := Aside0.mk (fun W => near_quiet x y false W hnear)
            simp only [List.length_cons, List.length_nil] at hcell hcr
            clear hCr hnear hr hno
            go_upto_region 7 with (fail)
            go_quiet ((go_at_call 71; exact Calls.quiet_of (HN.out _)))
            go_wp2_with (fail)
            go_ret2
            exact ⟨_, by rw [HV.out.2]; rfl, pw_below_drewN HB.out nq, ⟨by rw [HV.out.1]; exact rowsC_nil _⟩⟩
  · have hgt : (rows.length : Int) > 250 := by omega
    have hno : okTurn rows = false := by unfold okTurn; rw [decide_eq_false hl, Bool.false_and]
    rw [turnV0 hno, hno]
    clear hno hl
    go_enter Try.func50, Try.ntmps50
    go_wp2_with (fail)
    go_ret2
    exact ⟨_, rfl, by repeat (first | exact Below.refl _ _ | apply pw_below_drewN), ⟨rowsC_nil _⟩⟩
end Go.Proofs.Ytjedhjeijpbobaa.G8

/-! ## Sv -/
namespace Go.Proofs.Ytjedhjeijpbobaa.G8
open Go.RowKit Go.Maps Go.Proofs.YtjedhjeijpbobaaW.PrintWords Go.Proofs.YtjedhjeijpbobaaW.PrintLast Go.Proofs.YtjedhjeijpbobaaW.PrintMore
open Go.Proofs.Ytjedhjeijpbobaa.GA
open Go.Proofs.Ytjedhjeijpbobaa.GJ (rd_L1)
open Go.Proofs.Ytjedhjeijpbobaa.GK (laws_szIntS.f laws_szIntSS.f laws_szIntSS.l0 laws_szIntSS.calls laws_toIntS.f laws_toIntS.l0 laws_toIntSS.f laws_toIntSS.l0 laws_toIntSS.calls)
set_option linter.unusedVariables false
set_option linter.unusedSimpArgs false
/-- The world with its first n blocks alone. -/
def cutW (w : World) (n : Nat) : World := { w with heap := w.heap.extract 0 n }
theorem cutW_size {w : World} {n : Nat} (h : n ≤ w.heap.size) : (cutW w n).heap.size = n := by unfold cutW; simp; omega
theorem cutW_below {w : World} {n : Nat} (h : n ≤ w.heap.size) : Below (cutW w n).heap.size (cutW w n) w := by
  refine ⟨rfl, rfl, rfl, by rw [cutW_size h]; exact h, fun k hk => ?_⟩
  rw [cutW_size h] at hk
  unfold cutW
  simp only
  rw [Array.getElem?_extract, if_pos (by omega), Nat.zero_add]
theorem RowsD.moveIn {w w1 : World} {base : Nat} {vc : Value} {rows : List (List Int)} (h : RowsD w base vc rows) (e : ∀ b, base ≤ b → b < w.heap.size → w1.heap[b]? = w.heap[b]?) : RowsD w1 base vc rows := by
  obtain ⟨L, h1, h2⟩ := h
  have hn : L.length = rows.length := by have := own_len h1; omega
  exact ⟨L, own_move h1 (fun k hk => e k (own_base h1 k hk) (own_lt h1 k hk)), h2.move hn fun i v k hv hk => e k (h2.blk hn hv hk).1 (h2.blk hn hv hk).2.1⟩
/-- What marking leaves: below n and from u on all is as before. -/
def MarkIn (w : World) (n u : Nat) (vc : Value) (rows : List (List Int)) (m : Int) (e : Ending) (w' : World) : Prop := e = .returned (.int .i64 (m + tot rows)) ∧ Below n w w' ∧ Aside0 (RowsD w' n vc (markRows rows m)) ∧ Aside0 (∀ b, u ≤ b → b < w.heap.size → w'.heap[b]? = w.heap[b]?)
set_option maxHeartbeats 4000000 in
set_option maxRecDepth 100000 in
theorem markIntSS_in (n u : Nat) (w : World) (hn : n ≤ w.heap.size) (vc : Value) (rows : List (List Int)) (m : Int) (h : RowsD w n vc rows) (hu : ∀ (L : List Value) (i : Nat) (v : Value) (k : Nat), w.ownsRow n 29 1 vc rows.length L → L[i]? = some v → v.ownBlock = some k → k < u) (hm : 0 ≤ m ∧ m + tot rows ≤ 1000000000) (hl : rows.length ≤ 10000000) : Calls Try.prog 59 #[vc, .int .i64 m] w (MarkIn w n u vc rows m) := by
  obtain ⟨A, cap, hvc, hcap⟩ := h.slice
  subst hvc
  obtain ⟨L, hL, hE⟩ := h
  have HU : Aside0 (∀ (i : Nat) (v : Value) (k : Nat), L[i]? = some v → v.ownBlock = some k → k < u) := ⟨fun i v k => hu L i v k hL⟩
  have HL := Aside0.mk (And.intro hL hE)
  obtain ⟨w0, hw0⟩ : ∃ w0, w0 = cutW w n := ⟨_, rfl⟩
  have HN : Aside0 (w0.heap.size = n) := ⟨by rw [hw0]; exact cutW_size hn⟩
  have HB0 : Aside0 (Below w0.heap.size w0 w) := ⟨by rw [hw0]; exact cutW_below hn⟩
  clear hL hE hu hw0
  go_enter Try.func59, Try.ntmps59
  go_wp2_with (fail)
  go_loopg [1, 5] rows.length (fun q v1 v5 wr => ∃ (i : Nat), v1 = .int .i64 (m + tot (rows.take i)) ∧ v5 = .int .i64 (i : Int) ∧ Aside0 (i + q = rows.length) ∧ Aside0 (wr.ownsRow n 29 1 (.slice A rows.length cap) rows.length L ∧ RowsL wr n (midRows rows m i) L) ∧ Aside0 (Below n w wr) ∧ Aside0 (∀ b, u ≤ b → b < w.heap.size → wr.heap[b]? = w.heap[b]?))
  case atStart => exact ⟨0, by simp [tot], rfl, ⟨by omega⟩, ⟨by simpa [midRows, markRows] using HL.out⟩, ⟨Below.refl _ _⟩, ⟨fun _ _ _ => rfl⟩⟩
  case round =>
    clear HL
    obtain ⟨i, rfl, rfl, HI, HL, HB, HK⟩ := hrel
    cases gk with
    | zero =>
      have hi : ¬ ((i : Int) < (rows.length : Int)) := by have := HI.out; omega
      have hir : i = rows.length := by have := HI.out; omega
      subst hir
      have e1 : Aside0 (rows.take rows.length = rows ∧ midRows rows m rows.length = markRows rows m) := ⟨by rw [List.take_of_length_le (Nat.le_refl _)]; simp [midRows]⟩
      go_wp2_with (fail)
      go_ret
      refine ⟨by first | rfl | (rw [e1.out.1]; rfl), HB.out, ⟨L, ?_, ?_⟩, HK⟩
      · rw [markRows_len]; exact HL.out.1
      · rw [← e1.out.2]; exact HL.out.2
    | succ q =>
      have hin : i < rows.length := by have := HI.out; omega
      have hi : (i : Int) < (rows.length : Int) := by omega
      have hw := wrap_id (x := (i : Int) + 1) (by omega) (by omega)
      obtain ⟨v, hv, hown⟩ := HL.out.2.1 i rows[i] (mid_get hin)
      have ho1 := HL.out.1
      have ho2 : wr.ownsRow n 29 1 (.slice A rows.length cap) (midRows rows m i).length L := by rw [mid_len]; exact ho1
      obtain ⟨g, cap', hA, _, hcell, _⟩ := RowsD.at ho2 hv
      injection hA with hA hA2 hA3
      clear hA2
      subst hA hA3
      have hmm : 0 ≤ m + tot (rows.take i) ∧ m + tot (rows.take i) + (rows[i].length : Int) ≤ 1000000000000 := by
        have h1 := tot_pos (rows.take i)
        have h2 := tot_le rows (i + 1)
        rw [tot_take hin] at h2
        omega
      have HM := Aside0.mk (markIntS_m rows[i] _ hmm (rows[i].length + 1) (by omega))
      have HT := Aside0.mk (tot_take hin)
      have HS := Aside0.mk (mid_set (m := m) hin)
      have HV := Aside0.mk (And.intro hv hown)
      have hR : Aside0 (Kd.R (Kd.int .i64) 3 wr w0.heap.size (fun k => v.ownBlock = some k) v rows[i]) := ⟨by rw [HN.out]; exact Kd.R_of_own hown (fun _ hk => hk)⟩
      have HBw : Aside0 (Below w0.heap.size w0 wr) := ⟨HB0.out.trans (by rw [HN.out]; exact HB.out)⟩
      clear hv hown ho1 ho2 hmm
      generalize rows[i] = r at *
      generalize hmi : m + tot (rows.take i) = mi at *
      replace hmi := Aside0.mk hmi
      go_wp2_with (first | (go_at_call 31; refine (laws_markIntS.calls (r.length + 1) (fun k => v.ownBlock = some k) v r mi _ _ w0 _ HBw.out hR.out HM.out).mono ?_; rintro e w1 ⟨rfl, ho, hb, hk⟩; have HK1 := Aside0.mk hk; have HO := Aside0.mk (Kd.own_of_R ho); have HB1 := Aside0.mk hb; clear ho hb hk))
      go_roundg q
      case measure => omega
      case rel =>
        have hown1 : w1.ownsRow n 3 1 v (marks r.length mi).length (encI (marks r.length mi)) := by have := HO.out; rw [HN.out] at this; exact this
        have hput := RowsD.put (w1 := w1) (r := marks r.length mi) (by rw [mid_len]; exact HL.out.1) HL.out.2 HV.out.1 hown1 (fun b hb hne => HK1.out.2 b hb (fun c => hne c))
        rw [HS.out] at hput
        rw [mid_len] at hput
        have hb1 : Below n w w1 := by
          have h1 := HB1.out
          rw [HN.out] at h1
          have h0 := HB0.out
          rw [HN.out] at h0
          refine ⟨h1.os.trans h0.os.symm, h1.tape.trans h0.tape.symm, h1.output.trans h0.output.symm, Nat.le_trans HB.out.size HK1.out.1, fun k hk => (h1.block k hk).trans (h0.block k hk).symm⟩
        refine ⟨i + 1, by rw [HT.out, ← Int.add_assoc, hmi.out], by first | rfl | go_num, ⟨by have := HI.out; omega⟩, ⟨hput⟩, ⟨hb1⟩, ⟨fun b h1 h2 => ?_⟩⟩
        exact (HK1.out.2 b (by have := HB.out.size; omega) (fun c => by have := HU.out i v b HV.out.1 c; omega)).trans (HK.out b h1 h2)
theorem RowsD.upto {w w1 : World} {base n : Nat} {vc : Value} {rows : List (List Int)} (h : RowsD w base vc rows) (hB : Below w.heap.size w w1) : ∀ (L : List Value) (i : Nat) (v : Value) (k : Nat), w1.ownsRow n 29 1 vc rows.length L → L[i]? = some v → v.ownBlock = some k → k < w.heap.size := by
  intro L i v k hL hv hk
  obtain ⟨L2, h1, h2⟩ := h
  have e : L = L2 := by
    have h3 : w1.ownsRow base 29 1 vc rows.length L2 := own_move h1 fun b hb => hB.block b (own_lt h1 b hb)
    rcases hL.2 with ⟨q1, q2⟩ | ⟨g, cap, cur, q1, _, q3, _, _, _, q7⟩
    · have l1 := hL.1
      have l2 := h3.1
      rw [q2] at l1 l2
      simp at l1 l2
      rw [l1, l2]
    · rcases h3.2 with ⟨p1, _⟩ | ⟨g2, cap2, cur2, p1, _, p3, _, _, _, p7⟩
      · rw [q1] at p1; cases p1
      · rw [q1] at p1
        injection p1 with p1 _ _
        injection p1 with p1
        injection p1 with p1
        subst p1
        rw [q3] at p3
        simp at p3
        subst p3
        rw [← q7, ← p7]
  subst e
  have hn : L.length = rows.length := by have := own_len h1; omega
  exact (h2.blk hn hv hk).2.1
/-! ### sizes -/
def szR : List (List Int) → Int → Int
  | [], a => a
  | r :: rs, a => if a - (r.length : Int) < 0 then -1 else szR rs (a - (r.length : Int))
theorem szR_is : ∀ (rs : List (List Int)) (a : Int), 0 ≤ a → szR rs a = -1 ∨ (szR rs a = a - tot rs ∧ tot rs ≤ a)
  | [], a, h => .inr ⟨by simp [szR, tot], by simpa [tot] using h⟩
  | r :: rs, a, h => by
    unfold szR
    split
    · exact .inl rfl
    · rcases szR_is rs (a - (r.length : Int)) (by omega) with h1 | ⟨h1, h2⟩
      · exact .inl h1
      · exact .inr ⟨by rw [h1]; simp only [tot]; omega, by simp only [tot]; omega⟩
theorem szI_is (r : List Int) (a : Int) (h : 0 ≤ a ∧ a ≤ 1048576) (hl : (r.length : Int) ≤ 9223372036854775807) : laws_szIntS.f r a = some (if a - (r.length : Int) < 0 then -1 else a - (r.length : Int)) := by
  unfold laws_szIntS.f
  rw [wrap_id (x := a - (r.length : Int)) (by omega) (by omega)]
  split <;> rfl
theorem szSS_loop (rows : List (List Int)) (hl : (rows.length : Int) ≤ 1048576) (hr : ∀ r ∈ rows, (r.length : Int) ≤ 9223372036854775807) (d : Nat) : ∀ (k i : Nat) (a : Int), i + d = rows.length → d < k → 0 ≤ a → a ≤ 1048576 → laws_szIntSS.l0 k rows a (i : Int) = some (szR (rows.drop i) a) := by
  induction d with
  | zero =>
    intro k i a hi hk h0 h1
    obtain ⟨k, rfl⟩ : ∃ m, k = m + 1 := ⟨k - 1, by omega⟩
    simp only [laws_szIntSS.l0]
    rw [if_neg (by omega), List.drop_eq_nil_of_le (by omega)]
    rfl
  | succ d ih =>
    intro k i a hi hk h0 h1
    obtain ⟨k, rfl⟩ : ∃ m, k = m + 1 := ⟨k - 1, by omega⟩
    have hin : i < rows.length := by omega
    simp only [laws_szIntSS.l0]
    have e2 : wrap64 ((i : Int) + 1) = ((i + 1 : Nat) : Int) := by rw [wrap_id (by omega) (by omega)]; omega
    have e3 : GK.rd_L1 rows (i : Int) = rows[i] := rdL_at rows i hin
    rw [if_pos (by omega), if_pos (by omega), e3, szI_is _ _ ⟨h0, h1⟩ (hr _ (List.getElem_mem hin)), List.drop_eq_getElem_cons hin]
    simp only [Option.bind_some]
    by_cases q : a - (rows[i].length : Int) < 0
    · rw [if_pos q, if_pos (by decide)]
      unfold szR
      rw [if_pos q]
    · rw [if_neg q, if_neg q, e2, ih k (i + 1) _ (by omega) (by omega) (by omega) (by omega)]
      conv => rhs; unfold szR
      rw [if_neg q]
/-- What the size test tells. -/
theorem szSS_is (rows : List (List Int)) (hl : (rows.length : Int) ≤ 9223372036854775807) (hr : ∀ r ∈ rows, (r.length : Int) ≤ 9223372036854775807) : ∃ k z, laws_szIntSS.f k rows 1048576 = some z ∧ (z < 0 ∨ (0 ≤ z ∧ (rows.length : Int) + tot rows ≤ 1048576)) := by
  refine ⟨rows.length + 1, ?_⟩
  unfold laws_szIntSS.f
  rw [wrap_id (x := (1048576 : Int) - (rows.length : Int)) (by omega) (by omega)]
  by_cases q : (1048576 : Int) - (rows.length : Int) < 0
  · rw [if_pos q]
    exact ⟨-1, rfl, .inl (by decide)⟩
  · rw [if_neg q]
    have := szSS_loop rows (by omega) hr rows.length (rows.length + 1) 0 (1048576 - (rows.length : Int)) (by omega) (by omega) (by omega) (by omega)
    rw [show ((0 : Nat) : Int) = 0 from rfl, List.drop_zero] at this
    refine ⟨_, this, ?_⟩
    rcases szR_is rows (1048576 - (rows.length : Int)) (by omega) with h1 | ⟨h1, h2⟩
    · rw [h1]; exact .inl (by decide)
    · rw [h1]; exact .inr ⟨by omega, by omega⟩
/-! ### copies -/
theorem toS_loop (l : List Int) (hn : l.length ≤ 1048576) (d : Nat) : ∀ (k i : Nat) (x : List Int), x.length = l.length → i + d = l.length → d < k → x.take i = l.take i → laws_toIntS.l0 k l x (i : Int) = some l := by
  induction d with
  | zero =>
    intro k i x hx hi hk ht
    obtain ⟨k, rfl⟩ : ∃ m, k = m + 1 := ⟨k - 1, by omega⟩
    simp only [laws_toIntS.l0]
    rw [if_neg (by omega)]
    rw [List.take_of_length_le (by omega), List.take_of_length_le (by omega)] at ht
    rw [ht]
  | succ d ih =>
    intro k i x hx hi hk ht
    obtain ⟨k, rfl⟩ : ∃ m, k = m + 1 := ⟨k - 1, by omega⟩
    have hin : i < l.length := by omega
    simp only [laws_toIntS.l0]
    have e2 : wrap64 ((i : Int) + 1) = ((i + 1 : Nat) : Int) := by rw [wrap_id (by omega) (by omega)]; omega
    rw [if_pos (by omega), if_pos (by omega), if_pos (by omega), e2, rd_at l i hin, Int.toNat_natCast]
    refine ih k (i + 1) _ (by simpa using hx) (by omega) (by omega) ?_
    rw [List.take_succ_eq_append_getElem (by rw [List.length_set]; omega), List.take_set_of_le (by omega), ht, List.take_succ_eq_append_getElem hin]
    simp
theorem toS_is (l : List Int) (hn : l.length ≤ 1048576) (k : Nat) (hk : l.length < k) : laws_toIntS.f k l = some l := by
  unfold laws_toIntS.f
  rw [if_pos (by omega), if_pos (by omega), Int.toNat_natCast]
  exact toS_loop l hn l.length k 0 _ (by simp) (by omega) hk (by simp)
theorem toSS_loop (l : List (List Int)) (hn : l.length ≤ 1048576) (hr : ∀ r ∈ l, r.length ≤ 1048576) (d : Nat) : ∀ (k i : Nat) (x : List (List Int)), x.length = l.length → i + d = l.length → 1048576 + d + 1 < k → x.take i = l.take i → laws_toIntSS.l0 k l x (i : Int) = some l := by
  induction d with
  | zero =>
    intro k i x hx hi hk ht
    obtain ⟨k, rfl⟩ : ∃ m, k = m + 1 := ⟨k - 1, by omega⟩
    simp only [laws_toIntSS.l0]
    rw [if_neg (by omega)]
    rw [List.take_of_length_le (by omega), List.take_of_length_le (by omega)] at ht
    rw [ht]
  | succ d ih =>
    intro k i x hx hi hk ht
    obtain ⟨k, rfl⟩ : ∃ m, k = m + 1 := ⟨k - 1, by omega⟩
    have hin : i < l.length := by omega
    simp only [laws_toIntSS.l0]
    have e2 : wrap64 ((i : Int) + 1) = ((i + 1 : Nat) : Int) := by rw [wrap_id (by omega) (by omega)]; omega
    have e3 : GK.rd_L1 l (i : Int) = l[i] := rdL_at l i hin
    have h1 := hr _ (List.getElem_mem hin)
    rw [if_pos (by omega), if_pos (by omega), e3, toS_is l[i] h1 k (by omega)]
    simp only [Option.bind_some]
    rw [if_pos (by omega), e2, Int.toNat_natCast]
    refine ih k (i + 1) _ (by simpa using hx) (by omega) (by omega) ?_
    rw [List.take_succ_eq_append_getElem (by rw [List.length_set]; omega), List.take_set_of_le (by omega), ht, List.take_succ_eq_append_getElem hin]
    simp
theorem toSS_is (l : List (List Int)) (hn : l.length ≤ 1048576) (hr : ∀ r ∈ l, r.length ≤ 1048576) : laws_toIntSS.f (1048576 + l.length + 2) l = some l := by
  unfold laws_toIntSS.f
  rw [if_pos (by omega), if_pos (by omega), Int.toNat_natCast]
  exact toSS_loop l hn hr l.length _ 0 _ (by simp) (by omega) (by omega) (by simp)
theorem toIntSS_calls (w : World) (vc : Value) (rows : List (List Int)) (h : RowsC w vc rows) (hn : rows.length ≤ 1048576) (hr : ∀ r ∈ rows, r.length ≤ 1048576) : Calls Try.prog 57 #[vc] w (RowsOut w rows) := by
  obtain ⟨A, c, rfl, hc, hC⟩ := h
  refine (laws_toIntSS.calls _ A c rows rows w hC hc (toSS_is rows hn hr)).mono ?_
  rintro e w' ⟨v, rfl, hS, hB⟩
  exact ⟨v, rfl, hB, ⟨rowsD_of_S hS⟩⟩
end Go.Proofs.Ytjedhjeijpbobaa.G8

/-! ## Sw -/
namespace Go.Proofs.Ytjedhjeijpbobaa.G8
open Go.RowKit Go.Maps Go.Proofs.YtjedhjeijpbobaaW.PrintWords Go.Proofs.YtjedhjeijpbobaaW.PrintLast Go.Proofs.YtjedhjeijpbobaaW.PrintMore
open Go.Proofs.Ytjedhjeijpbobaa.GA
open Go.Proofs.Ytjedhjeijpbobaa.GK (laws_szIntSS.calls)
set_option linter.unusedVariables false
set_option linter.unusedSimpArgs false
theorem RowsC.maxs {w : World} {vc : Value} {rows : List (List Int)} (h : RowsC w vc rows) : (rows.length : Int) ≤ 9223372036854775807 ∧ ∀ r ∈ rows, (r.length : Int) ≤ 9223372036854775807 := by
  obtain ⟨A, c, rfl, hc, hC⟩ := h
  refine ⟨by have := hC.2.1; omega, fun r hr => ?_⟩
  obtain ⟨i, hi, rfl⟩ := List.mem_iff_getElem.1 hr
  obtain ⟨ad, A0, c0, _, _, _, h4⟩ := row_at hC hi
  have := h4.2.1
  omega
theorem turnV_two (rows : List (List Int)) : ∀ r ∈ turnV rows, r.length ≤ 2 := fun r hr => by
  unfold turnV at hr
  split at hr
  · exact Nat.le_of_eq (pairs_two _ r hr)
  · simp at hr
theorem turnV_len (rows : List (List Int)) : (turnV rows).length ≤ 250 := by
  unfold turnV
  split
  · rename_i h
    unfold okTurn at h
    rw [Bool.and_eq_true, decide_eq_true_eq] at h
    rw [pairs_len, sortC_len, List.length_map]
    exact h.1
  · simp
theorem tot_mem {rows : List (List Int)} : ∀ r ∈ rows, (r.length : Int) ≤ tot rows := fun r hr => by
  obtain ⟨i, hi, rfl⟩ := List.mem_iff_getElem.1 hr
  have h1 := tot_take hi
  have h2 := tot_le rows (i + 1)
  have h3 := tot_pos (rows.take i)
  omega
theorem szSS_calls (w : World) (vc : Value) (rows : List (List Int)) (h : RowsC w vc rows) : ∃ z, (z < 0 ∨ (0 ≤ z ∧ (rows.length : Int) + tot rows ≤ 1048576)) ∧ Calls Try.prog 56 #[vc, .int .i64 1048576] w fun e w' => e = .returned (.int .i64 z) ∧ Drawn0 w w' := by
  obtain ⟨k, z, h1, h2⟩ := szSS_is rows h.maxs.1 h.maxs.2
  obtain ⟨A, c, rfl, hc, hC⟩ := h
  exact ⟨z, h2, laws_szIntSS.calls k A c rows _ _ w hC hc h1⟩
set_option maxHeartbeats 4000000 in
set_option maxRecDepth 100000 in
theorem law_TurnCells.walk (vc : Value) (rows : List (List Int)) (w : World) (h : RowsC w vc rows) : Calls Try.prog 14 #[vc] w fun e w' => e = .returned (.bool true) ∧ Below w.heap.size w w' := by
  obtain ⟨z, hz, hsz⟩ := szSS_calls w vc rows h
  have HZ := Aside0.mk hsz
  have HV0 := Aside0.mk h
  clear hsz h
  rcases hz with hz | ⟨hz0, hz1⟩
  · go_enter Try.func14, Try.ntmps14
    go_wp2_with (first | (go_at_call 56; refine HZ.out.mono ?_; rintro e w1 ⟨rfl, ⟨nd, rfl⟩⟩))
    go_ret
    exact ⟨by first | rfl | trivial, pw_below_drewN (Below.refl _ _) nd⟩
  · have hz : ¬ (z < 0) := by omega
    have ht0 := tot_pos rows
    have hm := fun r hr => tot_mem (rows := rows) r hr
    have HL : Aside0 (rows.length ≤ 1048576 ∧ (0 ≤ (1 : Int) ∧ 1 + tot rows ≤ 1000000000) ∧ ∀ r ∈ rows, r.length ≤ 1048576) := ⟨by omega, ⟨by omega, by omega⟩, fun r hr => by have := hm r hr; omega⟩
    have hk : ¬ (1 + tot rows < 0) := by omega
    obtain ⟨T, hT⟩ : ∃ T, T = turnV rows := ⟨_, rfl⟩
    obtain ⟨ok, hok⟩ : ∃ ok, ok = okTurn rows := ⟨_, rfl⟩
    have hl : T.length ≤ 250 := by rw [hT]; exact turnV_len rows
    have h2 : ∀ r ∈ T, r.length ≤ 2 := by rw [hT]; exact turnV_two rows
    have hS := fun W u hu => spec_TurnCells_calls u rows W hu
    have hI := fun W u hu => impl_TurnCells_calls u rows W hu
    rw [← hT, ← hok] at hS hI
    clear hT hok hz0 hz1 hm ht0
    have ht := tot_bound T 2 h2
    have ht1 := tot_pos T
    have HT : Aside0 (T.length ≤ 10000000 ∧ (0 ≤ (1 : Int) ∧ 1 + tot T ≤ 1000000000) ∧ ∀ r ∈ T, r.length ≤ 2) := ⟨by omega, ⟨by omega, by omega⟩, h2⟩
    have HS := Aside0.mk hS
    have HI := Aside0.mk hI
    have hq : ¬ (1 + tot T < 0) := by omega
    clear hl h2 hS hI ht ht1
    go_enter Try.func14, Try.ntmps14
    go_upto_region 3 with (first | (go_at_call 56; refine HZ.out.mono ?_; rintro e w1 ⟨rfl, ⟨nd, rfl⟩⟩))
    have HV : Aside0 (RowsC (w.drewN nd) vc rows) := ⟨HV0.out.below (pw_below_drewN (Below.refl _ _) nd)⟩
    have HB0 : Aside0 (Below w.heap.size w (w.drewN nd)) := ⟨pw_below_drewN (Below.refl _ _) nd⟩
    have HS0 : Aside0 (w.heap.size ≤ (w.drewN nd).heap.size) := ⟨by simp⟩
    clear HV0 HZ
    generalize w.drewN nd = W0 at *
    go_upto_region 6 with (first | (go_at_call 57; refine (toIntSS_calls W0 vc rows HV.out (by have := HL.out.1; omega) HL.out.2.2).mono ?_; rintro e W1 ⟨va, rfl, hB1, hD1⟩) | (go_at_call 50; refine (HS.out W1 va hD1.out.reads).mono ?_; rintro e W2 ⟨vs, rfl, hB2, hC2⟩))
    have HB2 : Aside0 (Below W0.heap.size W0 W2) := ⟨hB1.trans (hB2.mono hB1.size)⟩
    have HV2 : Aside0 (RowsC W2 vc rows) := ⟨HV.out.below HB2.out⟩
    clear hB1 hD1 hB2
    go_upto_region 7 with (first | (go_at_call 57; refine (toIntSS_calls W2 vc rows HV2.out (by have := HL.out.1; omega) HL.out.2.2).mono ?_; rintro e W3 ⟨vx, rfl, hB3, hD3⟩))
    have HB3 := Aside0.mk hB3
    clear hB3
    go_upto_region 8 with (first | (go_at_call 47; refine (HI.out W3 vx hD3.out.reads).mono ?_; rintro e W4 ⟨vg, rfl, hB4, hD4⟩))
    have HB4 := Aside0.mk hB4
    have HB24 : Aside0 (Below W2.heap.size W2 W4) := ⟨HB3.out.trans (hB4.mono HB3.out.size)⟩
    have HX4 : Aside0 (RowsD W4 W2.heap.size vx rows) := ⟨hD3.out.below hB4⟩
    clear hB4
    go_upto_region 10 with (first | (go_at_call 58; refine (eqIntSS_calls W4 vg vs T hD4.out.reads (hC2.out.below HB24.out) HT.out.1 2 HT.out.2.2 (by decide)).mono ?_; rintro e w3 ⟨rfl, ⟨nd, rfl⟩⟩))
    have HB34 : Aside0 (Below W3.heap.size W3 (W4.drewN nd)) := ⟨pw_below_drewN HB4.out nd⟩
    have HB25 : Aside0 (Below W2.heap.size W2 (W4.drewN nd)) := ⟨pw_below_drewN HB24.out nd⟩
    have HX5 : Aside0 (RowsD (W4.drewN nd) W2.heap.size vx rows) := ⟨HX4.out.drewN nd⟩
    have HG5 : Aside0 (RowsD (W4.drewN nd) W3.heap.size vg T) := ⟨hD4.out.drewN nd⟩
    clear HB4 HB24 HX4 hD4
    generalize W4.drewN nd = W5 at *
    go_upto_region 12 with (first | (go_at_call 57; refine (toIntSS_calls W5 vc rows (HV2.out.below HB25.out) (by have := HL.out.1; omega) HL.out.2.2).mono ?_; rintro e W6 ⟨vy, rfl, hB6, hD6⟩) | (go_at_call 58; refine (eqIntSS_calls W6 vx vy rows (HX5.out.below hB6).reads hD6.out.reads (by have := HL.out.1; omega) 1048576 HL.out.2.2 (by decide)).mono ?_; rintro e w3 ⟨rfl, ⟨nd, rfl⟩⟩))
    have HB37 : Aside0 (Below W3.heap.size W3 (W6.drewN nd)) := ⟨pw_below_drewN (HB34.out.trans (hB6.mono HB34.out.size)) nd⟩
    have HB27 : Aside0 (Below W2.heap.size W2 (W6.drewN nd)) := ⟨pw_below_drewN (HB25.out.trans (hB6.mono HB25.out.size)) nd⟩
    have HX7 : Aside0 (RowsD (W6.drewN nd) W2.heap.size vx rows) := ⟨(HX5.out.below hB6).drewN nd⟩
    have HG7 : Aside0 (RowsD (W6.drewN nd) W3.heap.size vg T) := ⟨(HG5.out.below hB6).drewN nd⟩
    clear HB34 HB25 HX5 HG5 hB6 hD6
    generalize W6.drewN nd = W7 at *
    go_upto_region 14 with (first | (go_at_call 59; refine (markIntSS_in W2.heap.size W3.heap.size W7 HB27.out.size vx rows 1 HX7.out (hD3.out.upto HB37.out) HL.out.2.1 (by have := HL.out.1; omega)).mono ?_; rintro e W8 ⟨rfl, hB8, hX8, hK8⟩))
    have HB28 : Aside0 (Below W2.heap.size W2 W8) := ⟨HB27.out.trans hB8⟩
    have HG8 : Aside0 (RowsD W8 W3.heap.size vg T) := ⟨HG7.out.moveIn hK8.out⟩
    have hs8 : W3.heap.size ≤ W8.heap.size := Nat.le_trans HB37.out.size hB8.size
    clear HB37 HB27 HX7 HG7 hB8 hX8 hK8
    go_upto_region 16 with (first | (go_at_call 58; refine (eqIntSS_calls W8 vg vs T HG8.out.reads (hC2.out.below HB28.out) HT.out.1 2 HT.out.2.2 (by decide)).mono ?_; rintro e w3 ⟨rfl, ⟨nd, rfl⟩⟩))
    have HB29 : Aside0 (Below W2.heap.size W2 (W8.drewN nd)) := ⟨pw_below_drewN HB28.out nd⟩
    have HG9 : Aside0 (RowsD (W8.drewN nd) W3.heap.size vg T) := ⟨HG8.out.drewN nd⟩
    have hs9 : Aside0 (W3.heap.size ≤ (W8.drewN nd).heap.size) := ⟨by simpa using hs8⟩
    clear HB28 HG8 hs8
    generalize W8.drewN nd = W9 at *
    go_upto_region 18 with (first | (go_at_call 59; refine (markIntSS_in W3.heap.size W9.heap.size W9 hs9.out vg T 1 HG9.out (HG9.out.upto (Below.refl _ _)) HT.out.2.1 HT.out.1).mono ?_; rintro e WA ⟨rfl, hBA, hGA, hKA⟩))
    have HB2A : Aside0 (Below W2.heap.size W2 WA) := ⟨HB29.out.trans (hBA.mono HB3.out.size)⟩
    have HGA := hGA
    clear HB29 HG9 hs9 hBA hGA hKA
    go_upto_region 20 with (first | (go_at_call 60; refine (heldIntSS_calls WA vg T 1 HGA.out.reads HT.out.1 HT.out.2.1 2 HT.out.2.2).mono ?_; rintro e w3 ⟨rfl, ⟨nd, rfl⟩⟩))
    have HB2B : Aside0 (Below W2.heap.size W2 (WA.drewN nd)) := ⟨pw_below_drewN HB2A.out nd⟩
    have HGB : Aside0 (RowsD (WA.drewN nd) W3.heap.size vg (markRows T 1)) := ⟨HGA.out.drewN nd⟩
    clear HB2A HGA
    generalize WA.drewN nd = WB at *
    go_upto_region 25 with (first | (go_at_call 57; refine (toIntSS_calls WB vc rows (HV2.out.below HB2B.out) (by have := HL.out.1; omega) HL.out.2.2).mono ?_; rintro e WC ⟨vz, rfl, hBC, hDC⟩) | (go_at_call 47; refine (HI.out WC vz hDC.out.reads).mono ?_; rintro e WD ⟨vh, rfl, hBD, hDD⟩))
    have hBBD : Below WB.heap.size WB WD := hBC.trans (hBD.mono hBC.size)
    have HB2D : Aside0 (Below W2.heap.size W2 WD) := ⟨HB2B.out.trans (hBBD.mono HB2B.out.size)⟩
    have HGD : Aside0 (RowsD WD W3.heap.size vg (markRows T 1)) := ⟨HGB.out.below hBBD⟩
    clear HB2B HGB hBC hBD hBBD hDC
    go_upto_region 27 with (first | (go_at_call 58; refine (eqIntSS_calls WD vh vs T hDD.out.reads (hC2.out.below HB2D.out) HT.out.1 2 HT.out.2.2 (by decide)).mono ?_; rintro e w3 ⟨rfl, ⟨nd, rfl⟩⟩))
    have HB2E : Aside0 (Below W2.heap.size W2 (WD.drewN nd)) := ⟨pw_below_drewN HB2D.out nd⟩
    have HGE : Aside0 (RowsD (WD.drewN nd) W3.heap.size vg (markRows T 1)) := ⟨HGD.out.drewN nd⟩
    clear HB2D HGD hDD
    generalize WD.drewN nd = WE at *
    go_wp2_with (first | (go_at_call 60; refine (heldIntSS_calls WE vg T 1 HGE.out.reads HT.out.1 HT.out.2.1 2 HT.out.2.2).mono ?_; rintro e w3 ⟨rfl, ⟨nd, rfl⟩⟩))
    go_ret
    exact ⟨by first | rfl | trivial, pw_below_drewN (HB0.out.trans ((HB2.out.trans (HB2E.out.mono HB2.out.size)).mono HS0.out)) nd⟩
end Go.Proofs.Ytjedhjeijpbobaa.G8
