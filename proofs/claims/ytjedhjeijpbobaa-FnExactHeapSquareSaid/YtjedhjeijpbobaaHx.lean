/-
  The reference's list of heap cells, walked.
-/
import Derived.Test.YtjedhjeijpbobaaHv
namespace Go.Proofs.Ytjedhjeijpbobaa.G8
open Go.RowKit Go.Maps Go.Proofs.YtjedhjeijpbobaaW.PrintWords Go.Proofs.YtjedhjeijpbobaaW.PrintLast Go.Proofs.YtjedhjeijpbobaaW.PrintMore
open Go.Proofs.Ytjedhjeijpbobaa.GA
set_option linter.unusedVariables false
set_option linter.unusedSimpArgs false
def rowV (r : List Int) : Array Value := (r.map (Value.int .i64)).toArray
/-- Rows of numbers, in memory. -/
def RowsAt (w : World) (base : Nat) (vc : Value) (rows : List (List Int)) : Prop := ∃ L, w.ownsRow base 29 1 vc rows.length L ∧ ∀ (i : Nat) (r : List Int), rows[i]? = some r → ∃ b, L[i]? = some (.slice (some ⟨b, 0, none⟩) r.length r.length) ∧ base ≤ b ∧ w.heap[b]? = some (.cells (rowV r) 3 (0, 0))
section
variable {w w1 : World} {base : Nat} {vc : Value} {rows : List (List Int)}
theorem RowsAt.nil (w : World) (base : Nat) : RowsAt w base (.slice none 0 0) [] := ⟨[], own_nil _ _ _ _, fun i r h => by simp at h⟩
theorem RowsAt.keep (h : RowsAt w base vc rows) (e : ∀ b, b < w.heap.size → w1.heap[b]? = w.heap[b]?) : RowsAt w1 base vc rows := by
  obtain ⟨L, h1, h2⟩ := h
  refine ⟨L, own_move h1 (fun k hk => e k (own_lt h1 k hk)), fun i r hr => ?_⟩
  obtain ⟨b, q1, q2, q3⟩ := h2 i r hr
  exact ⟨b, q1, q2, (e b (blk_lt q3)).trans q3⟩
theorem RowsAt.drewN (h : RowsAt w base vc rows) (n : Nat) : RowsAt (w.drewN n) base vc rows := h.keep fun _ _ => by simp
theorem RowsAt.alloc (h : RowsAt w base vc rows) (o : Obj) : RowsAt (w.alloc o) base vc rows := h.keep fun b hb => (MapKept.heap_alloc w o).2 b hb
theorem RowsAt.below (h : RowsAt w base vc rows) (hB : Below w.heap.size w w1) : RowsAt w1 base vc rows := h.keep fun b hb => hB.block b hb
theorem RowsAt.form (h : RowsAt w base vc rows) (hp : 0 < rows.length) : ∃ g cap, vc = .slice (some ⟨g, 0, none⟩) rows.length cap ∧ ∀ (i : Nat) (r : List Int), rows[i]? = some r → ∃ b, w.cell? ⟨g, i, none⟩ = some (.slice (some ⟨b, 0, none⟩) r.length r.length) ∧ base ≤ b ∧ w.heap[b]? = some (.cells (rowV r) 3 (0, 0)) := by
  obtain ⟨L, hL, hE⟩ := h
  rcases hL.2 with ⟨_, h2⟩ | ⟨g, cap, cur, h1, _, hh, h3, _, h5, h6⟩
  · omega
  · refine ⟨g, cap, h1, fun i c hc => ?_⟩
    obtain ⟨b, q1, q2, q3⟩ := hE i c hc
    refine ⟨b, (blk_cell hh i).trans ?_, q2, q3⟩
    rw [← h6, List.getElem?_take] at q1
    split at q1
    · simpa using q1
    · cases q1
theorem RowsAt.reads (h : RowsAt w base vc rows) : ∃ A c, vc = .slice A rows.length c ∧ rows.length ≤ c := by
  obtain ⟨L, hL, hE⟩ := h
  rcases hL.2 with ⟨h1, h2⟩ | ⟨g, cap, cur, h1, _, hh, h3, _, h5, h6⟩
  · exact ⟨none, 0, by rw [h1, h2], by omega⟩
  · exact ⟨_, cap, h1, h3⟩
end
theorem HhAt.own {w : World} {base cb tb : Nat} {M : Fld} {T : Int → Int → Bool} (h : HhAt w base cb tb M T) {vc : Value} {n : Nat} {L : List Value} (ho : w.ownsRow base 29 1 vc n L) : some cb ≠ vc.ownBlock ∧ some tb ≠ vc.ownBlock := by
  obtain ⟨cl, c1, _⟩ := h.chips
  obtain ⟨tl, t1, _⟩ := h.tops
  exact ⟨own_ne ho c1 (by decide), own_ne ho t1 (by decide)⟩
theorem HhAt.grown {w w1 : World} {base cb tb : Nat} {M : Fld} {T : Int → Int → Bool} (h : HhAt w base cb tb M T) {vc : Value} {n : Nat} {L : List Value} (ho : w.ownsRow base 29 1 vc n L) (hg : w.grownBy w1 vc.ownBlock) : HhAt w1 base cb tb M T := by
  obtain ⟨k1, k2⟩ := h.own ho
  obtain ⟨cl, c1, c2, c3⟩ := h.chips
  obtain ⟨tl, t1, t2, t3⟩ := h.tops
  exact ⟨h.hc, h.ht, ⟨cl, (hg.block cb (blk_lt c1) k1).trans c1, c2, c3⟩, ⟨tl, (hg.block tb (blk_lt t1) k2).trans t1, t2, t3⟩⟩
theorem HhAt.alloc {w : World} {base cb tb : Nat} {M : Fld} {T : Int → Int → Bool} (h : HhAt w base cb tb M T) (o : Obj) : HhAt (w.alloc o) base cb tb M T := h.keep fun b hb => (MapKept.heap_alloc w o).2 b hb
theorem wpList_appR {ops : Array Oper} {rest : List Oper} {o : Oper} {a : Act} {Q : Exit → Act → World → Prop} {W : World} {base cb tb : Nat} {M : Fld} {T : Int → Int → Bool} {vc : Value} {rows : List (List Int)} {r : List Int} {B C : Nat} (hgd : o.guard = none) (sv xv : Operand) (ho : o.op = .call { callee := .builtin .append, args := #[sv, xv], argTypes := #[40, 40] })
    (hs : a.eval sv = vc) (hx : a.eval xv = .slice (some ⟨C, 0, none⟩) 1 1) (hh : HhAt W base cb tb M T) (h : RowsAt W base vc rows) (hbase : base ≤ W.heap.size) (hl : rows.length ≤ 1000000) (hB : W.heap[B]? = some (.cells (rowV r) 3 (0, 0))) (hb : base ≤ B) (hC : W.heap[C]? = some (.cells #[.slice (some ⟨B, 0, none⟩) r.length r.length] 29 (0, 0)))
    (k : ∀ g1 cap w1, RowsAt w1 base (.slice (some ⟨g1, 0, none⟩) (rows.length + 1) cap) (rows ++ [r]) → HhAt w1 base cb tb M T → Below base W w1 →
      wpList Try.prog ops Q rest (a.put o.dst (.slice (some ⟨g1, 0, none⟩) (rows.length + 1) cap)) w1) : wpList Try.prog ops Q (o :: rest) a W := by
  obtain ⟨i0, hi0, hz⟩ := Option.map_eq_some_iff.1 info29
  simp only [Prod.mk.injEq] at hz
  obtain ⟨hz0, hz1, hz2⟩ := hz
  obtain ⟨L, hL, hE⟩ := h
  refine wpList_append_lies (w := W) hgd sv xv 40 ho base 29 i0 (.slice none 0 0) 1 24 Try.underlying40 hi0 hz0 hz1 hz2 rfl (by omega) vc rows.length L hs hL ⟨C, 0, none⟩ 1 1 [.slice (some ⟨B, 0, none⟩) r.length r.length] hx rfl (World.news_of_block hC) (by intro u hu; simp at hu; subst hu; rfl) (by omega) (by unfold maxLen; omega) (by omega) hbase _ rfl ?_
  intro g1 cap w1 hown hg hat hlt
  have hel : ∀ (b : Nat) (r : List Int), W.heap[b]? = some (Obj.cells (rowV r) 3 (0, 0)) → w1.heap[b]? = some (Obj.cells (rowV r) 3 (0, 0)) := fun b r hb => (hg.block b (blk_lt hb) (own_ne hL hb (by decide))).trans hb
  refine k g1 cap w1 ⟨L ++ [.slice (some ⟨B, 0, none⟩) r.length r.length], by rw [List.length_append, List.length_singleton]; exact hown, ?_⟩ (hh.grown hL hg) ((Below.refl base W).grown hg hbase (own_base hL))
  have hLl : L.length = rows.length := by have := hL.1; omega
  intro i c hc
  rcases Nat.lt_trichotomy i rows.length with hi | hi | hi
  · rw [List.getElem?_append_left hi] at hc
    obtain ⟨b, p1, p2, p3⟩ := hE i c hc
    exact ⟨b, by rw [List.getElem?_append_left (by omega)]; exact p1, p2, hel b _ p3⟩
  · subst hi
    rw [List.getElem?_append_right (Nat.le_refl _)] at hc
    simp at hc
    subst hc
    exact ⟨B, by rw [List.getElem?_append_right (by omega), hLl]; simp, hb, hel B _ hB⟩
  · rw [List.getElem?_append_right (by omega)] at hc
    rw [List.getElem?_eq_none (by simp; omega)] at hc
    cases hc
def lexLt (c d : Int × Int) : Prop := c.1 < d.1 ∨ (c.1 = d.1 ∧ c.2 < d.2)
def hot (n : Int) (u : Odo) (a b : Int) : Prop := 0 < hp n u a b ∨ 0 < u a b
/-- The cells listed so far: those ahead of (x, y), by rows. -/
structure HList (n : Int) (u : Odo) (x y : Int) (cs : List (Int × Int)) : Prop where
  sorted : cs.Pairwise lexLt
  is : ∀ a b, (a, b) ∈ cs ↔ (Box a ∧ Box b ∧ (a < x ∨ (a = x ∧ b < y))) ∧ hot n u a b
  few : (cs.length : Int) ≤ (x + 60) * 121 + (y + 60)
section
variable {n : Int} {u : Odo} {x y : Int} {cs : List (Int × Int)}
theorem HList.start (n : Int) (u : Odo) : HList n u (-60) (-60) [] := ⟨List.Pairwise.nil, fun a b => by unfold Box; simp; omega, by decide⟩
theorem HList.row (h : HList n u x 61 cs) : HList n u (x + 1) (-60) cs := ⟨h.sorted, fun a b => by rw [h.is]; unfold Box; constructor <;> (rintro ⟨⟨h1, h2, h3⟩, h4⟩; exact ⟨⟨h1, h2, by omega⟩, h4⟩), by have := h.few; omega⟩
theorem HList.cold (h : HList n u x y cs) (hc : ¬ hot n u x y) : HList n u x (y + 1) cs := ⟨h.sorted, fun a b => by
  rw [h.is]
  constructor
  · rintro ⟨⟨h1, h2, h3⟩, h4⟩; exact ⟨⟨h1, h2, by omega⟩, h4⟩
  · rintro ⟨⟨h1, h2, h3⟩, h4⟩
    refine ⟨⟨h1, h2, ?_⟩, h4⟩
    by_cases e : a = x ∧ b = y
    · rw [e.1, e.2] at h4; exact absurd h4 hc
    · omega, by have := h.few; omega⟩
theorem HList.hot (h : HList n u x y cs) (hx : Box x) (hy : Box y) (hc : G8.hot n u x y) : HList n u x (y + 1) (cs ++ [(x, y)]) := by
  refine ⟨?_, fun a b => ?_, by rw [List.length_append, List.length_singleton]; have := h.few; omega⟩
  · rw [List.pairwise_append]
    refine ⟨h.sorted, List.pairwise_singleton _ _, fun c hc d hd => ?_⟩
    simp at hd
    subst hd
    exact ((h.is c.1 c.2).1 hc).1.2.2
  · simp only [List.mem_append, List.mem_singleton, Prod.mk.injEq]
    rw [h.is]
    constructor
    · rintro (⟨⟨h1, h2, h3⟩, h4⟩ | ⟨rfl, rfl⟩)
      · exact ⟨⟨h1, h2, by omega⟩, h4⟩
      · exact ⟨⟨hx, hy, by omega⟩, hc⟩
    · rintro ⟨⟨h1, h2, h3⟩, h4⟩
      by_cases e : a = x ∧ b = y
      · exact .inr e
      · exact .inl ⟨⟨h1, h2, by omega⟩, h4⟩
theorem HList.finish (h : HList n u 61 (-60) cs) (a b : Int) : (a, b) ∈ cs ↔ Box a ∧ Box b ∧ G8.hot n u a b := by
  rw [h.is]
  constructor
  · rintro ⟨⟨h1, h2, h3⟩, h4⟩; exact ⟨h1, h2, h4⟩
  · rintro ⟨h1, h2, h4⟩; exact ⟨⟨h1, h2, by unfold Box at *; omega⟩, h4⟩
end
def hrows (n : Int) (u : Odo) (cs : List (Int × Int)) : List (List Int) := cs.map fun c => [c.1, c.2, hp n u c.1 c.2]
theorem hot_no {n : Int} {u : Odo} {x y : Int} (h1 : ¬ hp n u x y > 0) (h2 : hpT u x y = false) : ¬ hot n u x y := by
  unfold hpT at h2
  have h3 := of_decide_eq_false h2
  unfold hot
  omega
theorem hot_top {n : Int} {u : Odo} {x y : Int} (h2 : hpT u x y = true) : hot n u x y := .inr (of_decide_eq_true h2)
theorem hrows_app (n : Int) (u : Odo) (cs : List (Int × Int)) (x y : Int) : hrows n u (cs ++ [(x, y)]) = hrows n u cs ++ [[x, y, hp n u x y]] := by unfold hrows; simp
theorem hrows_len (n : Int) (u : Odo) (cs : List (Int × Int)) : (hrows n u cs).length = cs.length := by unfold hrows; simp
def HcOut (w : World) (n : Int) (e : Ending) (w' : World) : Prop := ∃ vc cs u, e = .returned (.tuple #[vc, .bool true]) ∧ Below w.heap.size w w' ∧ Aside0 (RowsAt w' w.heap.size vc (hrows n u cs)) ∧ Aside0 (Legal n u) ∧ Aside0 (∀ a b, 0 ≤ hp n u a b ∧ hp n u a b ≤ 3) ∧ Aside0 (HList n u 61 (-60) cs)
theorem HList.many {n : Int} {u : Odo} {x y : Int} {cs : List (Int × Int)} (h : HList n u x y cs) (hx : x ≤ 60) (hy : y ≤ 60) : (hrows n u cs).length ≤ 1000000 := by
  rw [hrows_len]
  have := h.few
  omega
theorem in_bad {n : Int} (h : ¬ (0 ≤ n ∧ n ≤ 250)) : spec_l1In.f n 0 250 = some false := by
  unfold spec_l1In.f
  by_cases q : n ≥ 0
  · rw [if_pos q, decide_eq_false (by omega)]
  · rw [if_neg q]
theorem in_good {n : Int} (h : 0 ≤ n ∧ n ≤ 250) : spec_l1In.f n 0 250 = some true := by
  unfold spec_l1In.f
  rw [if_pos h.1, decide_eq_true h.2]
set_option maxHeartbeats 4000000 in
set_option maxRecDepth 100000 in
theorem heapCells_bad (n : Int) (hn : ¬ (0 ≤ n ∧ n ≤ 250)) (w : World) : Calls Try.prog 61 #[.int .i64 n] w fun e w' => e = .returned (.tuple #[.slice none 0 0, .bool false]) ∧ Below w.heap.size w w' := by
  have HA := Aside0.mk (fun W => spec_l1In.calls n 0 250 false W (in_bad hn))
  go_enter Try.func61, Try.ntmps61
  go_wp2_with (first | (go_at_call 72; (with_reducible refine (HA.out _).mono ?_); rintro e w1 ⟨rfl, ⟨nd, rfl⟩⟩))
  go_ret2
  exact ⟨rfl, by repeat (first | exact Below.refl _ _ | apply pw_below_drewN)⟩
set_option maxHeartbeats 4000000 in
set_option maxRecDepth 100000 in
theorem heapCells_calls (n : Int) (hn : 0 ≤ n ∧ n ≤ 250) (w : World) : Calls Try.prog 61 #[.int .i64 n] w (HcOut w n) := by
  have HA := Aside0.mk (fun W => spec_l1In.calls n 0 250 true W (in_good hn))
  have HG := Aside0.mk (fun W => gwHeap_calls n hn W)
  go_enter Try.func61, Try.ntmps61
  go_upto_region 3 with (first | (go_at_call 72; (with_reducible refine (HA.out _).mono ?_); rintro e w1 ⟨rfl, ⟨nd, rfl⟩⟩))
  go_upto_region 4 with (first | (go_at_call 95; (with_reducible refine (HG.out _).mono ?_); rintro e w1 ⟨cb, tb, u, rfl, hB, hH, hL, hS⟩))
  have HB0 := Aside0.mk (below_then (pw_below_drewN (Below.refl w.heap.size w) nd) (by simp) hB)
  have HH0 : Aside0 (HhAt w1 w.heap.size cb tb (hpM n u) (hpT u)) := ⟨by simpa using hH.out⟩
  have HL := hL
  have HS := hS
  have HL0 := Aside0.mk (HList.start n u)
  have HR0 := Aside0.mk (RowsAt.nil w1 w.heap.size)
  clear hB hH hL hS HA HG
  go_upto_region 5 with (fail)
  go_wp2_with (fail)
  go_loopg [6, 7] 121 (fun k v6 v7 wq => ∃ (vc : Value) (cs : List (Int × Int)) (x : Int), v6 = vc ∧ v7 = .int .i64 x ∧ Aside0 (-60 ≤ x ∧ x + (k : Int) = 61) ∧ Aside0 (HList n u x (-60) cs) ∧ Aside0 (HhAt wq w.heap.size cb tb (hpM n u) (hpT u)) ∧ Aside0 (RowsAt wq w.heap.size vc (hrows n u cs)) ∧ Aside0 (Below w.heap.size w wq))
  case atStart => exact ⟨_, [], -60, rfl, rfl, ⟨by decide⟩, HL0, HH0, HR0, HB0⟩
  case round =>
    clear HL0 HH0 HR0 HB0
    obtain ⟨vc, cs, x, hvc, rfl, HX, HC, HH, HR, HB⟩ := hrel
    replace hvc := hvc.symm
    subst hvc
    cases gk with
    | zero =>
      have hx60 : x = 61 := by have := HX.out.2; omega
      subst hx60
      have hle : ¬ ((61 : Int) ≤ 60) := by omega
      go_wp2_with (fail)
      refine bodyPost_ret (v := .tuple #[vc, .bool true]) (by simp [results, Try.results61, go_sem]) rfl ?_
      exact ⟨vc, cs, u, rfl, HB.out, HR, HL, HS, HC⟩
    | succ kx =>
      have hle : x ≤ 60 := by have := HX.out.2; omega
      have hx1 := HX.out.1
      have hxb : Box x := ⟨hx1, hle⟩
      have hwx := wrap_id (x := x + 1) (by omega) (by omega)
      go_upto_region 8 with (fail)
      go_wp2_with (fail)
      go_loopg [6, 8] 121 (fun k v6 v8 wq => ∃ (vc : Value) (cs : List (Int × Int)) (y : Int), v6 = vc ∧ v8 = .int .i64 y ∧ Aside0 (-60 ≤ y ∧ y + (k : Int) = 61) ∧ Aside0 (HList n u x y cs) ∧ Aside0 (HhAt wq w.heap.size cb tb (hpM n u) (hpT u)) ∧ Aside0 (RowsAt wq w.heap.size vc (hrows n u cs)) ∧ Aside0 (Below w.heap.size w wq))
      case atStart => exact ⟨_, cs, -60, rfl, rfl, ⟨by decide⟩, HC, HH, HR, HB⟩
      case round =>
        clear HC HH HR HB
        obtain ⟨vc, cs, y, hvc, rfl, HY, HC, HH, HR, HB⟩ := hrel
        replace hvc := hvc.symm
        subst hvc
        cases gk with
        | zero =>
          have hy60 : y = 61 := by have := HY.out.2; omega
          subst hy60
          have hley : ¬ ((61 : Int) ≤ 60) := by omega
          go_wp2_with (fail)
          (try simp only [hwx])
          go_roundg kx
          case measure => omega
          case rel => exact ⟨vc, cs, x + 1, rfl, by first | rfl | go_num, ⟨by have := HX.out; omega⟩, ⟨HC.out.row⟩, HH, HR, HB⟩
        | succ ky =>
          have hley : y ≤ 60 := by have := HY.out.2; omega
          have hy1 := HY.out.1
          have hyb : Box y := ⟨hy1, hley⟩
          have hwy := wrap_id (x := y + 1) (by omega) (by omega)
          have HN := Aside0.mk (at_quiet hxb hyb)
          have hplt := atN_lt hxb hyb
          obtain ⟨p, hpe⟩ : ∃ p, p = atN x y := ⟨_, rfl⟩
          rw [← hpe] at HN hplt
          have hpi : (p : Int) < 14641 := by omega
          have hp0 : (0 : Int) ≤ (p : Int) := by omega
          replace hpe := Aside0.mk hpe
          go_upto_region 11 with (fail)
          go_upto_region 12 with (first | (go_at_call 73; (with_reducible refine (HN.out _).mono ?_); rintro e w9 ⟨rfl, ⟨nd, rfl⟩⟩))
          have HH1 := Aside0.mk (HH.out.drewN nd)
          have HR1 := Aside0.mk (HR.out.drewN nd)
          have HB1 : Aside0 (Below w.heap.size w (wr.drewN nd)) := ⟨pw_below_drewN HB.out nd⟩
          clear HH HB HR
          generalize wr.drewN nd = W2 at *
          obtain ⟨cv, fv⟩ := HH1.out.chip_at hxb hyb
          obtain ⟨tv, gv⟩ := HH1.out.top_at hxb hyb
          rw [← hpe.out] at cv fv tv gv
          obtain ⟨h, hh⟩ : ∃ h, h = hp n u x y := ⟨_, rfl⟩
          have hMh : (hpM n u x y).getD 0 = h := by rw [hh]; rfl
          rw [hMh] at cv
          obtain ⟨b, hb⟩ : ∃ b, b = hpT u x y := ⟨_, rfl⟩
          rw [← hb] at tv
          replace hh := Aside0.mk hh
          replace hb := Aside0.mk hb
          by_cases h4 : h > 0
          · go_upto_region 13 with (fail)
            have HHo : Aside0 (hot n u x y) := ⟨.inl (by rw [← hh.out]; exact h4)⟩
            have hs2 := HB1.out.size
            have HHb : Aside0 (HhAt ((W2.alloc (.cells #[.int .i64 x, .int .i64 y, .int .i64 h] 3)).alloc (.cells #[.slice (some ⟨W2.heap.size, 0, none⟩) 3 3] 29)) w.heap.size cb tb (hpM n u) (hpT u)) := ⟨(HH1.out.alloc _).alloc _⟩
            have HRb : Aside0 (RowsAt ((W2.alloc (.cells #[.int .i64 x, .int .i64 y, .int .i64 h] 3)).alloc (.cells #[.slice (some ⟨W2.heap.size, 0, none⟩) 3 3] 29)) w.heap.size vc (hrows n u cs)) := ⟨(HR1.out.alloc _).alloc _⟩
            have HBb : Aside0 (Below w.heap.size w ((W2.alloc (.cells #[.int .i64 x, .int .i64 y, .int .i64 h] 3)).alloc (.cells #[.slice (some ⟨W2.heap.size, 0, none⟩) 3 3] 29))) := ⟨(HB1.out.alloc hs2 _).alloc (by simp; omega) _⟩
            have hcl := HC.out.many hle hley
            go_wp2_with (first | ((with_reducible refine gate_builtin (b := .append) (xs := #[.tmp 40, .tmp 48]) rfl ?_); refine wpList_appR (r := [x, y, h]) rfl (.tmp 40) (.tmp 48) rfl rfl rfl HHb.out HRb.out HBb.out.size hcl (two_new W2 _ _) hs2 (two_new1 W2 _ _) ?_; intro g1 cap1 w11 hR hH hB; have HR11 := Aside0.mk hR; have HH11 := Aside0.mk hH; have HB11 := Aside0.mk (HBb.out.trans hB); clear hR hH hB))
            (try simp only [hwy])
            go_roundg ky
            case measure => omega
            case rel => exact ⟨_, cs ++ [(x, y)], y + 1, rfl, by first | rfl | go_num, ⟨by have := HY.out; omega⟩, ⟨HC.out.hot hxb hyb HHo.out⟩, HH11, ⟨by rw [hrows_app, ← hh.out]; exact HR11.out⟩, HB11⟩
          · cases b with
            | true =>
              go_upto_region 13 with (fail)
              have HHo : Aside0 (hot n u x y) := ⟨hot_top hb.out.symm⟩
              have hs2 := HB1.out.size
              have HHb : Aside0 (HhAt ((W2.alloc (.cells #[.int .i64 x, .int .i64 y, .int .i64 h] 3)).alloc (.cells #[.slice (some ⟨W2.heap.size, 0, none⟩) 3 3] 29)) w.heap.size cb tb (hpM n u) (hpT u)) := ⟨(HH1.out.alloc _).alloc _⟩
              have HRb : Aside0 (RowsAt ((W2.alloc (.cells #[.int .i64 x, .int .i64 y, .int .i64 h] 3)).alloc (.cells #[.slice (some ⟨W2.heap.size, 0, none⟩) 3 3] 29)) w.heap.size vc (hrows n u cs)) := ⟨(HR1.out.alloc _).alloc _⟩
              have HBb : Aside0 (Below w.heap.size w ((W2.alloc (.cells #[.int .i64 x, .int .i64 y, .int .i64 h] 3)).alloc (.cells #[.slice (some ⟨W2.heap.size, 0, none⟩) 3 3] 29))) := ⟨(HB1.out.alloc hs2 _).alloc (by simp; omega) _⟩
              have hcl := HC.out.many hle hley
              go_wp2_with (first | ((with_reducible refine gate_builtin (b := .append) (xs := #[.tmp 40, .tmp 48]) rfl ?_); refine wpList_appR (r := [x, y, h]) rfl (.tmp 40) (.tmp 48) rfl rfl rfl HHb.out HRb.out HBb.out.size hcl (two_new W2 _ _) hs2 (two_new1 W2 _ _) ?_; intro g1 cap1 w11 hR hH hB; have HR11 := Aside0.mk hR; have HH11 := Aside0.mk hH; have HB11 := Aside0.mk (HBb.out.trans hB); clear hR hH hB))
              (try simp only [hwy])
              go_roundg ky
              case measure => omega
              case rel => exact ⟨_, cs ++ [(x, y)], y + 1, rfl, by first | rfl | go_num, ⟨by have := HY.out; omega⟩, ⟨HC.out.hot hxb hyb HHo.out⟩, HH11, ⟨by rw [hrows_app, ← hh.out]; exact HR11.out⟩, HB11⟩
            | false =>
              go_wp2_with (fail)
              (try simp only [hwy])
              go_roundg ky
              case measure => omega
              case rel => exact ⟨vc, cs, y + 1, rfl, by first | rfl | go_num, ⟨by have := HY.out; omega⟩, ⟨HC.out.cold (hot_no (by rw [← hh.out]; omega) hb.out.symm)⟩, HH1, HR1, HB1⟩
end Go.Proofs.Ytjedhjeijpbobaa.G8
