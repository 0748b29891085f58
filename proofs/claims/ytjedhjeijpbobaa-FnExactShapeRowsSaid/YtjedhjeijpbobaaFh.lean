/-
  The ends of what has grown on the line: the program's, walked; and the reference's number for number.
-/
import Derived.Test.YtjedhjeijpbobaaFg
namespace Go.Proofs.Ytjedhjeijpbobaa.G8
open Go.RowKit Go.Maps Go.Proofs.YtjedhjeijpbobaaW.PrintWords Go.Proofs.YtjedhjeijpbobaaW.PrintLast Go.Proofs.YtjedhjeijpbobaaW.PrintMore
open Go.Proofs.Ytjedhjeijpbobaa.GA
set_option linter.unusedVariables false
set_option linter.unusedSimpArgs false
theorem chips_front (ex B : Int) (mv : Int → Int → Int → Int × Int) (K : Nat) (k0 : Int) : ∀ (n : Nat) (S S1 : St), chips ex B mv K k0 n S = some S1 → ∃ more, S1.cells = S.cells ++ more
  | 0, S, S1, h => by
    simp only [chips, Option.some.injEq] at h
    subst h
    exact ⟨[], by simp⟩
  | n + 1, S, S1, h => by
    simp only [chips] at h
    obtain ⟨⟨F1, x1, y1, s1⟩, hr, h⟩ := Option.bind_eq_some_iff.1 h
    obtain ⟨more, hm⟩ := chips_front ex B mv K k0 n _ S1 h
    exact ⟨(x1, y1) :: more, by rw [hm]; simp⟩
/-- The first chip stays in the middle. -/
theorem chips_first {ex B : Int} {mv : Int → Int → Int → Int × Int} {K n : Nat} {k0 : Int} {S : St} (hB : 0 ≤ B) (hn : 0 < n) (h : chips ex B mv K k0 n st0 = some S) : S.cells[0]? = some (0, 0) := by
  obtain ⟨n, rfl⟩ : ∃ m, n = m + 1 := ⟨n - 1, by omega⟩
  simp only [chips] at h
  obtain ⟨⟨F1, x1, y1, s1⟩, hr, h⟩ := Option.bind_eq_some_iff.1 h
  obtain ⟨more, hm⟩ := chips_front ex B mv K k0 n _ S h
  cases K with
  | zero => simp [run] at hr
  | succ K =>
    unfold run at hr
    rw [if_pos (by omega)] at hr
    simp only [st0, Option.some.injEq, Prod.mk.injEq] at hr
    obtain ⟨_, rfl, rfl, _⟩ := hr
    rw [hm]
    simp [st0]
theorem GroAt.cellsAt {w : World} {base g gm N : Nat} {vc : Value} {F : Fld} {cs : List (Int × Int)} {s : Int} (h : GroAt w base g gm N vc F cs s) (hp : 0 < cs.length) :
    ∃ b cap, vc = .slice (some ⟨b, 0, none⟩) cs.length cap ∧ CellsAt w b cs := by
  obtain ⟨b, cap, hv, hb, hE⟩ := h.form hp
  exact ⟨b, cap, hv, h.lt (.inr (.inr (by rw [hv]; rfl))), hE⟩
/-! ### The line's ends -/
def okEnds (n k : Int) : Bool := okLine n k && !decide (n = 0)
def endsV (n k : Int) : List Int := if okEnds n k = true then [loF Prod.fst 0 (lineS n k).cells, hiF Prod.fst 0 (lineS n k).cells] else []
theorem ends0 {n k : Int} (h : okLine n k = false) : endsV n k = [] ∧ okEnds n k = false := by unfold endsV okEnds; rw [h]; simp
theorem ends1 {n k : Int} (h : n = 0) : endsV n k = [] ∧ okEnds n k = false := by unfold endsV okEnds; simp [h]
theorem ends2 {n k : Int} (h : okLine n k = true) (h0 : n ≠ 0) : endsV n k = [loF Prod.fst 0 (lineS n k).cells, hiF Prod.fst 0 (lineS n k).cells] ∧ okEnds n k = true := by
  have e : okEnds n k = true := by unfold okEnds; rw [h]; simp [h0]
  exact ⟨by unfold endsV; rw [e]; rfl, e⟩
theorem line_first {n k : Int} (h : okLine n k = true) (h0 : n ≠ 0) : (lineS n k).cells[0]? = some (0, 0) ∧ 0 < (lineS n k).cells.length ∧ (lineS n k).cells.length ≤ 1000 := by
  have h1 := (line_f h).1
  obtain ⟨m, rfl, hm, _, _, hS⟩ := line_is h
  exact ⟨chips_first (by omega) (by omega) hS, by omega, by omega⟩
theorem mins_lo : ∀ (cs : List (Int × Int)) (a : Int), mins a cs = loF Prod.fst a cs
  | [], a => rfl
  | c :: cs, a => by
    have e : (if a < c.1 then a else c.1) = if c.1 < a then c.1 else a := by split <;> split <;> omega
    show mins (if a < c.1 then a else c.1) cs = loF Prod.fst (if c.1 < a then c.1 else a) cs
    rw [e]
    exact mins_lo cs _
theorem maxs_hi : ∀ (cs : List (Int × Int)) (a : Int), maxs a cs = hiF Prod.fst a cs
  | [], a => rfl
  | c :: cs, a => by
    have e : (if a > c.1 then a else c.1) = if a < c.1 then c.1 else a := by split <;> split <;> omega
    show maxs (if a > c.1 then a else c.1) cs = hiF Prod.fst (if a < c.1 then c.1 else a) cs
    rw [e]
    exact maxs_hi cs _
theorem loF_start {sel : Int × Int → Int} {cs : List (Int × Int)} {c : Int × Int} (h : cs[0]? = some c) {a : Int} (ha : sel c ≤ a) : loF sel a cs = loF sel (sel c) cs := by
  match cs, h with
  | d :: cs, h =>
    simp at h
    subst h
    show loF sel (if sel d < a then sel d else a) cs = loF sel (if sel d < sel d then sel d else sel d) cs
    have e1 : (if sel d < a then sel d else a) = sel d := by split <;> omega
    have e2 : (if sel d < sel d then sel d else sel d) = sel d := by split <;> rfl
    rw [e1, e2]
theorem hiF_start {sel : Int × Int → Int} {cs : List (Int × Int)} {c : Int × Int} (h : cs[0]? = some c) {a : Int} (ha : a ≤ sel c) : hiF sel a cs = hiF sel (sel c) cs := by
  match cs, h with
  | d :: cs, h =>
    simp at h
    subst h
    show hiF sel (if a < sel d then sel d else a) cs = hiF sel (if sel d < sel d then sel d else sel d) cs
    have e1 : (if a < sel d then sel d else a) = sel d := by split <;> omega
    have e2 : (if sel d < sel d then sel d else sel d) = sel d := by split <;> rfl
    rw [e1, e2]
theorem lined_eq (n k : Int) : spec_gwLined.f n k = some (okLine n k) := by
  unfold spec_gwLined.f okLine
  rw [spec_in_eq, Option.bind_some]
  cases inB n 0 250 with
  | true => rw [if_pos rfl, spec_in_eq]; rfl
  | false => rw [if_neg (by decide)]; rfl
theorem spec_LineEnds_eq (n k : Int) : ∃ j, spec_LineEnds.f j n k = some (endsV n k, okEnds n k) := by
  cases ho : okLine n k with
  | false =>
    refine ⟨0, ?_⟩
    unfold spec_LineEnds.f
    rw [lined_eq, ho, Option.bind_some, if_neg (by decide), (ends0 ho).1, (ends0 ho).2]
  | true =>
    by_cases h0 : n = 0
    · refine ⟨0, ?_⟩
      unfold spec_LineEnds.f
      rw [lined_eq, ho, Option.bind_some, if_pos rfl, if_pos h0, (ends1 (k := k) h0).1, (ends1 (k := k) h0).2]
    · obtain ⟨_, _, j, hj⟩ := line_f ho
      obtain ⟨hc, _, _⟩ := line_first ho h0
      refine ⟨j, ?_⟩
      unfold spec_LineEnds.f
      rw [lined_eq, ho, Option.bind_some, if_pos rfl, if_neg h0, hj, Option.bind_some, (ends2 ho h0).1, (ends2 ho h0).2, mins_lo, maxs_hi, loF_start hc (by decide), hiF_start hc (by decide)]
def impl_LineEnds.f (n k : Int) : Option (List Int × Bool) := some (endsV n k, okEnds n k)
set_option maxHeartbeats 4000000 in
set_option maxRecDepth 100000 in
theorem impl_LineEnds.walk (n k : Int) (w : World) : Calls Try.prog 52 #[.int .i64 n, .int .i64 k] w fun e w' => ∃ v0_ : Value, e = .returned (.tuple #[v0_, .bool (okEnds n k)]) ∧ Kd.R (Kd.int .i64) 3 w' w.heap.size (fun _ => True) v0_ (endsV n k) ∧ Below w.heap.size w w' := by
  have HG := Aside0.mk (fun W => onLine_calls n k W)
  cases ho : okLine n k with
  | false =>
    rw [(ends0 ho).1, (ends0 ho).2]
    rw [ho] at HG
    clear ho
    go_enter Try.func52, Try.ntmps52
    go_wp2_with (first | (go_at_call 70; (with_reducible refine (HG.out _).mono ?_); rintro e w1 (⟨_, rfl, hB⟩ | ⟨h, _⟩); rotate_left; (exact absurd h (by decide)); have HB := Aside0.mk hB; clear hB))
    go_ret2
    exact ⟨_, rfl, Kd.R_nil _ _ _ _ _, HB.out⟩
  | true =>
    rw [ho] at HG
    by_cases h0 : n = 0
    · rw [(ends1 (k := k) h0).1, (ends1 (k := k) h0).2]
      clear ho
      subst h0
      generalize lineS 0 k = S at *
      go_enter Try.func52, Try.ntmps52
      go_wp2_with (first | (go_at_call 70; (with_reducible refine (HG.out _).mono ?_); rintro e w1 (⟨h, _⟩ | ⟨_, g, gm, N, vc, rfl, hB, hG⟩); (exact absurd h (by decide)); have HB := Aside0.mk hB; clear hB))
      go_ret2
      exact ⟨_, rfl, Kd.R_nil _ _ _ _ _, HB.out⟩
    · rw [(ends2 ho h0).1, (ends2 ho h0).2]
      obtain ⟨hc, hl, hl2⟩ := line_first ho h0
      clear ho
      generalize lineS n k = S at *
      have HQ := Aside0.mk (fun b cap W h => bounds_91 b cap S.cells (0, 0) hc hl2 W h)
      generalize loF Prod.fst 0 S.cells = lo at *
      generalize hiF Prod.fst 0 S.cells = hi at *
      go_enter Try.func52, Try.ntmps52
      go_wp2_with (first | (go_at_call 70; (with_reducible refine (HG.out _).mono ?_); rintro e w1 (⟨h, _⟩ | ⟨_, g, gm, N, vc, rfl, hB, hG⟩); (exact absurd h (by decide)); have HB := Aside0.mk hB; clear hB; obtain ⟨b, cap, rfl, hE⟩ := hG.out.cellsAt hl; have HE := Aside0.mk hE; have c1 := blk_cell hG.out.blk 1; simp at c1; clear hE) | (go_at_call 86; refine (HQ.out b cap _ HE.out).mono ?_; rintro e w2 ⟨rfl, hB2⟩; have HB2 := Aside0.mk (HB.out.trans (hB2.mono HB.out.size)); clear hB2))
      go_ret2
      have hs := HB2.out.size
      exact ⟨_, rfl, pairR hs (blk_new w2 _), HB2.out.alloc hs _⟩
theorem impl_LineEnds.calls (n k : Int) (r1 : List Int) (r2 : Bool) (w : World) (h : impl_LineEnds.f n k = some (r1, r2)) :
    Calls Try.prog 52 #[.int .i64 n, .int .i64 k] w fun e w' => ∃ v0_ : Value, e = .returned (.tuple #[v0_, .bool r2]) ∧ Kd.R (Kd.int .i64) 3 w' w.heap.size (fun _ => True) v0_ r1 ∧ Below w.heap.size w w' := by
  have e := Option.some.inj h
  injection e with e1 e2
  subst e1 e2
  exact impl_LineEnds.walk n k w
end Go.Proofs.Ytjedhjeijpbobaa.G8
