/-
  The rows of what has grown: the reference's, walked.
-/
import Derived.Test.YtjedhjeijpbobaaFh
import Derived.Test.YtjedhjeijpbobaaFi
namespace Go.Proofs.Ytjedhjeijpbobaa.G8
open Go.RowKit Go.Maps Go.Proofs.YtjedhjeijpbobaaW.PrintWords Go.Proofs.YtjedhjeijpbobaaW.PrintLast Go.Proofs.YtjedhjeijpbobaaW.PrintMore
open Go.Proofs.Ytjedhjeijpbobaa.GA
set_option linter.unusedVariables false
set_option linter.unusedSimpArgs false
def sgn (F : Fld) (x y : Int) : Int := if (F x y).isSome = true then 35 else 46
def rowN (F : Fld) (y : Int) : Nat → Int → List Int
  | 0, _ => []
  | m + 1, x => sgn F x y :: rowN F y m (x + 1)
def rowsV (F : Fld) (l : Int) (c : Nat) : Nat → Int → List ByteArray
  | 0, _ => []
  | m + 1, y => strOfNums (rowN F y c l) :: rowsV F l c m (y - 1)
theorem str_snoc (xs : List Int) (c : Int) : strOfNums (xs ++ [c]) = strOfNums xs ++ strOfNums [c] := by
  apply ByteArray.ext
  rw [ByteArray.data_append]
  simp [strOfNums]
theorem rowN_len (F : Fld) (y : Int) : ∀ (m : Nat) (x : Int), (rowN F y m x).length = m
  | 0, _ => rfl
  | m + 1, x => by simp [rowN, rowN_len F y m]
theorem rowsV_len (F : Fld) (l : Int) (c : Nat) : ∀ (m : Nat) (y : Int), (rowsV F l c m y).length = m
  | 0, _ => rfl
  | m + 1, y => by simp [rowsV, rowsV_len F l c m]
/-- The ends: the least and the greatest numbers, out of 60 and -60. -/
def eL (S : St) : Int := loF Prod.fst 60 S.cells
def eR (S : St) : Int := hiF Prod.fst (-60) S.cells
def eD (S : St) : Int := loF Prod.snd 60 S.cells
def eU (S : St) : Int := hiF Prod.snd (-60) S.cells
def shapeS (S : St) : List ByteArray := rowsV S.f (eL S) (eR S - eL S + 1).toNat (eU S - eD S + 1).toNat (eU S)
def shapeV (n k : Int) : List ByteArray := if okGrid n k = true then shapeS (gridS n k) else []
theorem shape0 {n k : Int} (h : okGrid n k = false) : shapeV n k = [] := by unfold shapeV; rw [if_neg (by rw [h]; decide)]
theorem shape1 {n k : Int} (h : okGrid n k = true) : shapeV n k = shapeS (gridS n k) := by unfold shapeV; rw [if_pos h]
theorem loF_bd (sel : Int × Int → Int) : ∀ (cs : List (Int × Int)) (a : Int), (∀ c ∈ cs, -60 ≤ sel c ∧ sel c ≤ 60) → -60 ≤ a → a ≤ 60 → -60 ≤ loF sel a cs ∧ loF sel a cs ≤ 60
  | [], a, _, h1, h2 => ⟨h1, h2⟩
  | c :: cs, a, h, h1, h2 => by
    have hc := h c (by simp)
    have e : loF sel a (c :: cs) = loF sel (if sel c < a then sel c else a) cs := rfl
    rw [e]
    exact loF_bd sel cs _ (fun d hd => h d (by simp [hd])) (by split <;> omega) (by split <;> omega)
theorem hiF_bd (sel : Int × Int → Int) : ∀ (cs : List (Int × Int)) (a : Int), (∀ c ∈ cs, -60 ≤ sel c ∧ sel c ≤ 60) → -60 ≤ a → a ≤ 60 → -60 ≤ hiF sel a cs ∧ hiF sel a cs ≤ 60
  | [], a, _, h1, h2 => ⟨h1, h2⟩
  | c :: cs, a, h, h1, h2 => by
    have hc := h c (by simp)
    have e : hiF sel a (c :: cs) = hiF sel (if a < sel c then sel c else a) cs := rfl
    rw [e]
    exact hiF_bd sel cs _ (fun d hd => h d (by simp [hd])) (by split <;> omega) (by split <;> omega)
theorem ends_bd {S : St} (h : ∀ c ∈ S.cells, -15 ≤ c.1 ∧ c.1 ≤ 15 ∧ -15 ≤ c.2 ∧ c.2 ≤ 15) : (-60 ≤ eL S ∧ eL S ≤ 60) ∧ (-60 ≤ eR S ∧ eR S ≤ 60) ∧ (-60 ≤ eD S ∧ eD S ≤ 60) ∧ (-60 ≤ eU S ∧ eU S ≤ 60) := by
  refine ⟨loF_bd _ _ _ (fun c hc => ?_) (by decide) (by decide), hiF_bd _ _ _ (fun c hc => ?_) (by decide) (by decide), loF_bd _ _ _ (fun c hc => ?_) (by decide) (by decide), hiF_bd _ _ _ (fun c hc => ?_) (by decide) (by decide)⟩ <;>
  · have := h c hc
    omega
theorem least_is {l x l1 : Int} (h : (if x < l then x else l) = l1) : spec_l1Least.f l x = some l1 := by
  rw [least_eq, ← h]
  congr 1
  split <;> split <;> omega
theorem most_is {l x l1 : Int} (h : (if l < x then x else l) = l1) : spec_l1Most.f l x = some l1 := by
  rw [most_eq, ← h]
  congr 1
  split <;> split <;> omega
theorem GwAt.any {w : World} {base f gb rb : Nat} {vc : Value} {F : Fld} {k0 : Int} {cs : List (Int × Int)} {s : Int} (h : GwAt w base f gb rb vc F k0 cs s) :
    ∃ A cap, vc = .slice A cs.length cap ∧ ∀ (i : Nat) (c : Int × Int), cs[i]? = some c → ∃ g b, A = some ⟨g, 0, none⟩ ∧ w.cell? ⟨g, i, none⟩ = some (.slice (some ⟨b, 0, none⟩) 2 2) ∧ w.cell? ⟨b, 0, none⟩ = some (.int .i64 c.1) ∧ w.cell? ⟨b, 1, none⟩ = some (.int .i64 c.2) := by
  rcases Nat.eq_zero_or_pos cs.length with h0 | h0
  · obtain ⟨L, hL, _⟩ := h.cells
    rcases hL.2 with ⟨h1, _⟩ | ⟨g, cap, cur, h1, _⟩
    · exact ⟨none, 0, by rw [h1, h0], fun i c hc => by rw [List.eq_nil_of_length_eq_zero h0] at hc; simp at hc⟩
    · exact ⟨some ⟨g, 0, none⟩, cap, h1, fun i c hc => by rw [List.eq_nil_of_length_eq_zero h0] at hc; simp at hc⟩
  · obtain ⟨g, cap, h1, hE⟩ := h.form h0
    refine ⟨some ⟨g, 0, none⟩, cap, h1, fun i c hc => ?_⟩
    obtain ⟨b, q1, q2, q3⟩ := hE i c hc
    exact ⟨g, b, rfl, q1, (blk_cell q3 0).trans (by simp), (blk_cell q3 1).trans (by simp)⟩
def spec_ShapeRows.f (n k : Int) : Option (List ByteArray × Bool) := some (shapeV n k, okGrid n k)
theorem infoS : (Try.prog.info? 9).map (fun i => (i.zero, i.size, i.bytes)) = some (some (.string ⟨#[]⟩), 1, 16) := by kernel_rfl
set_option maxHeartbeats 4000000 in
set_option maxRecDepth 100000 in
theorem spec_ShapeRows.walk (n k : Int) (w : World) : Calls Try.prog 42 #[.int .i64 n, .int .i64 k] w fun e w' => ∃ v0_ : Value, e = .returned (.tuple #[v0_, .bool (okGrid n k)]) ∧ Kd.R Kd.string 9 w' w.heap.size (fun _ => True) v0_ (shapeV n k) ∧ Below w.heap.size w w' := by
  have HA := Aside0.mk (fun W => spec_gwAsked.calls n k _ W (asked_eq n k))
  cases ho : okGrid n k with
  | false =>
    rw [shape0 ho]
    rw [ho] at HA
    clear ho
    go_enter Try.func42, Try.ntmps42
    go_wp2_with (first | (go_at_call 65; (with_reducible refine (HA.out _).mono ?_); rintro e w1 ⟨rfl, ⟨nd, rfl⟩⟩))
    go_ret2
    exact ⟨_, rfl, Kd.R_nil _ _ _ _ _, by repeat (first | exact Below.refl _ _ | apply pw_below_drewN)⟩
  | true =>
    rw [shape1 ho]
    have HG := Aside0.mk (fun W => go_any ho W)
    have hbox := Aside0.mk (grid_kept ho).1.box
    have hl : (gridS n k).cells.length ≤ 1000 := by
      have h1 := (grid_kept ho).2.1
      obtain ⟨m, rfl, hm, _⟩ := grid_is ho
      omega
    rw [ho] at HA
    clear ho
    generalize gridS n k = S at *
    obtain ⟨bL, bR, bD, bU⟩ := ends_bd hbox.out
    obtain ⟨rows, hrows⟩ : ∃ rows, shapeS S = rows := ⟨_, rfl⟩
    rw [hrows]
    have hLe : loF Prod.fst 60 S.cells = eL S := rfl
    have hRe : hiF Prod.fst (-60) S.cells = eR S := rfl
    have hDe : loF Prod.snd 60 S.cells = eD S := rfl
    have hUe : hiF Prod.snd (-60) S.cells = eU S := rfl
    unfold shapeS at hrows
    generalize eL S = L at *
    generalize eR S = R at *
    generalize eD S = D at *
    generalize eU S = U at *
    have HE : Aside0 (loF Prod.fst 60 S.cells = L ∧ hiF Prod.fst (-60) S.cells = R ∧ loF Prod.snd 60 S.cells = D ∧ hiF Prod.snd (-60) S.cells = U) := ⟨hLe, hRe, hDe, hUe⟩
    clear hLe hRe hDe hUe
    replace hrows := Aside0.mk hrows
    go_enter Try.func42, Try.ntmps42
    go_wp2_with (first | (go_at_call 65; (with_reducible refine (HA.out _).mono ?_); rintro e w1 ⟨rfl, ⟨nd, rfl⟩⟩) | (go_at_call 66; (with_reducible refine (HG.out _).mono ?_); rintro e w1 ⟨f, gb, rb, vc, rfl, hB, hG⟩; have HB := Aside0.mk (below_then (by repeat (first | exact Below.refl _ _ | apply pw_below_drewN)) (by simp) hB : Below w.heap.size w w1); clear hB; obtain ⟨A, cap, rfl, hE⟩ := hG.out.any; have HE2 := Aside0.mk hE; clear hE; have c2 := blk_cell hG.out.blk 2; simp at c2))
    go_loopg [7, 8, 9, 10, 29] S.cells.length (fun m v7 v8 v9 v10 v29 wr => ∃ (i : Nat) (l r d u : Int), v7 = .int .i64 l ∧ v8 = .int .i64 r ∧ v9 = .int .i64 d ∧ v10 = .int .i64 u ∧ v29 = .int .i64 (i : Int) ∧ Aside0 (i + m = S.cells.length) ∧ Aside0 (loF Prod.fst l (S.cells.drop i) = L ∧ hiF Prod.fst r (S.cells.drop i) = R ∧ loF Prod.snd d (S.cells.drop i) = D ∧ hiF Prod.snd u (S.cells.drop i) = U) ∧ Aside0 (∃ nn, wr = w1.drewN nn))
    case atStart => exact ⟨0, 60, -60, 60, -60, rfl, rfl, rfl, rfl, rfl, ⟨by omega⟩, HE, ⟨0, rfl⟩⟩
    case round =>
      clear HE
      obtain ⟨i, l, r, d, u, rfl, rfl, rfl, rfl, rfl, HI, HF, HW⟩ := hrel
      have hce : ∀ p, wr.cell? p = w1.cell? p := fun p => by obtain ⟨nn, e⟩ := HW.out; rw [e]; simp
      cases gk with
      | zero =>
        have hii : ¬ ((i : Int) < (S.cells.length : Int)) := by have := HI.out; omega
        have ht : l = L ∧ r = R ∧ d = D ∧ u = U := by
          have := HF.out
          rw [List.drop_eq_nil_of_le (by have := HI.out; omega)] at this
          exact this
        obtain ⟨h1, h2, h3, h4⟩ := ht
        replace h1 := h1.symm
        replace h2 := h2.symm
        replace h3 := h3.symm
        replace h4 := h4.symm
        subst h1
        subst h2
        subst h3
        subst h4
        have HBB : Aside0 (Below w1.heap.size w1 wr) := by obtain ⟨nn, e⟩ := HW.out; exact ⟨by rw [e]; exact pw_below_drewN (Below.refl _ _) nn⟩
        clear HF HI HW hce c2 HE2
        go_wp2_with (fail)
        go_loopg [13, 14] (U - D + 1).toNat (fun m v13 v14 wr => ∃ (vo : Value) (outL : List ByteArray) (y : Int), v13 = vo ∧ v14 = .int .i64 y ∧ Aside0 (m = (y - D + 1).toNat ∧ y ≤ 60) ∧ Aside0 (outL ++ rowsV S.f L (R - L + 1).toNat m y = rows) ∧ Aside0 (outL.length + m ≤ 121) ∧ Aside0 (Kd.R Kd.string 9 wr w1.heap.size (fun _ => True) vo outL) ∧ Aside0 (Below w1.heap.size w1 wr))
        case atStart => exact ⟨_, [], U, rfl, rfl, ⟨rfl, bU.2⟩, hrows, ⟨by simp; omega⟩, ⟨Kd.R_nil _ _ _ _ _⟩, HBB⟩
        case round =>
          clear hrows HBB
          obtain ⟨vo, outL, y, hvo, rfl, HI, HV, HL, HO, HBB⟩ := hrel
          replace hvo := hvo.symm
          subst hvo
          cases gk with
          | zero =>
            have hj : ¬ (D ≤ y) := by have := HI.out; omega
            have hv : Aside0 (outL = rows) := ⟨by have := HV.out; simpa [rowsV] using this⟩
            clear HV HI
            go_wp2_with (fail)
            go_ret2
            exact ⟨_, rfl, by rw [← hv.out]; exact Kd.R_lower HO.out HB.out.size, HB.out.trans (HBB.out.mono HB.out.size)⟩
          | succ m =>
            have hj : D ≤ y := by have := HI.out; omega
            have HV0 : Aside0 (outL ++ strOfNums (rowN S.f y (R - L + 1).toNat L) :: rowsV S.f L (R - L + 1).toNat m (y - 1) = rows) := ⟨HV.out⟩
            obtain ⟨tot, htot⟩ : ∃ tot, tot = rowN S.f y (R - L + 1).toNat L := ⟨_, rfl⟩
            rw [← htot] at HV0
            have htl : tot.length ≤ 121 := by rw [htot, rowN_len]; omega
            clear HV
            go_wp2_with (fail)
            obtain ⟨Wo, hWo⟩ : ∃ W, W = wr := ⟨wr, rfl⟩
            subst hWo
            go_loopg [15, 16] (R - L + 1).toNat (fun q v15 v16 wq => ∃ (pre : List Int) (x : Int) (sx : ByteArray), v15 = .string sx ∧ v16 = .int .i64 x ∧ Aside0 (sx = strOfNums pre) ∧ Aside0 (q = (R - x + 1).toNat ∧ L ≤ x) ∧ Aside0 (pre ++ rowN S.f y q x = tot) ∧ Aside0 (Kd.R Kd.string 9 wq w1.heap.size (fun _ => True) vo outL) ∧ Aside0 (Below w1.heap.size w1 wq))
            case atStart => exact ⟨[], L, _, rfl, rfl, ⟨rfl⟩, ⟨rfl, Int.le_refl _⟩, ⟨by rw [List.nil_append]; exact htot.symm⟩, HO, HBB⟩
            case round =>
              clear HO HBB htot
              obtain ⟨pre, x, sx, rfl, rfl, HX, HJ, HP, HO, HBB⟩ := hrel
              cases gk with
              | zero =>
                have hk : ¬ (x ≤ R) := by have := HJ.out; omega
                have hpre : pre = tot := by have := HP.out; simpa [rowN] using this
                rw [hpre] at HX
                have hwy := wrap_id (x := y - 1) (by omega) (by have := HI.out; omega)
                have hbs := HBB.out.size
                have hlim := HL.out
                clear HP hpre HJ
                go_wp2_with (first | ((with_reducible refine gate_builtin (b := .append) (xs := #[.tmp 79, .tmp 81]) rfl ?_); at_builtin; refine Kd.R_append Kd.string (w0 := w1) w1.heap.size rfl (.tmp 79) (.tmp 81) 43 9 (.string ⟨#[]⟩) 16 rfl Try.underlying43 infoS rfl (by decide) (by omega) vo outL sx [.string sx] (fun _ => True) (fun _ => False) rfl rfl rfl (fun _ hk => hk.elim) (fun _ _ => trivial) HO.out HBB.out hbs (by omega) ?_; intro v99 w9 ho hb hg hat; have HO9 := Aside0.mk ho; have HB9 := Aside0.mk hb; clear ho hb hg hat))
                (try simp only [hwy])
                go_roundg m
                case measure => omega
                case rel => exact ⟨v99, outL ++ [sx], y - 1, rfl, rfl, ⟨by have := HI.out; omega⟩, ⟨by rw [HX.out, List.append_assoc]; exact HV0.out⟩, ⟨by rw [List.length_append, List.length_singleton]; omega⟩, HO9, HB9⟩
              | succ q =>
                have hk : x ≤ R := by have := HJ.out; omega
                have hjb := HJ.out
                have bx : Box x := ⟨by omega, by omega⟩
                have byy : Box y := ⟨by omega, by have := HI.out; omega⟩
                have hgg := hG.out.below HBB.out
                obtain ⟨cg, fg⟩ := hgg.gro_at bx byy
                have c0 := blk_cell hgg.blk 0
                simp at c0
                have HT := Aside0.mk (at_quiet bx byy)
                have hplt := atN_lt bx byy
                obtain ⟨p, hp⟩ : ∃ p, p = atN x y := ⟨_, rfl⟩
                rw [← hp] at HT hplt cg
                have hpi : (p : Int) < 14641 := by omega
                have hw := wrap_id (x := x + 1) (by omega) (by omega)
                have hP1 : (pre ++ [sgn S.f x y]) ++ rowN S.f y q (x + 1) = tot := by have := HP.out; rw [List.append_assoc]; exact this
                have hz1 : sx.size ≤ 121 := by
                  rw [HX.out, strOfNums_size]
                  have h1 := congrArg List.length hP1
                  rw [List.length_append, List.length_append] at h1
                  omega
                have hz : (9223372036854775807 < sx.size + 1) = False := eq_false (by omega)
                clear hp bx byy hplt HP hgg fg hjb hz1
                cases hF : S.f x y with
                | some r =>
                  have hs : sgn S.f x y = 35 := by unfold sgn; rw [hF]; rfl
                  rw [hs] at hP1
                  rw [hF] at cg
                  simp at cg
                  have HX2 : Aside0 (sx ++ ⟨#[35]⟩ = strOfNums (pre ++ [35])) := ⟨by rw [str_snoc, ← HX.out]; rfl⟩
                  replace hP1 := Aside0.mk hP1
                  clear hs HX
                  go_upto_region 21 with (fail)
                  go_quiet ((go_at_call 73; exact Calls.quiet_of (HT.out _)))
                  go_wp2_with (fail)
                  (try simp only [hw])
                  go_roundg q
                  case measure => omega
                  case rel => exact ⟨pre ++ [35], x + 1, _, rfl, rfl, HX2, ⟨by have := HJ.out; omega⟩, hP1, ⟨Kd.R_drewN HO.out nq⟩, ⟨pw_below_drewN HBB.out nq⟩⟩
                | none =>
                  have hs : sgn S.f x y = 46 := by unfold sgn; rw [hF]; rfl
                  rw [hs] at hP1
                  rw [hF] at cg
                  simp at cg
                  have HX2 : Aside0 (sx ++ ⟨#[46]⟩ = strOfNums (pre ++ [46])) := ⟨by rw [str_snoc, ← HX.out]; rfl⟩
                  replace hP1 := Aside0.mk hP1
                  clear hs HX
                  go_upto_region 21 with (fail)
                  go_quiet ((go_at_call 73; exact Calls.quiet_of (HT.out _)))
                  go_wp2_with (fail)
                  (try simp only [hw])
                  go_roundg q
                  case measure => omega
                  case rel => exact ⟨pre ++ [46], x + 1, _, rfl, rfl, HX2, ⟨by have := HJ.out; omega⟩, hP1, ⟨Kd.R_drewN HO.out nq⟩, ⟨pw_below_drewN HBB.out nq⟩⟩
      | succ m =>
        have hin : i < S.cells.length := by have := HI.out; omega
        have hii : (i : Int) < (S.cells.length : Int) := by omega
        obtain ⟨c, hc⟩ : ∃ c, c = S.cells[i] := ⟨_, rfl⟩
        obtain ⟨g, b, rfl, q1, q2, q3⟩ := HE2.out i c (by rw [hc]; exact List.getElem?_eq_getElem hin)
        rw [← hce] at q1 q2 q3
        obtain ⟨l1, e1⟩ : ∃ l1, (if c.1 < l then c.1 else l) = l1 := ⟨_, rfl⟩
        obtain ⟨r1, e2⟩ : ∃ r1, (if r < c.1 then c.1 else r) = r1 := ⟨_, rfl⟩
        obtain ⟨d1, e3⟩ : ∃ d1, (if c.2 < d then c.2 else d) = d1 := ⟨_, rfl⟩
        obtain ⟨u1, e4⟩ : ∃ u1, (if u < c.2 then c.2 else u) = u1 := ⟨_, rfl⟩
        have HN : Aside0 (loF Prod.fst l1 (S.cells.drop (i + 1)) = L ∧ hiF Prod.fst r1 (S.cells.drop (i + 1)) = R ∧ loF Prod.snd d1 (S.cells.drop (i + 1)) = D ∧ hiF Prod.snd u1 (S.cells.drop (i + 1)) = U) := by
          have := HF.out
          rw [List.drop_eq_getElem_cons hin, ← hc] at this
          rw [← e1, ← e2, ← e3, ← e4]
          exact ⟨this⟩
        have H1 := Aside0.mk (fun W => spec_l1Least.calls l c.1 l1 W (least_is e1))
        have H2 := Aside0.mk (fun W => spec_l1Most.calls r c.1 r1 W (most_is e2))
        have H3 := Aside0.mk (fun W => spec_l1Least.calls d c.2 d1 W (least_is e3))
        have H4 := Aside0.mk (fun W => spec_l1Most.calls u c.2 u1 W (most_is e4))
        have hw := wrap_id (x := (i : Int) + 1) (by omega) (by omega)
        clear HF hce hc e1 e2 e3 e4 HE2
        go_wp2_with (first | (go_at_call 77; (with_reducible refine (H1.out _).mono ?_); rintro e w9 ⟨rfl, ⟨nd1, rfl⟩⟩) | (go_at_call 75; (with_reducible refine (H2.out _).mono ?_); rintro e w9 ⟨rfl, ⟨nd2, rfl⟩⟩) | (go_at_call 77; (with_reducible refine (H3.out _).mono ?_); rintro e w9 ⟨rfl, ⟨nd3, rfl⟩⟩) | (go_at_call 75; (with_reducible refine (H4.out _).mono ?_); rintro e w9 ⟨rfl, ⟨nd4, rfl⟩⟩))
        (try simp only [hw])
        go_roundg m
        case measure => omega
        case rel => exact ⟨i + 1, l1, r1, d1, u1, rfl, rfl, rfl, rfl, by first | rfl | go_num, ⟨by have := HI.out; omega⟩, HN, ⟨by obtain ⟨nn, e⟩ := HW.out; exact ⟨nn + (nd1 + nd2 + nd3 + nd4), by rw [e]; simp [World.drewN_drewN, Nat.add_assoc]⟩⟩⟩
end Go.Proofs.Ytjedhjeijpbobaa.G8
