/-
  The greatest square of a heap's cell: of both sides, walked.
-/
import Derived.Test.YtjedhjeijpbobaaHy
import Derived.Test.YtjedhjeijpbobaaHu
namespace Go.Proofs.Ytjedhjeijpbobaa.G8
open Go.RowKit Go.Maps Go.Proofs.YtjedhjeijpbobaaW.PrintWords Go.Proofs.YtjedhjeijpbobaaW.PrintLast Go.Proofs.YtjedhjeijpbobaaW.PrintMore
open Go.Proofs.Ytjedhjeijpbobaa.GA
set_option linter.unusedVariables false
set_option linter.unusedSimpArgs false
theorem greatest_l1 (cs : List (Int × Int)) (hl : cs.length ≤ 100000) (hb : ∀ c ∈ cs, -15 ≤ c.1 ∧ c.1 ≤ 15 ∧ -15 ≤ c.2 ∧ c.2 ≤ 15) : ∀ (m i : Nat) (a : Int), i + m = cs.length → impl_greatest.l0 (m + 1) a (cs.map toS) (cs.length : Int) (i : Int) = some (sqF a (cs.drop i)) := by
  intro m
  induction m with
  | zero =>
    intro i a h
    simp only [impl_greatest.l0]
    rw [if_neg (by omega), List.drop_eq_nil_of_le (by omega)]
    rfl
  | succ m ih =>
    intro i a h
    unfold impl_greatest.l0
    have hi : i < cs.length := by omega
    rw [if_pos (by omega), if_pos (by omega), if_pos (by rw [List.length_map]; omega)]
    have e : rd_T76 (cs.map toS) (i : Int) = toS cs[i] := by
      unfold rd_T76
      rw [Int.toNat_natCast, List.getD_eq_getElem?_getD, List.getElem?_map, List.getElem?_eq_getElem hi]
      rfl
    obtain ⟨h1, h2, h3, h4, h5⟩ := sq_box (hb _ (List.getElem_mem hi))
    have e2 : impl_cell_square.f (toS cs[i]).f0 (toS cs[i]).f1 = some (sq cs[i]) := by
      unfold impl_cell_square.f toS
      simp only
      rw [h1, h2, h3]
    rw [e, e2, Option.bind_some, wrap_id (x := (i : Int) + 1) (by omega) (by omega)]
    have := ih (i + 1) (mx a (sq cs[i])) (by omega)
    rw [show ((i + 1 : Nat) : Int) = (i : Int) + 1 by omega] at this
    rw [this, List.drop_eq_getElem_cons hi]
    have e3 : mx a (sq cs[i]) = if a > sq cs[i] then a else sq cs[i] := by
      unfold mx
      by_cases q : a < sq cs[i]
      · rw [if_pos q, if_neg (by omega)]
      · by_cases q2 : a > sq cs[i]
        · rw [if_neg q, if_pos q2]
        · rw [if_neg q, if_neg q2]; omega
    rw [e3]
    rfl
theorem greatest_many {cs : List (Int × Int)} (hl : cs.length ≤ 100000) (hb : ∀ c ∈ cs, -15 ≤ c.1 ∧ c.1 ≤ 15 ∧ -15 ≤ c.2 ∧ c.2 ≤ 15) (W : World) (A : Option Addr) (n c : Nat) (hn : n = cs.length) (hc : n ≤ c) (h : Kd.C k76 W A n (cs.map toS)) : Calls Try.prog 76 #[.slice A n c] W fun e w' => e = .returned (.int .i64 (sqF 0 cs)) ∧ Below W.heap.size W w' := by
  have e : n = (cs.map toS).length := by rw [List.length_map]; exact hn
  subst e
  refine impl_greatest.calls (cs.length + 1) A c (cs.map toS) _ W h hc ?_
  unfold impl_greatest.f
  rw [List.length_map]
  exact greatest_l1 cs hl hb cs.length 0 0 (by omega)
theorem cells_reads {w : World} {base : Nat} {vc : Value} {cs : List (Int × Int)} (h : w.ownsRow base 76 2 vc cs.length (flat cs)) : ∃ A c, vc = .slice A cs.length c ∧ cs.length ≤ c ∧ Kd.C k76 w A cs.length (cs.map toS) := by
  obtain ⟨A, c, he, hr⟩ := own_reads_row h (reps_flat w cs) (by simp)
  refine ⟨A, c, he, ?_, hr⟩
  rcases h.2 with ⟨h1, h2⟩ | ⟨g, cap, cur, h1, _, _, h3, _⟩
  · rw [h1] at he
    injection he with _ e2 e3
    omega
  · rw [h1] at he
    injection he with _ e2 e3
    omega
/-- The heap's cells, as the program lists them: the same cells as the reference's. -/
theorem same_cells {n : Int} (hn : 1 ≤ n ∧ n ≤ 250) {u : Odo} {M : Fld} (hV : HInv n u M) (hs : ∀ a b, hp n u a b ≤ 3) {cs : List (Int × Int)} (hw : ∀ c ∈ cs, wfI c.1 ∧ wfI c.2) (hm : ∀ x y, wfI x → wfI y → ((x, y) ∈ cs ↔ (M x y).isSome = true)) : (∀ c, c ∈ cs ↔ c ∈ heapCs n) ∧ ∀ c ∈ cs, -15 ≤ c.1 ∧ c.1 ≤ 15 ∧ -15 ≤ c.2 ∧ c.2 ≤ 15 := by
  have h0 : 0 ≤ n ∧ n ≤ 250 := by omega
  have hu := heapU_is h0 hV.legal hs
  have hiff : ∀ a b, (M a b).isSome = true ↔ hot n u a b := fun a b => by rw [hV.has, key_iff hV.legal h0.1 hV.nn]; rfl
  have h1 : ∀ c, c ∈ cs ↔ c ∈ heapCs n := fun c => by
    rw [show c = (c.1, c.2) from rfl, mem_heapCs h0, ← hu, ← hiff]
    constructor
    · intro k
      exact (hm c.1 c.2 (hw c k).1 (hw c k).2).1 k
    · intro k
      have := hot_near hV.legal h0.2 ((hiff c.1 c.2).1 k)
      exact (hm c.1 c.2 (i64_ok (by omega) (by omega)) (i64_ok (by omega) (by omega))).2 k
  refine ⟨h1, fun c hc => ?_⟩
  have := hot_near (heapU_ok h0).1 h0.2 ((mem_heapCs h0 c.1 c.2).1 ((h1 c).1 hc))
  omega
theorem iin_bad {n : Int} (h : ¬ (1 ≤ n ∧ n ≤ 250)) : impl_in.f n 1 250 = some false := by
  unfold impl_in.f
  by_cases q : 1 ≤ n
  · rw [if_pos q, decide_eq_false (by omega)]
  · rw [if_neg q]
theorem iin_good {n : Int} (h : 1 ≤ n ∧ n ≤ 250) : impl_in.f n 1 250 = some true := by
  unfold impl_in.f
  rw [if_pos h.1, decide_eq_true h.2]
def impl_HeapSquare.f (n : Int) : Option (Int × Bool) := some (heapV n, okHeap n)
def spec_HeapSquare.f (n : Int) : Option (Int × Bool) := some (heapV n, okHeap n)
set_option maxHeartbeats 4000000 in
set_option maxRecDepth 100000 in
theorem impl_HeapSquare.walk (n : Int) (w : World) : Calls Try.prog 36 #[.int .i64 n] w fun e w' => e = .returned (.tuple #[.int .i64 (heapV n), .bool (okHeap n)]) ∧ Below w.heap.size w w' := by
  by_cases hn : 1 ≤ n ∧ n ≤ 250
  · have hv : heapV n = sqF 0 (heapCs n) ∧ okHeap n = true := ⟨if_pos hn, decide_eq_true hn⟩
    rw [hv.1, hv.2]
    have HA := Aside0.mk (fun W => impl_in.calls n 1 250 true W (iin_good hn))
    have HH := Aside0.mk (fun W => heapOf_calls n hn W)
    clear hv
    go_enter Try.func36, Try.ntmps36
    go_wp2_with (first | (go_at_call 79; (with_reducible refine (HA.out _).mono ?_); rintro e w1 ⟨rfl, ⟨nd, rfl⟩⟩) | (go_at_call 81; (with_reducible refine (HH.out _).mono ?_); rintro e w2 ⟨gm, N, u, M, rfl, hB, hM, hV, hS, hg, hN⟩) | (go_at_call 80; refine (cellsOf_calls gm N M _ hM.out hN).mono ?_; rintro e w3 ⟨vc, cs, rfl, hB3, hO, hl, hnd, hw, hm⟩; obtain ⟨sm, hbx⟩ := same_cells hn hV.out hS.out hw hm; obtain ⟨A, c, hvc, hc, hC⟩ := cells_reads hO.out; subst hvc) | (go_at_call 76; refine (greatest_many hl hbx _ _ _ _ rfl hc hC).mono ?_; rintro e w4 ⟨rfl, hB4⟩))
    go_ret2
    exact ⟨by rw [sqF_same 0 sm]; rfl, below_then (below_then (below_then (pw_below_drewN (Below.refl w.heap.size w) nd) (by simp) hB) (by have := hB.size; simpa using this) hB3) (by have h1 := hB.size; have h2 := hB3.size; simp at h1 h2 ⊢; omega) hB4⟩
  · have hv : heapV n = 0 ∧ okHeap n = false := ⟨if_neg hn, decide_eq_false hn⟩
    rw [hv.1, hv.2]
    have HA := Aside0.mk (fun W => impl_in.calls n 1 250 false W (iin_bad hn))
    clear hv
    go_enter Try.func36, Try.ntmps36
    go_wp2_with (first | (go_at_call 79; (with_reducible refine (HA.out _).mono ?_); rintro e w1 ⟨rfl, ⟨nd, rfl⟩⟩))
    go_ret2
    exact ⟨rfl, by repeat (first | exact Below.refl _ _ | apply pw_below_drewN)⟩
theorem hot_mid {n : Int} (hn : 1 ≤ n ∧ n ≤ 250) : (0, 0) ∈ heapCs n := by
  have h0 : 0 ≤ n ∧ n ≤ 250 := by omega
  rw [mem_heapCs h0]
  exact (key_iff (heapU_ok h0).1 h0.1 (fun a b => ((heapU_ok h0).2 a b).1) 0 0).1 (.inl ⟨rfl, rfl, by omega⟩)
theorem hrows_at {n : Int} {u : Odo} {cs : List (Int × Int)} {i : Nat} {c : Int × Int} (h : cs[i]? = some c) : (hrows n u cs)[i]? = some [c.1, c.2, hp n u c.1 c.2] := by unfold hrows; rw [List.getElem?_map, h]; rfl
/-- Rows of cells, read. -/
theorem hrows_form {w : World} {base : Nat} {vc : Value} {n : Int} {u : Odo} {cs : List (Int × Int)} (h : RowsAt w base vc (hrows n u cs)) (hp0 : 0 < cs.length) : ∃ g cap, vc = .slice (some ⟨g, 0, none⟩) cs.length cap ∧ ∀ (i : Nat) (c : Int × Int), cs[i]? = some c → ∃ b, w.cell? ⟨g, i, none⟩ = some (.slice (some ⟨b, 0, none⟩) 3 3) ∧ w.cell? ⟨b, 0, none⟩ = some (.int .i64 c.1) ∧ w.cell? ⟨b, 1, none⟩ = some (.int .i64 c.2) := by
  obtain ⟨g, cap, h1, h2⟩ := h.form (by rw [hrows_len]; exact hp0)
  rw [hrows_len] at h1
  refine ⟨g, cap, h1, fun i c hc => ?_⟩
  obtain ⟨b, q1, q2, q3⟩ := h2 i _ (hrows_at hc)
  exact ⟨b, q1, (blk_cell q3 0).trans rfl, (blk_cell q3 1).trans rfl⟩
theorem cs_near {n : Int} (hn : 0 ≤ n ∧ n ≤ 250) : ∀ c ∈ heapCs n, -15 ≤ c.1 ∧ c.1 ≤ 15 ∧ -15 ≤ c.2 ∧ c.2 ≤ 15 := fun c hc => by
  have := hot_near (heapU_ok hn).1 hn.2 ((mem_heapCs hn c.1 c.2).1 hc)
  omega
theorem cs_few {n : Int} (hn : 0 ≤ n ∧ n ≤ 250) {cs : List (Int × Int)} {u : Odo} (h : HList n u 61 (-60) cs) : cs.length ≤ 100000 := by
  have := h.few
  omega
theorem zero_cells {w : World} {base : Nat} {vc : Value} {u : Odo} {cs : List (Int × Int)} (hR : RowsAt w base vc (hrows 0 u cs)) (hL : Legal 0 u) (hS : ∀ a b, 0 ≤ hp 0 u a b ∧ hp 0 u a b ≤ 3) (hC : HList 0 u 61 (-60) cs) : ∃ A cap, vc = .slice A 0 cap := by
  have hn : (0 : Int) ≤ 0 ∧ (0 : Int) ≤ 250 := by omega
  have hu := heapU_is hn hL (fun a b => (hS a b).2)
  subst hu
  have h1 := hC.eq hn
  rw [heap_none] at h1
  subst h1
  obtain ⟨A, cap, h, _⟩ := hR.reads
  exact ⟨A, cap, h⟩
theorem many_cells {w : World} {base : Nat} {vc : Value} {n : Int} (hn : 0 ≤ n ∧ n ≤ 250) {u : Odo} {cs S : List (Int × Int)} (hSn : S = heapCs n) (hp0 : 0 < S.length) (hR : RowsAt w base vc (hrows n u cs)) (hL : Legal n u) (hS : ∀ a b, 0 ≤ hp n u a b ∧ hp n u a b ≤ 3) (hC : HList n u 61 (-60) cs) :
    S.length ≤ 100000 ∧ ∃ g cap, vc = .slice (some ⟨g, 0, none⟩) S.length cap ∧ ∀ (i : Nat) (c : Int × Int), S[i]? = some c → ∃ b, w.cell? ⟨g, i, none⟩ = some (.slice (some ⟨b, 0, none⟩) 3 3) ∧ w.cell? ⟨b, 0, none⟩ = some (.int .i64 c.1) ∧ w.cell? ⟨b, 1, none⟩ = some (.int .i64 c.2) := by
  have hu := heapU_is hn hL (fun a b => (hS a b).2)
  subst hu
  have h1 := hC.eq hn
  rw [← hSn] at h1
  subst h1
  exact ⟨cs_few hn hC, hrows_form hR hp0⟩
set_option maxHeartbeats 4000000 in
set_option maxRecDepth 100000 in
theorem spec_HeapSquare.walk (n : Int) (w : World) : Calls Try.prog 35 #[.int .i64 n] w fun e w' => e = .returned (.tuple #[.int .i64 (heapV n), .bool (okHeap n)]) ∧ Below w.heap.size w w' := by
  by_cases hn : 0 ≤ n ∧ n ≤ 250
  · have HA := Aside0.mk (fun W => heapCells_calls n hn W)
    by_cases h0 : n = 0
    · have hv : heapV n = 0 ∧ okHeap n = false := ⟨if_neg (by omega), decide_eq_false (by omega)⟩
      rw [hv.1, hv.2]
      clear hv
      subst h0
      go_enter Try.func35, Try.ntmps35
      go_wp2_with (first | (go_at_call 61; (with_reducible refine (HA.out _).mono ?_); rintro e w1 ⟨vc, cs, u, rfl, hB, hR, hL, hS, hC⟩; obtain ⟨A, cap, hvc⟩ := zero_cells hR.out hL.out hS.out hC.out; subst hvc; have HB := Aside0.mk hB; clear hB hR hL hS hC))
      go_loopg [6, 16] 0 (fun m v6 v16 wr => v6 = .int .i64 0 ∧ v16 = .int .i64 0 ∧ Aside0 (Below w.heap.size w wr))
      case atStart => exact ⟨rfl, rfl, HB⟩
      case round =>
        obtain ⟨rfl, rfl, HBr⟩ := hrel
        go_wp2_with (fail)
        go_ret2
        exact ⟨by first | rfl | trivial, HBr.out⟩
    · have hv : heapV n = sqF 0 (heapCs n) ∧ okHeap n = true := ⟨if_pos (by omega), decide_eq_true (by omega)⟩
      rw [hv.1, hv.2]
      clear hv
      have hn1 : n > 0 := by omega
      obtain ⟨S, hSn⟩ : ∃ S, S = heapCs n := ⟨_, rfl⟩
      have hpos : 0 < S.length := by rw [hSn]; exact List.length_pos_of_mem (hot_mid (by omega))
      have hb : Aside0 (∀ c ∈ S, -15 ≤ c.1 ∧ c.1 ≤ 15 ∧ -15 ≤ c.2 ∧ c.2 ≤ 15) := ⟨by rw [hSn]; exact cs_near hn⟩
      rw [← hSn]
      replace hSn := Aside0.mk hSn
      go_enter Try.func35, Try.ntmps35
      go_upto_region 2 with (first | (go_at_call 61; (with_reducible refine (HA.out _).mono ?_); rintro e w1 ⟨vc, cs, u, rfl, hB, hR, hL, hS, hC⟩; obtain ⟨hlen, g, cap, hvc, hE⟩ := many_cells hn hSn.out hpos hR.out hL.out hS.out hC.out; subst hvc; have HB := Aside0.mk hB; have HE := Aside0.mk hE; clear hB hR hL hS hC hE))
      go_wp2_with (fail)
      go_loopg [6, 16] S.length (fun m v6 v24 wr => ∃ (i : Nat) (a : Int), v6 = .int .i64 a ∧ v24 = .int .i64 (i : Int) ∧ Aside0 (i + m = S.length) ∧ Aside0 (sqF a (S.drop i) = sqF 0 S) ∧ Aside0 (∃ nn, wr = w1.drewN nn))
      case atStart => exact ⟨0, 0, rfl, rfl, ⟨by omega⟩, ⟨rfl⟩, ⟨0, rfl⟩⟩
      case round =>
        obtain ⟨i, a, rfl, rfl, HI, HF, HW⟩ := hrel
        have hce : ∀ p, wr.cell? p = w1.cell? p := fun p => by obtain ⟨nn, e⟩ := HW.out; rw [e]; simp
        have hbe : ∀ W, Below w.heap.size W w1 → Below w.heap.size W wr := fun W h => by obtain ⟨nn, e⟩ := HW.out; rw [e]; exact pw_below_drewN h nn
        cases gk with
        | zero =>
          have hi : ¬ ((i : Int) < (S.length : Int)) := by have := HI.out; omega
          have ht : a = sqF 0 S := by
            have := HF.out
            rw [List.drop_eq_nil_of_le (by have := HI.out; omega)] at this
            exact this
          replace ht := Aside0.mk ht
          replace hbe := Aside0.mk hbe
          clear HF HI hce
          go_wp2_with (fail)
          go_ret2
          exact ⟨by first | rfl | (rw [ht.out]; rfl), hbe.out _ (below_then (by repeat (first | exact Below.refl _ _ | apply pw_below_drewN)) (by simp) HB.out)⟩
        | succ m =>
          have hin : i < S.length := by have := HI.out; omega
          have hi : (i : Int) < (S.length : Int) := by omega
          obtain ⟨c, hc⟩ : ∃ c, c = S[i] := ⟨_, rfl⟩
          have hcm : c ∈ S := by rw [hc]; exact List.getElem_mem hin
          obtain ⟨b, q1, q4, q5⟩ := HE.out i c (by rw [hc]; exact List.getElem?_eq_getElem hin)
          rw [← hce] at q1 q4 q5
          clear hce hbe
          obtain ⟨s1, s2, s3, s4, s5⟩ := sq_box (hb.out c hcm)
          have HM := Aside0.mk (most_quiet a c (hb.out c hcm))
          have hnx : sqF (if a > sq c then a else sq c) (S.drop (i + 1)) = sqF 0 S := by
            have := HF.out
            rw [List.drop_eq_getElem_cons hin, ← hc] at this
            exact this
          generalize (if a > sq c then a else sq c) = t at HM hnx
          have HX := Aside0.mk hnx
          have hw := wrap_id (x := (i : Int) + 1) (by omega) (by omega)
          clear HF hnx hcm hc s1 s2 s3 s4 s5
          go_upto_region 7 with (fail)
          go_quiet ((go_at_call 75; exact Calls.quiet_of (HM.out _)))
          go_wp2_with (fail)
          go_roundg m
          case measure => omega
          case rel => exact ⟨i + 1, _, by first | rfl | trivial, by first | rfl | go_num, ⟨by have := HI.out; omega⟩, HX, ⟨by obtain ⟨nn, e⟩ := HW.out; exact ⟨nn + nq, by rw [e, World.drewN_drewN]⟩⟩⟩
  · have hv : heapV n = 0 ∧ okHeap n = false := ⟨if_neg (by omega), decide_eq_false (by omega)⟩
    rw [hv.1, hv.2]
    have HA := Aside0.mk (fun W => heapCells_bad n hn W)
    clear hv
    go_enter Try.func35, Try.ntmps35
    go_wp2_with (first | (go_at_call 61; (with_reducible refine (HA.out _).mono ?_); rintro e w1 ⟨rfl, hB⟩))
    have HB := Aside0.mk hB
    clear hB
    go_loopg [6, 16] 0 (fun m v6 v16 wr => v6 = .int .i64 0 ∧ v16 = .int .i64 0 ∧ Aside0 (Below w.heap.size w wr))
    case atStart => exact ⟨rfl, rfl, HB⟩
    case round =>
      obtain ⟨rfl, rfl, HBr⟩ := hrel
      go_wp2_with (fail)
      go_ret2
      exact ⟨by first | rfl | trivial, HBr.out⟩
theorem spec_HeapSquare.calls (n : Int) (r1 : Int) (r2 : Bool) (w : World) (h : spec_HeapSquare.f n = some (r1, r2)) :
    Calls Try.prog 35 #[.int .i64 n] w fun e w' => e = .returned (.tuple #[.int .i64 r1, .bool r2]) ∧ Below w.heap.size w w' := by
  have e := Option.some.inj h
  injection e with e1 e2
  subst e1 e2
  exact spec_HeapSquare.walk n w
theorem impl_HeapSquare.calls (n : Int) (r1 : Int) (r2 : Bool) (w : World) (h : impl_HeapSquare.f n = some (r1, r2)) :
    Calls Try.prog 36 #[.int .i64 n] w fun e w' => e = .returned (.tuple #[.int .i64 r1, .bool r2]) ∧ Below w.heap.size w w' := by
  have e := Option.some.inj h
  injection e with e1 e2
  subst e1 e2
  exact impl_HeapSquare.walk n w
end Go.Proofs.Ytjedhjeijpbobaa.G8
