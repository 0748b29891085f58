/-
  Whether a cell is grown, and its rotor: of both sides, walked.
-/
import Derived.Test.YtjedhjeijpbobaaFc
namespace Go.Proofs.Ytjedhjeijpbobaa.G8
open Go.RowKit Go.Maps Go.Proofs.YtjedhjeijpbobaaW.PrintWords Go.Proofs.YtjedhjeijpbobaaW.PrintLast Go.Proofs.YtjedhjeijpbobaaW.PrintMore
open Go.Proofs.Ytjedhjeijpbobaa.GA
set_option linter.unusedVariables false
set_option linter.unusedSimpArgs false
def mayAsk (n k x y : Int) : Bool := okGrid n k && nearB x y
def isGrownV (n k x y : Int) : Bool := mayAsk n k x y && ((gridS n k).f x y).isSome
def rotorV (n k x y : Int) : Int := if mayAsk n k x y = true then ((gridS n k).f x y).getD k else 0
def box60 (x y : Int) : Bool := inB x (-60) 60 && inB y (-60) 60
theorem off60 {n k x y : Int} (h : okGrid n k = true) (hb : box60 x y = false) : (gridS n k).f x y = none := by
  cases hF : (gridS n k).f x y with
  | none => rfl
  | some r =>
    obtain ⟨hk, _⟩ := grid_kept h
    have := hk.box _ ((hk.mem x y).1 (by rw [hF]; rfl))
    simp only [box60, inB] at hb
    simp only [Bool.and_eq_false_iff, decide_eq_false_iff_not] at hb
    simp only at this
    omega
theorem box_of {x y : Int} (hb : box60 x y = true) : Box x ∧ Box y := by
  simp only [box60, inB, Bool.and_eq_true, decide_eq_true_eq] at hb
  exact hb
theorem near_wf {x y : Int} (h : nearB x y = true) : (Lit.int .i64 x).wf = true ∧ (Lit.int .i64 y).wf = true := by
  simp only [nearB, inB, Bool.and_eq_true, decide_eq_true_eq] at h
  exact ⟨i64_ok (by omega) (by omega), i64_ok (by omega) (by omega)⟩
theorem GroAt.drewN {w : World} {base g gm N : Nat} {vc : Value} {F : Fld} {cs : List (Int × Int)} {s : Int} (h : GroAt w base g gm N vc F cs s) (n : Nat) : GroAt (w.drewN n) base g gm N vc F cs s := h.keep fun _ _ => by simp
set_option maxRecDepth 100000 in
theorem GroAt.look {w : World} {base g gm N : Nat} {vc : Value} {F : Fld} {cs : List (Int × Int)} {s : Int} (h : GroAt w base g gm N vc F cs s) {x y : Int} (hx : (Lit.int .i64 x).wf = true) (hy : (Lit.int .i64 y).wf = true) :
    ∃ c, (Instr.lookup 67 (.map (some gm)) (.agg #[.int .i64 x, .int .i64 y]) true).run Try.prog w = .ok (.tuple #[.int .i64 c, .bool (F x y).isSome]) w ∧ ∀ r, F x y = some r → c = r := by
  obtain ⟨D, hown, hfi⟩ := h.map
  obtain ⟨v, ps, hlook, hv⟩ := hown.look_ok law76 Try.underlying67 (zero3 _) (plainElem_int Try.underlying3 (by decide)) (key_is x y hx hy)
  obtain ⟨c, rfl, hc, hwc⟩ := plainElem_int_inv Try.underlying3 hv
  rw [hfi.has x y hx hy] at hlook
  refine ⟨c, hlook, fun r h => ?_⟩
  have h1 := hfi.val x y r hx hy h
  have h2 := congrArg Prod.fst hc
  simp only at h2
  rw [h1] at h2
  injection h2 with h2
  injection h2 with _ h2
  exact h2.symm
theorem mov {n k x y : Int} : (okGrid n k = false → mayAsk n k x y = false) ∧ (nearB x y = false → mayAsk n k x y = false) ∧ (okGrid n k = true → nearB x y = true → mayAsk n k x y = true) := by
  unfold mayAsk
  refine ⟨fun h => by rw [h]; rfl, fun h => by rw [h, Bool.and_false], fun h1 h2 => by rw [h1, h2]; rfl⟩
theorem isv0 {n k x y : Int} (h : mayAsk n k x y = false) : isGrownV n k x y = false := by unfold isGrownV; rw [h]; rfl
theorem isv1 {n k x y : Int} (h : mayAsk n k x y = true) : isGrownV n k x y = ((gridS n k).f x y).isSome := by unfold isGrownV; rw [h]; rfl
theorem rov0 {n k x y : Int} (h : mayAsk n k x y = false) : rotorV n k x y = 0 := by unfold rotorV; rw [h]; rfl
theorem rov1 {n k x y : Int} (h : mayAsk n k x y = true) : rotorV n k x y = ((gridS n k).f x y).getD k := by unfold rotorV; rw [h]; rfl
theorem in60 (a : Int) (W : World) : Calls Try.prog 72 #[.int .i64 a, .int .i64 (-60), .int .i64 60] W fun e w' => e = .returned (.bool (inB a (-60) 60)) ∧ Drawn0 W w' := spec_l1In.calls a (-60) 60 _ W (spec_in_eq a (-60) 60)
def spec_IsGrown.f (n k x y : Int) : Option (Bool × Bool) := some (isGrownV n k x y, mayAsk n k x y)
set_option maxHeartbeats 4000000 in
set_option maxRecDepth 100000 in
theorem spec_IsGrown.walk (n k x y : Int) (w : World) : Calls Try.prog 22 #[.int .i64 n, .int .i64 k, .int .i64 x, .int .i64 y] w fun e w' => e = .returned (.tuple #[.bool (isGrownV n k x y), .bool (mayAsk n k x y)]) ∧ Below w.heap.size w w' := by
  have HA := Aside0.mk (fun W => spec_gwAsked.calls n k _ W (asked_eq n k))
  have HN := Aside0.mk (fun W => spec_gwNear.calls x y _ W (near_eq x y))
  have HX := Aside0.mk (in60 x)
  have HY := Aside0.mk (in60 y)
  cases ho : okGrid n k with
  | false =>
    have hm := (mov (n := n) (k := k) (x := x) (y := y)).1 ho
    rw [isv0 hm, hm]
    rw [ho] at HA
    clear ho hm
    go_enter Try.func22, Try.ntmps22
    go_wp2_with (first | (go_at_call 65; (with_reducible refine (HA.out _).mono ?_); rintro e w1 ⟨rfl, ⟨nd, rfl⟩⟩))
    go_ret2
    exact ⟨rfl, by repeat (first | exact Below.refl _ _ | apply pw_below_drewN)⟩
  | true =>
    cases hq : nearB x y with
    | false =>
      have hm := (mov (n := n) (k := k) (x := x) (y := y)).2.1 hq
      rw [isv0 hm, hm]
      rw [ho] at HA
      rw [hq] at HN
      clear ho hm hq
      go_enter Try.func22, Try.ntmps22
      go_wp2_with (first | (go_at_call 65; (with_reducible refine (HA.out _).mono ?_); rintro e w1 ⟨rfl, ⟨nd, rfl⟩⟩) | (go_at_call 71; (with_reducible refine (HN.out _).mono ?_); rintro e w1 ⟨rfl, ⟨nd1, rfl⟩⟩))
      go_ret2
      exact ⟨rfl, by repeat (first | exact Below.refl _ _ | apply pw_below_drewN)⟩
    | true =>
      have hm := mov.2.2 ho hq
      rw [isv1 hm, hm]
      rw [ho] at HA
      rw [hq] at HN
      have h60 := @off60 n k x y ho
      have HG := Aside0.mk (fun W => go_any ho W)
      generalize gridS n k = S at *
      clear ho hm hq
      cases hbx : inB x (-60) 60 with
      | false =>
        rw [h60 (by unfold box60; rw [hbx]; rfl)]
        rw [hbx] at HX
        clear h60 hbx HG
        go_enter Try.func22, Try.ntmps22
        go_wp2_with (first | (go_at_call 65; (with_reducible refine (HA.out _).mono ?_); rintro e w1 ⟨rfl, ⟨nd, rfl⟩⟩) | (go_at_call 71; (with_reducible refine (HN.out _).mono ?_); rintro e w1 ⟨rfl, ⟨nd1, rfl⟩⟩) | (go_at_call 72; (with_reducible refine (HX.out _).mono ?_); rintro e w1 ⟨rfl, ⟨nd2, rfl⟩⟩))
        go_ret2
        exact ⟨rfl, by repeat (first | exact Below.refl _ _ | apply pw_below_drewN)⟩
      | true =>
        cases hby : inB y (-60) 60 with
        | false =>
          rw [h60 (by unfold box60; rw [hbx, hby]; rfl)]
          rw [hbx] at HX
          rw [hby] at HY
          clear h60 hbx hby HG
          go_enter Try.func22, Try.ntmps22
          go_wp2_with (first | (go_at_call 65; (with_reducible refine (HA.out _).mono ?_); rintro e w1 ⟨rfl, ⟨nd, rfl⟩⟩) | (go_at_call 71; (with_reducible refine (HN.out _).mono ?_); rintro e w1 ⟨rfl, ⟨nd1, rfl⟩⟩) | (go_at_call 72; (with_reducible refine (HX.out _).mono ?_); rintro e w1 ⟨rfl, ⟨nd2, rfl⟩⟩) | (go_at_call 72; (with_reducible refine (HY.out _).mono ?_); rintro e w1 ⟨rfl, ⟨nd3, rfl⟩⟩))
          go_ret2
          exact ⟨rfl, by repeat (first | exact Below.refl _ _ | apply pw_below_drewN)⟩
        | true =>
          obtain ⟨bx, byy⟩ := box_of (show box60 x y = true by unfold box60; rw [hbx, hby]; rfl)
          rw [hbx] at HX
          rw [hby] at HY
          have HT := Aside0.mk (at_quiet bx byy)
          have hplt := atN_lt bx byy
          obtain ⟨p, hp⟩ : ∃ p, p = atN x y := ⟨_, rfl⟩
          rw [← hp] at HT hplt
          have hpi : (p : Int) < 14641 := by omega
          replace hp := Aside0.mk hp
          replace bx := Aside0.mk bx
          replace byy := Aside0.mk byy
          clear h60 hbx hby
          go_enter Try.func22, Try.ntmps22
          go_wp2_with (first | (go_at_call 65; (with_reducible refine (HA.out _).mono ?_); rintro e w1 ⟨rfl, ⟨nd, rfl⟩⟩) | (go_at_call 71; (with_reducible refine (HN.out _).mono ?_); rintro e w1 ⟨rfl, ⟨nd1, rfl⟩⟩) | (go_at_call 72; (with_reducible refine (HX.out _).mono ?_); rintro e w1 ⟨rfl, ⟨nd2, rfl⟩⟩) | (go_at_call 72; (with_reducible refine (HY.out _).mono ?_); rintro e w1 ⟨rfl, ⟨nd3, rfl⟩⟩))
          go_region_with (first | (go_at_call 66; (with_reducible refine (HG.out _).mono ?_); rintro e w1 ⟨f, gb, rb, vc, rfl, hB, hG⟩; have HB := Aside0.mk hB; obtain ⟨cg, fg⟩ := hG.out.gro_at bx.out byy.out; rw [← hp.out] at cg; have c0 := blk_cell hG.out.blk 0; simp at c0; clear hB hG fg) | (go_at_call 73; (with_reducible refine (HT.out _).mono ?_); rintro e w9 ⟨rfl, ⟨nd4, rfl⟩⟩))
          all_goals
            simp only [List.getElem_toArray, List.getElem_cons_succ, List.getElem_cons_zero, Act.put, List.setIfInBounds_toArray, List.set_cons_zero, List.set_cons_succ]
            go_wp2_with (fail)
            go_ret2
            first
              | exact ⟨rfl, by apply pw_below_drewN; exact below_then (by repeat (first | exact Below.refl _ _ | apply pw_below_drewN)) (by simp) HB.out⟩
              | exact ⟨rfl, below_then (by repeat (first | exact Below.refl _ _ | apply pw_below_drewN)) (by simp) HB.out⟩
theorem spec_IsGrown.calls (n k x y : Int) (r1 : Bool) (r2 : Bool) (w : World) (h : spec_IsGrown.f n k x y = some (r1, r2)) :
    Calls Try.prog 22 #[.int .i64 n, .int .i64 k, .int .i64 x, .int .i64 y] w fun e w' => e = .returned (.tuple #[.bool r1, .bool r2]) ∧ Below w.heap.size w w' := by
  have e := Option.some.inj h
  injection e with e1 e2
  subst e1 e2
  exact spec_IsGrown.walk n k x y w
def spec_RotorOfCell.f (n k x y : Int) : Option (Int × Bool) := some (rotorV n k x y, mayAsk n k x y)
set_option maxHeartbeats 4000000 in
set_option maxRecDepth 100000 in
theorem spec_RotorOfCell.walk (n k x y : Int) (w : World) : Calls Try.prog 24 #[.int .i64 n, .int .i64 k, .int .i64 x, .int .i64 y] w fun e w' => e = .returned (.tuple #[.int .i64 (rotorV n k x y), .bool (mayAsk n k x y)]) ∧ Below w.heap.size w w' := by
  have HA := Aside0.mk (fun W => spec_gwAsked.calls n k _ W (asked_eq n k))
  have HN := Aside0.mk (fun W => spec_gwNear.calls x y _ W (near_eq x y))
  have HX := Aside0.mk (in60 x)
  have HY := Aside0.mk (in60 y)
  cases ho : okGrid n k with
  | false =>
    have hm := (mov (n := n) (k := k) (x := x) (y := y)).1 ho
    rw [rov0 hm, hm]
    rw [ho] at HA
    clear ho hm
    go_enter Try.func24, Try.ntmps24
    go_wp2_with (first | (go_at_call 65; (with_reducible refine (HA.out _).mono ?_); rintro e w1 ⟨rfl, ⟨nd, rfl⟩⟩))
    go_ret2
    exact ⟨rfl, by repeat (first | exact Below.refl _ _ | apply pw_below_drewN)⟩
  | true =>
    cases hq : nearB x y with
    | false =>
      have hm := (mov (n := n) (k := k) (x := x) (y := y)).2.1 hq
      rw [rov0 hm, hm]
      rw [ho] at HA
      rw [hq] at HN
      clear ho hm hq
      go_enter Try.func24, Try.ntmps24
      go_wp2_with (first | (go_at_call 65; (with_reducible refine (HA.out _).mono ?_); rintro e w1 ⟨rfl, ⟨nd, rfl⟩⟩) | (go_at_call 71; (with_reducible refine (HN.out _).mono ?_); rintro e w1 ⟨rfl, ⟨nd1, rfl⟩⟩))
      go_ret2
      exact ⟨rfl, by repeat (first | exact Below.refl _ _ | apply pw_below_drewN)⟩
    | true =>
      have hm := mov.2.2 ho hq
      rw [rov1 hm, hm]
      rw [ho] at HA
      rw [hq] at HN
      have h60 := @off60 n k x y ho
      have HG := Aside0.mk (fun W => go_any ho W)
      generalize gridS n k = S at *
      clear ho hm hq
      cases hbx : inB x (-60) 60 with
      | false =>
        rw [h60 (by unfold box60; rw [hbx]; rfl)]
        rw [hbx] at HX
        clear h60 hbx HG
        go_enter Try.func24, Try.ntmps24
        go_wp2_with (first | (go_at_call 65; (with_reducible refine (HA.out _).mono ?_); rintro e w1 ⟨rfl, ⟨nd, rfl⟩⟩) | (go_at_call 71; (with_reducible refine (HN.out _).mono ?_); rintro e w1 ⟨rfl, ⟨nd1, rfl⟩⟩) | (go_at_call 72; (with_reducible refine (HX.out _).mono ?_); rintro e w1 ⟨rfl, ⟨nd2, rfl⟩⟩))
        go_ret2
        exact ⟨rfl, by repeat (first | exact Below.refl _ _ | apply pw_below_drewN)⟩
      | true =>
        cases hby : inB y (-60) 60 with
        | false =>
          rw [h60 (by unfold box60; rw [hbx, hby]; rfl)]
          rw [hbx] at HX
          rw [hby] at HY
          clear h60 hbx hby HG
          go_enter Try.func24, Try.ntmps24
          go_wp2_with (first | (go_at_call 65; (with_reducible refine (HA.out _).mono ?_); rintro e w1 ⟨rfl, ⟨nd, rfl⟩⟩) | (go_at_call 71; (with_reducible refine (HN.out _).mono ?_); rintro e w1 ⟨rfl, ⟨nd1, rfl⟩⟩) | (go_at_call 72; (with_reducible refine (HX.out _).mono ?_); rintro e w1 ⟨rfl, ⟨nd2, rfl⟩⟩) | (go_at_call 72; (with_reducible refine (HY.out _).mono ?_); rintro e w1 ⟨rfl, ⟨nd3, rfl⟩⟩))
          go_ret2
          exact ⟨rfl, by repeat (first | exact Below.refl _ _ | apply pw_below_drewN)⟩
        | true =>
          obtain ⟨bx, byy⟩ := box_of (show box60 x y = true by unfold box60; rw [hbx, hby]; rfl)
          rw [hbx] at HX
          rw [hby] at HY
          have HT := Aside0.mk (at_quiet bx byy)
          have hplt := atN_lt bx byy
          obtain ⟨p, hp⟩ : ∃ p, p = atN x y := ⟨_, rfl⟩
          rw [← hp] at HT hplt
          have hpi : (p : Int) < 14641 := by omega
          replace hp := Aside0.mk hp
          replace bx := Aside0.mk bx
          replace byy := Aside0.mk byy
          clear h60 hbx hby
          go_enter Try.func24, Try.ntmps24
          go_wp2_with (first | (go_at_call 65; (with_reducible refine (HA.out _).mono ?_); rintro e w1 ⟨rfl, ⟨nd, rfl⟩⟩) | (go_at_call 71; (with_reducible refine (HN.out _).mono ?_); rintro e w1 ⟨rfl, ⟨nd1, rfl⟩⟩) | (go_at_call 72; (with_reducible refine (HX.out _).mono ?_); rintro e w1 ⟨rfl, ⟨nd2, rfl⟩⟩) | (go_at_call 72; (with_reducible refine (HY.out _).mono ?_); rintro e w1 ⟨rfl, ⟨nd3, rfl⟩⟩))
          go_region_with (first | (go_at_call 66; (with_reducible refine (HG.out _).mono ?_); rintro e w1 ⟨f, gb, rb, vc, rfl, hB, hG⟩; have HB := Aside0.mk hB; obtain ⟨cg, fg⟩ := hG.out.rot_at bx.out byy.out; rw [← hp.out] at cg; have c0 := blk_cell hG.out.blk 1; simp at c0; clear hB hG fg) | (go_at_call 73; (with_reducible refine (HT.out _).mono ?_); rintro e w9 ⟨rfl, ⟨nd4, rfl⟩⟩))
          all_goals
            simp only [List.getElem_toArray, List.getElem_cons_succ, List.getElem_cons_zero, Act.put, List.setIfInBounds_toArray, List.set_cons_zero, List.set_cons_succ]
            go_wp2_with (fail)
            go_ret2
            first
              | exact ⟨rfl, by apply pw_below_drewN; exact below_then (by repeat (first | exact Below.refl _ _ | apply pw_below_drewN)) (by simp) HB.out⟩
              | exact ⟨rfl, below_then (by repeat (first | exact Below.refl _ _ | apply pw_below_drewN)) (by simp) HB.out⟩
theorem spec_RotorOfCell.calls (n k x y : Int) (r1 : Int) (r2 : Bool) (w : World) (h : spec_RotorOfCell.f n k x y = some (r1, r2)) :
    Calls Try.prog 24 #[.int .i64 n, .int .i64 k, .int .i64 x, .int .i64 y] w fun e w' => e = .returned (.tuple #[.int .i64 r1, .bool r2]) ∧ Below w.heap.size w w' := by
  have e := Option.some.inj h
  injection e with e1 e2
  subst e1 e2
  exact spec_RotorOfCell.walk n k x y w
def impl_IsGrown.f (n k x y : Int) : Option (Bool × Bool) := some (isGrownV n k x y, mayAsk n k x y)
set_option maxHeartbeats 4000000 in
set_option maxRecDepth 100000 in
theorem impl_IsGrown.walk (n k x y : Int) (w : World) : Calls Try.prog 23 #[.int .i64 n, .int .i64 k, .int .i64 x, .int .i64 y] w fun e w' => e = .returned (.tuple #[.bool (isGrownV n k x y), .bool (mayAsk n k x y)]) ∧ Below w.heap.size w w' := by
  have HG := Aside0.mk (fun W => grown_calls n k W)
  have HN := Aside0.mk (fun W => impl_isCell.calls x y _ W (isCell_eq x y))
  cases ho : okGrid n k with
  | false =>
    have hm := (mov (n := n) (k := k) (x := x) (y := y)).1 ho
    rw [isv0 hm, hm]
    rw [ho] at HG
    clear ho hm
    go_enter Try.func23, Try.ntmps23
    go_wp2_with (first | (go_at_call 67; (with_reducible refine (HG.out _).mono ?_); rintro e w1 (⟨_, rfl, hB⟩ | ⟨h, _⟩); rotate_left; (exact absurd h (by decide)); have HB := Aside0.mk hB; clear hB))
    go_ret2
    exact ⟨rfl, HB.out⟩
  | true =>
    cases hq : nearB x y with
    | false =>
      have hm := (mov (n := n) (k := k) (x := x) (y := y)).2.1 hq
      rw [isv0 hm, hm]
      rw [ho] at HG
      rw [hq] at HN
      clear ho hm hq
      go_enter Try.func23, Try.ntmps23
      go_wp2_with (first | (go_at_call 67; (with_reducible refine (HG.out _).mono ?_); rintro e w1 (⟨h, _⟩ | ⟨_, g, gm, N, vc, rfl, hB, hG⟩); (exact absurd h (by decide)); have HB := Aside0.mk hB; clear hB) | (go_at_call 74; (with_reducible refine (HN.out _).mono ?_); rintro e w9 ⟨rfl, ⟨nd, rfl⟩⟩))
      go_ret2
      exact ⟨rfl, by apply pw_below_drewN; exact HB.out⟩
    | true =>
      have hm := mov.2.2 ho hq
      obtain ⟨hwx, hwy⟩ := near_wf hq
      rw [isv1 hm, hm]
      rw [ho] at HG
      rw [hq] at HN
      generalize gridS n k = S at *
      clear ho hm hq
      cases hF : S.f x y with
      | none =>
        go_enter Try.func23, Try.ntmps23
        go_wp2_with (first | (go_at_call 67; (with_reducible refine (HG.out _).mono ?_); rintro e w1 (⟨h, _⟩ | ⟨_, g, gm, N, vc, rfl, hB, hG⟩); (exact absurd h (by decide)); have HB := Aside0.mk hB; clear hB) | (go_at_call 74; (with_reducible refine (HN.out _).mono ?_); rintro e w9 ⟨rfl, ⟨nd, rfl⟩⟩; have HG2 := Aside0.mk (hG.out.drewN nd); obtain ⟨c, hlook, hat⟩ := HG2.out.look hwx hwy; have g0 := blk_cell HG2.out.blk 0; simp at g0; rw [hF] at hlook; have hat := Aside0.mk hat))
        go_ret2
        exact ⟨rfl, by apply pw_below_drewN; exact HB.out⟩
      | some r =>
        go_enter Try.func23, Try.ntmps23
        go_wp2_with (first | (go_at_call 67; (with_reducible refine (HG.out _).mono ?_); rintro e w1 (⟨h, _⟩ | ⟨_, g, gm, N, vc, rfl, hB, hG⟩); (exact absurd h (by decide)); have HB := Aside0.mk hB; clear hB) | (go_at_call 74; (with_reducible refine (HN.out _).mono ?_); rintro e w9 ⟨rfl, ⟨nd, rfl⟩⟩; have HG2 := Aside0.mk (hG.out.drewN nd); obtain ⟨c, hlook, hat⟩ := HG2.out.look hwx hwy; have g0 := blk_cell HG2.out.blk 0; simp at g0; rw [hF] at hlook; have hat := Aside0.mk hat))
        go_ret2
        exact ⟨by first | rfl | (rw [hat.out r hF]; rfl), by apply pw_below_drewN; exact HB.out⟩
theorem impl_IsGrown.calls (n k x y : Int) (r1 : Bool) (r2 : Bool) (w : World) (h : impl_IsGrown.f n k x y = some (r1, r2)) :
    Calls Try.prog 23 #[.int .i64 n, .int .i64 k, .int .i64 x, .int .i64 y] w fun e w' => e = .returned (.tuple #[.bool r1, .bool r2]) ∧ Below w.heap.size w w' := by
  have e := Option.some.inj h
  injection e with e1 e2
  subst e1 e2
  exact impl_IsGrown.walk n k x y w
def impl_RotorOfCell.f (n k x y : Int) : Option (Int × Bool) := some (rotorV n k x y, mayAsk n k x y)
set_option maxHeartbeats 4000000 in
set_option maxRecDepth 100000 in
theorem impl_RotorOfCell.walk (n k x y : Int) (w : World) : Calls Try.prog 25 #[.int .i64 n, .int .i64 k, .int .i64 x, .int .i64 y] w fun e w' => e = .returned (.tuple #[.int .i64 (rotorV n k x y), .bool (mayAsk n k x y)]) ∧ Below w.heap.size w w' := by
  have HG := Aside0.mk (fun W => grown_calls n k W)
  have HN := Aside0.mk (fun W => impl_isCell.calls x y _ W (isCell_eq x y))
  cases ho : okGrid n k with
  | false =>
    have hm := (mov (n := n) (k := k) (x := x) (y := y)).1 ho
    rw [rov0 hm, hm]
    rw [ho] at HG
    clear ho hm
    go_enter Try.func25, Try.ntmps25
    go_wp2_with (first | (go_at_call 67; (with_reducible refine (HG.out _).mono ?_); rintro e w1 (⟨_, rfl, hB⟩ | ⟨h, _⟩); rotate_left; (exact absurd h (by decide)); have HB := Aside0.mk hB; clear hB))
    go_ret2
    exact ⟨rfl, HB.out⟩
  | true =>
    cases hq : nearB x y with
    | false =>
      have hm := (mov (n := n) (k := k) (x := x) (y := y)).2.1 hq
      rw [rov0 hm, hm]
      rw [ho] at HG
      rw [hq] at HN
      clear ho hm hq
      go_enter Try.func25, Try.ntmps25
      go_wp2_with (first | (go_at_call 67; (with_reducible refine (HG.out _).mono ?_); rintro e w1 (⟨h, _⟩ | ⟨_, g, gm, N, vc, rfl, hB, hG⟩); (exact absurd h (by decide)); have HB := Aside0.mk hB; clear hB) | (go_at_call 74; (with_reducible refine (HN.out _).mono ?_); rintro e w9 ⟨rfl, ⟨nd, rfl⟩⟩))
      go_ret2
      exact ⟨rfl, by apply pw_below_drewN; exact HB.out⟩
    | true =>
      have hm := mov.2.2 ho hq
      obtain ⟨hwx, hwy⟩ := near_wf hq
      rw [rov1 hm, hm]
      rw [ho] at HG
      rw [hq] at HN
      generalize gridS n k = S at *
      clear ho hm hq
      cases hF : S.f x y with
      | none =>
        go_enter Try.func25, Try.ntmps25
        go_wp2_with (first | (go_at_call 67; (with_reducible refine (HG.out _).mono ?_); rintro e w1 (⟨h, _⟩ | ⟨_, g, gm, N, vc, rfl, hB, hG⟩); (exact absurd h (by decide)); have HB := Aside0.mk hB; clear hB) | (go_at_call 74; (with_reducible refine (HN.out _).mono ?_); rintro e w9 ⟨rfl, ⟨nd, rfl⟩⟩; have HG2 := Aside0.mk (hG.out.drewN nd); obtain ⟨c, hlook, hat⟩ := HG2.out.look hwx hwy; have g0 := blk_cell HG2.out.blk 0; simp at g0; rw [hF] at hlook; have hat := Aside0.mk hat))
        go_ret2
        exact ⟨rfl, by apply pw_below_drewN; exact HB.out⟩
      | some r =>
        go_enter Try.func25, Try.ntmps25
        go_wp2_with (first | (go_at_call 67; (with_reducible refine (HG.out _).mono ?_); rintro e w1 (⟨h, _⟩ | ⟨_, g, gm, N, vc, rfl, hB, hG⟩); (exact absurd h (by decide)); have HB := Aside0.mk hB; clear hB) | (go_at_call 74; (with_reducible refine (HN.out _).mono ?_); rintro e w9 ⟨rfl, ⟨nd, rfl⟩⟩; have HG2 := Aside0.mk (hG.out.drewN nd); obtain ⟨c, hlook, hat⟩ := HG2.out.look hwx hwy; have g0 := blk_cell HG2.out.blk 0; simp at g0; rw [hF] at hlook; have hat := Aside0.mk hat))
        go_ret2
        exact ⟨by first | rfl | (rw [hat.out r hF]; rfl), by apply pw_below_drewN; exact HB.out⟩
theorem impl_RotorOfCell.calls (n k x y : Int) (r1 : Int) (r2 : Bool) (w : World) (h : impl_RotorOfCell.f n k x y = some (r1, r2)) :
    Calls Try.prog 25 #[.int .i64 n, .int .i64 k, .int .i64 x, .int .i64 y] w fun e w' => e = .returned (.tuple #[.int .i64 r1, .bool r2]) ∧ Below w.heap.size w w' := by
  have e := Option.some.inj h
  injection e with e1 e2
  subst e1 e2
  exact impl_RotorOfCell.walk n k x y w
end Go.Proofs.Ytjedhjeijpbobaa.G8
