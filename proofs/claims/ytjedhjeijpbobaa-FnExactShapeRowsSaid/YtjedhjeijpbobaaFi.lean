/-
  The least square of a cell that is not grown: of both sides, walked.
-/
import Derived.Test.YtjedhjeijpbobaaFf
namespace Go.Proofs.Ytjedhjeijpbobaa.G8
open Go.RowKit Go.Maps Go.Proofs.YtjedhjeijpbobaaW.PrintWords Go.Proofs.YtjedhjeijpbobaaW.PrintLast Go.Proofs.YtjedhjeijpbobaaW.PrintMore
open Go.Proofs.Ytjedhjeijpbobaa.GA
set_option linter.unusedVariables false
set_option linter.unusedSimpArgs false
def lst (a b : Int) : Int := if a < b then a else b
def qs (x y : Int) : Int := x * x + y * y
/-- The least of l and the squares of the cells (x, y), (x, y + 1), .., m of them, that are not grown. -/
def inY (F : Fld) (x : Int) : Nat → Int → Int → Int
  | 0, _, l => l
  | m + 1, y, l => inY F x m (y + 1) (if (F x y).isSome = true then l else lst l (qs x y))
def inX (F : Fld) (y0 : Int) (n : Nat) : Nat → Int → Int → Int
  | 0, _, l => l
  | m + 1, x, l => inX F y0 n m (x + 1) (inY F x n y0 l)
theorem inY_is (F : Fld) (x : Int) : ∀ (m : Nat) (y l : Int), inY F x m y l ≤ l ∧ (∀ c, y ≤ c → c < y + m → F x c = none → inY F x m y l ≤ qs x c) ∧ (inY F x m y l = l ∨ ∃ c, y ≤ c ∧ c < y + m ∧ F x c = none ∧ inY F x m y l = qs x c)
  | 0, y, l => ⟨Int.le_refl _, fun c h1 h2 => by omega, .inl rfl⟩
  | m + 1, y, l => by
    obtain ⟨l1, hl1⟩ : ∃ l1, l1 = (if (F x y).isSome = true then l else lst l (qs x y)) := ⟨_, rfl⟩
    have e : inY F x (m + 1) y l = inY F x m (y + 1) l1 := by rw [hl1]; rfl
    obtain ⟨h1, h2, h3⟩ := inY_is F x m (y + 1) l1
    have h4 : l1 ≤ l ∧ (F x y = none → l1 ≤ qs x y) ∧ (l1 = l ∨ (F x y = none ∧ l1 = qs x y)) := by
      rw [hl1]
      cases hF : F x y with
      | none =>
        simp only [Option.isSome_none, Bool.false_eq_true, if_false, true_and, true_implies]
        unfold lst
        split <;> omega
      | some r => simp
    rw [e]
    refine ⟨by omega, fun c g1 g2 g3 => ?_, ?_⟩
    · by_cases q : c = y
      · subst q
        have := h4.2.1 g3
        omega
      · exact h2 c (by omega) (by omega) g3
    · rcases h3 with h3 | ⟨c, g1, g2, g3, g4⟩
      · rw [h3]
        rcases h4.2.2 with h5 | ⟨h5, h6⟩
        · exact .inl h5
        · exact .inr ⟨y, by omega, by omega, h5, h6⟩
      · exact .inr ⟨c, by omega, by omega, g3, g4⟩
theorem inX_is (F : Fld) (y0 : Int) (n : Nat) : ∀ (m : Nat) (x l : Int), inX F y0 n m x l ≤ l ∧ (∀ a c, x ≤ a → a < x + m → y0 ≤ c → c < y0 + n → F a c = none → inX F y0 n m x l ≤ qs a c) ∧ (inX F y0 n m x l = l ∨ ∃ a c, F a c = none ∧ inX F y0 n m x l = qs a c)
  | 0, x, l => ⟨Int.le_refl _, fun a c h1 h2 => by omega, .inl rfl⟩
  | m + 1, x, l => by
    have e : inX F y0 n (m + 1) x l = inX F y0 n m (x + 1) (inY F x n y0 l) := rfl
    obtain ⟨g1, g2, g3⟩ := inY_is F x n y0 l
    obtain ⟨h1, h2, h3⟩ := inX_is F y0 n m (x + 1) (inY F x n y0 l)
    rw [e]
    refine ⟨by omega, fun a c k1 k2 k3 k4 k5 => ?_, ?_⟩
    · by_cases q : a = x
      · subst q
        have := g2 c k3 k4 k5
        omega
      · exact h2 a c (by omega) (by omega) k3 k4 k5
    · rcases h3 with h3 | h3
      · rw [h3]
        rcases g3 with g3 | ⟨c, _, _, k3, k4⟩
        · exact .inl g3
        · exact .inr ⟨x, c, k3, k4⟩
      · exact .inr h3
theorem sq_le (x a : Int) (h0 : 0 ≤ x) (h : a < -x ∨ x < a) : x * x ≤ a * a := by
  have h1 := Nat.mul_le_mul (show x.natAbs ≤ a.natAbs by omega) (show x.natAbs ≤ a.natAbs by omega)
  rw [← Int.natAbs_mul, ← Int.natAbs_mul] at h1
  have h2 : 0 ≤ x * x := Int.mul_nonneg h0 h0
  have h3 : 0 ≤ a * a := by
    rcases Int.le_total 0 a with q | q
    · exact Int.mul_nonneg q q
    · have := Int.mul_nonneg (show 0 ≤ -a by omega) (show 0 ≤ -a by omega)
      rwa [Int.neg_mul_neg] at this
  omega
theorem sq_nn (a : Int) : 0 ≤ a * a := by
  rcases Int.le_total 0 a with q | q
  · exact Int.mul_nonneg q q
  · have := Int.mul_nonneg (show 0 ≤ -a by omega) (show 0 ≤ -a by omega)
    rwa [Int.neg_mul_neg] at this
/-- v is the least square of a cell that is not grown. -/
def Least (F : Fld) (v : Int) : Prop := (∃ a c, F a c = none ∧ v = qs a c) ∧ ∀ a c, F a c = none → v ≤ qs a c
theorem Least.one {F : Fld} {v u : Int} (h : Least F v) (k : Least F u) : v = u := by
  obtain ⟨⟨a, c, h1, h2⟩, h3⟩ := h
  obtain ⟨⟨a', c', k1, k2⟩, k3⟩ := k
  have := h3 a' c' k1
  have := k3 a c h1
  omega
theorem least_box {F : Fld} {x l : Int} {n : Nat} (h0 : 0 ≤ x) (hn : (n : Int) = 2 * x + 1) (hl : l = qs x 0) (hF : F x 0 = none) : Least F (inX F (-x) n n (-x) l) := by
  obtain ⟨h1, h2, h3⟩ := inX_is F (-x) n n (-x) l
  refine ⟨?_, fun a c hac => ?_⟩
  · rcases h3 with h3 | h3
    · exact ⟨x, 0, hF, by rw [h3, hl]⟩
    · exact h3
  · by_cases q : -x ≤ a ∧ a ≤ x ∧ -x ≤ c ∧ c ≤ x
    · exact h2 a c q.1 (by omega) q.2.2.1 (by omega) hac
    · have e : l ≤ qs a c := by
        rw [hl]
        unfold qs
        have s1 := sq_nn a
        have s2 := sq_nn c
        by_cases q1 : a < -x ∨ x < a
        · have := sq_le x a h0 q1
          omega
        · have := sq_le x c h0 (by omega)
          omega
      omega
theorem least_60 {F : Fld} (hF : ∀ a c, F a c ≠ none → -15 ≤ a ∧ a ≤ 15 ∧ -15 ≤ c ∧ c ≤ 15) : Least F (inX F (-60) 121 121 (-60) 1048576) := by
  obtain ⟨h1, h2, h3⟩ := inX_is F (-60) 121 121 (-60) 1048576
  have h16 : F 16 0 = none := by
    cases h : F 16 0 with
    | none => rfl
    | some r => have := hF 16 0 (by rw [h]; simp); omega
  have h4 := h2 16 0 (by omega) (by omega) (by omega) (by omega) h16
  have h5 : qs 16 0 = 256 := by decide
  rw [h5] at h4
  generalize inX F (-60) 121 121 (-60) 1048576 = v at *
  refine ⟨?_, fun a c hac => ?_⟩
  · rcases h3 with h3 | h3
    · omega
    · exact h3
  · by_cases q : -60 ≤ a ∧ a ≤ 60 ∧ -60 ≤ c ∧ c ≤ 60
    · exact h2 a c q.1 (by omega) q.2.2.1 (by omega) hac
    · have e : 3600 ≤ qs a c := by
        unfold qs
        have s1 := sq_nn a
        have s2 := sq_nn c
        by_cases q1 : a < -60 ∨ 60 < a
        · have := sq_le 60 a (by omega) q1
          omega
        · have := sq_le 60 c (by omega) (by omega)
          omega
      omega
theorem grid_box {n k : Int} (h : okGrid n k = true) : ∀ a c, (gridS n k).f a c ≠ none → -15 ≤ a ∧ a ≤ 15 ∧ -15 ≤ c ∧ c ≤ 15 := fun a c hac => by
  have hk := (grid_kept h).1
  refine hk.box (a, c) ((hk.mem a c).1 ?_)
  cases hF : (gridS n k).f a c with
  | none => exact absurd hF hac
  | some r => rfl
theorem grid_16 {n k : Int} (h : okGrid n k = true) : (gridS n k).f 16 0 = none := by
  cases hF : (gridS n k).f 16 0 with
  | none => rfl
  | some r => have := grid_box h 16 0 (by rw [hF]; simp); omega
def innerV (n k : Int) : Int := if okGrid n k = true then inX (gridS n k).f (-60) 121 121 (-60) 1048576 else 0
theorem inner0 {n k : Int} (h : okGrid n k = false) : innerV n k = 0 := by unfold innerV; rw [if_neg (by rw [h]; decide)]
theorem inner1 {n k : Int} (h : okGrid n k = true) : innerV n k = inX (gridS n k).f (-60) 121 121 (-60) 1048576 := by unfold innerV; rw [if_pos h]
theorem sq_wraps {x y : Int} (hx : -60 ≤ x ∧ x ≤ 60) (hy : -60 ≤ y ∧ y ≤ 60) : wrap64 (x * x) = x * x ∧ wrap64 (y * y) = y * y ∧ wrap64 (x * x + y * y) = qs x y := by
  have h1 := sq_bd x (by omega) (by omega)
  have h2 := sq_bd y (by omega) (by omega)
  unfold qs
  generalize x * x = a at *
  generalize y * y = b at *
  exact ⟨wrap_id (by omega) (by omega), wrap_id (by omega) (by omega), wrap_id (by omega) (by omega)⟩
def spec_InnerSquare.f (n k : Int) : Option (Int × Bool) := some (innerV n k, okGrid n k)
def impl_InnerSquare.f (n k : Int) : Option (Int × Bool) := some (innerV n k, okGrid n k)
set_option maxHeartbeats 4000000 in
set_option maxRecDepth 100000 in
theorem spec_InnerSquare.walk (n k : Int) (w : World) : Calls Try.prog 33 #[.int .i64 n, .int .i64 k] w fun e w' => e = .returned (.tuple #[.int .i64 (innerV n k), .bool (okGrid n k)]) ∧ Below w.heap.size w w' := by
  have HA := Aside0.mk (fun W => spec_gwAsked.calls n k _ W (asked_eq n k))
  cases ho : okGrid n k with
  | false =>
    rw [inner0 ho]
    rw [ho] at HA
    clear ho
    go_enter Try.func33, Try.ntmps33
    go_wp2_with (first | (go_at_call 65; (with_reducible refine (HA.out _).mono ?_); rintro e w1 ⟨rfl, ⟨nd, rfl⟩⟩))
    go_ret2
    exact ⟨rfl, by repeat (first | exact Below.refl _ _ | apply pw_below_drewN)⟩
  | true =>
    rw [inner1 ho]
    have HG := Aside0.mk (fun W => go_any ho W)
    rw [ho] at HA
    clear ho
    generalize gridS n k = S at *
    obtain ⟨V, hV⟩ : ∃ V, inX S.f (-60) 121 121 (-60) 1048576 = V := ⟨_, rfl⟩
    rw [hV]
    replace hV := Aside0.mk hV
    go_enter Try.func33, Try.ntmps33
    go_wp2_with (first | (go_at_call 65; (with_reducible refine (HA.out _).mono ?_); rintro e w1 ⟨rfl, ⟨nd, rfl⟩⟩) | (go_at_call 66; (with_reducible refine (HG.out _).mono ?_); rintro e w1 ⟨f, gb, rb, vc, rfl, hB, hG⟩; have HB := Aside0.mk (below_then (by repeat (first | exact Below.refl _ _ | apply pw_below_drewN)) (by simp) hB : Below w.heap.size w w1); clear hB))
    go_loopg [7, 8] 121 (fun m v7 v8 wr => ∃ (x l : Int), v7 = .int .i64 l ∧ v8 = .int .i64 x ∧ Aside0 (x + m = 61 ∧ -60 ≤ x) ∧ Aside0 (inX S.f (-60) 121 m x l = V) ∧ Aside0 (∃ nn, wr = w1.drewN nn))
    case atStart => exact ⟨-60, 1048576, rfl, rfl, ⟨by omega⟩, hV, ⟨0, rfl⟩⟩
    case round =>
      clear hV
      obtain ⟨x, l, rfl, rfl, HI, HV, HW⟩ := hrel
      cases gk with
      | zero =>
        have hi : ¬ (x ≤ 60) := by have := HI.out; omega
        have hv : l = V := HV.out
        have hbe : Below w.heap.size w wr := by obtain ⟨nn, e⟩ := HW.out; rw [e]; exact pw_below_drewN HB.out nn
        replace hbe := Aside0.mk hbe
        subst hv
        go_wp2_with (fail)
        go_ret2
        exact ⟨rfl, hbe.out⟩
      | succ m =>
        have hi : x ≤ 60 := by have := HI.out; omega
        go_wp2_with (fail)
        obtain ⟨Wo, hWo⟩ : ∃ W, W = wr := ⟨wr, rfl⟩
        subst hWo
        have HV0 : Aside0 (inX S.f (-60) 121 m (x + 1) (inY S.f x 121 (-60) l) = V) := ⟨HV.out⟩
        go_loopg [7, 9] 121 (fun q v7 v9 wq => ∃ (y l1 : Int), v7 = .int .i64 l1 ∧ v9 = .int .i64 y ∧ Aside0 (y + q = 61 ∧ -60 ≤ y) ∧ Aside0 (inX S.f (-60) 121 m (x + 1) (inY S.f x q y l1) = V) ∧ Aside0 (∃ nn, wq = w1.drewN nn))
        case atStart => exact ⟨-60, l, rfl, rfl, ⟨by omega⟩, HV0, HW⟩
        case round =>
          clear HV HV0 HW
          obtain ⟨y, l1, rfl, rfl, HJ, HV, HW⟩ := hrel
          cases gk with
          | zero =>
            have hj : ¬ (y ≤ 60) := by have := HJ.out; omega
            have hv : Aside0 (inX S.f (-60) 121 m (x + 1) l1 = V) := ⟨HV.out⟩
            have hw := wrap_id (x := x + 1) (by have := HI.out; omega) (by omega)
            go_wp2_with (fail)
            go_roundg m
            case measure => omega
            case rel => exact ⟨x + 1, l1, by first | rfl | go_num, by first | rfl | go_num, ⟨by have := HI.out; omega⟩, hv, HW⟩
          | succ q =>
            have hj : y ≤ 60 := by have := HJ.out; omega
            have bx : Box x := ⟨by have := HI.out; omega, hi⟩
            have byy : Box y := ⟨by have := HJ.out; omega, hj⟩
            obtain ⟨cg, c0⟩ : wr.cell? ⟨gb, atN x y, none⟩ = some (.bool (S.f x y).isSome) ∧ wr.cell? ⟨f, 0, none⟩ = some (.slice (some ⟨gb, 0, none⟩) 14641 14641) := by
              obtain ⟨nn, e⟩ := HW.out
              have h := hG.out.drewN nn
              rw [e]
              refine ⟨(h.gro_at bx byy).1, ?_⟩
              have := blk_cell h.blk 0
              simpa using this
            have HT := Aside0.mk (at_quiet bx byy)
            have hplt := atN_lt bx byy
            obtain ⟨p, hp⟩ : ∃ p, p = atN x y := ⟨_, rfl⟩
            rw [← hp] at HT hplt cg
            have hpi : (p : Int) < 14641 := by omega
            have hw := wrap_id (x := y + 1) (by have := HJ.out; omega) (by omega)
            obtain ⟨s1, s2, s3⟩ := sq_wraps (show -60 ≤ x ∧ x ≤ 60 from bx) (show -60 ≤ y ∧ y ≤ 60 from byy)
            have HM := Aside0.mk (fun W => spec_l1Least.calls l1 (qs x y) _ W (least_eq l1 (qs x y)))
            have hV1 : inX S.f (-60) 121 m (x + 1) (inY S.f x q (y + 1) (if (S.f x y).isSome = true then l1 else lst l1 (qs x y))) = V := HV.out
            replace bx := Aside0.mk bx
            clear hp byy hplt HV
            cases hF : S.f x y with
            | some r =>
              rw [hF] at hV1 cg
              simp at cg
              replace hV1 : Aside0 (inX S.f (-60) 121 m (x + 1) (inY S.f x q (y + 1) l1) = V) := ⟨hV1⟩
              go_upto_region 11 with (fail)
              go_quiet ((go_at_call 73; exact Calls.quiet_of (HT.out _)))
              go_wp2_with (fail)
              go_roundg q
              case measure => omega
              case rel => exact ⟨y + 1, l1, by first | rfl | go_num, by first | rfl | go_num, ⟨by have := HJ.out; omega⟩, hV1, ⟨by obtain ⟨nn, e⟩ := HW.out; exact ⟨nn + nq, by rw [e, World.drewN_drewN]⟩⟩⟩
            | none =>
              rw [hF] at hV1 cg
              simp at cg
              replace hV1 : inX S.f (-60) 121 m (x + 1) (inY S.f x q (y + 1) (if l1 < qs x y then l1 else qs x y)) = V := hV1
              generalize (if l1 < qs x y then l1 else qs x y) = l2 at hV1 HM
              replace hV1 := Aside0.mk hV1
              go_upto_region 11 with (fail)
              go_quiet ((go_at_call 73; exact Calls.quiet_of (HT.out _)))
              go_wp2_with (first | (go_at_call 77; (with_reducible refine (HM.out _).mono ?_); rintro e w9 ⟨rfl, ⟨nd5, rfl⟩⟩))
              go_roundg q
              case measure => omega
              case rel => exact ⟨y + 1, l2, by first | rfl | go_num, by first | rfl | go_num, ⟨by have := HJ.out; omega⟩, hV1, ⟨by obtain ⟨nn, e⟩ := HW.out; exact ⟨nn + nq + nd5, by rw [e, World.drewN_drewN, Nat.add_assoc]⟩⟩⟩
theorem spec_InnerSquare.calls (n k : Int) (r1 : Int) (r2 : Bool) (w : World) (h : spec_InnerSquare.f n k = some (r1, r2)) :
    Calls Try.prog 33 #[.int .i64 n, .int .i64 k] w fun e w' => e = .returned (.tuple #[.int .i64 r1, .bool r2]) ∧ Below w.heap.size w w' := by
  have e := Option.some.inj h
  injection e with e1 e2
  subst e1 e2
  exact spec_InnerSquare.walk n k w
end Go.Proofs.Ytjedhjeijpbobaa.G8
