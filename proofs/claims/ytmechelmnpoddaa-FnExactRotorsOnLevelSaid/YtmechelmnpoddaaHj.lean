/-
  LongestTrip of both sides, by contracts in the print's own form.
-/
import Derived.Test.YtmechelmnpoddaaHi
namespace Go.Proofs.Ytmechelmnpoddaa.H7
open Go.RowKit Go.Proofs.YtmechelmnpoddaaW.PrintWords Go.Proofs.YtmechelmnpoddaaW.PrintLast Go.Proofs.YtmechelmnpoddaaW.PrintMore
open Go.Proofs.Ytmechelmnpoddaa.A7
open Es (nth)
set_option linter.unusedVariables false
set_option linter.unusedSimpArgs false

def mostI : Int → List Int → Int
  | m, [] => m
  | m, x :: t => mostI (if m > x then m else x) t
theorem mostI_max : ∀ (l : List Int) (m : Int), mostI m l = l.foldl max m
  | [], m => rfl
  | x :: t, m => by
    show mostI (if m > x then m else x) t = t.foldl max (max m x)
    rw [mostI_max t]
    congr 1
    split <;> omega
theorem foldl_max (a : Int) : ∀ (l : List Int) (b : Int), l.foldl max (max a b) = max a (l.foldl max b)
  | [], b => rfl
  | x :: t, b => by
    show t.foldl max (max (max a b) x) = max a (t.foldl max (max b x))
    rw [show max (max a b) x = max a (max b x) by omega]
    exact foldl_max a t _
theorem maxOf_zero (l : List Int) : Lib.maxOf (l ++ [0]) = mostI 0 l := by
  rw [mostI_max]
  cases l with
  | nil => rfl
  | cons x t =>
    show ((x :: t) ++ [0]).foldl max x = t.foldl max (max 0 x)
    rw [foldl_max, List.foldl_append]
    show max (t.foldl max (max x x)) 0 = _
    rw [show max x x = x by omega]
    omega
def longest (a0 a1 a2 a3 : Int) : Int := mostI 0 (ints (outS a0 a1 a2 a3).trips)

def spec_LongestTrip.f (a0 a1 a2 a3 : Int) : Option (Int × Bool) := some (if asked a0 a1 a2 a3 = true then longest a0 a1 a2 a3 else 0, asked a0 a1 a2 a3)
set_option maxHeartbeats 4000000 in
set_option maxRecDepth 100000 in
theorem spec_LongestTrip.walk (a0 a1 a2 a3 : Int) (w : World) : Calls Try.prog 28 #[.int .i64 a0, .int .i64 a1, .int .i64 a2, .int .i64 a3] w fun e w' => e = .returned (.tuple #[.int .i64 (if asked a0 a1 a2 a3 = true then longest a0 a1 a2 a3 else 0), .bool (asked a0 a1 a2 a3)]) ∧ Below w.heap.size w w' := by
  have HA := Aside0.mk (asked_eq a0 a1 a2 a3)
  cases hq : asked a0 a1 a2 a3 with
  | false =>
    rw [hq] at HA
    rw [if_neg (by decide)]
    clear hq
    go_enter Try.func28, Try.ntmps28
    go_wp2_with (go_at_call 61; (with_reducible refine (spec_esAsked.calls 30 a0 a1 a2 a3 false _ HA.out).mono ?_); rintro e w' ⟨rfl, ⟨nd, rfl⟩⟩)
    go_ret2
    exact ⟨rfl, pw_below_drewN (Below.refl _ _) _⟩
  | true =>
    have HB := fun W => go_asked a0 a1 a2 a3 W hq
    have HB := Aside0.mk HB
    have hlen : (outS a0 a1 a2 a3).trips.length ≤ 200 := (out_len hq).2.1
    have HM : longest a0 a1 a2 a3 = mostI 0 (ints (outS a0 a1 a2 a3).trips) := rfl
    rw [hq] at HA
    rw [if_pos rfl, HM]
    clear hq HM
    generalize (outS a0 a1 a2 a3) = S at *
    generalize hN : S.trips.length = N at *
    go_enter Try.func28, Try.ntmps28
    go_wp2_with (first | (go_at_call 61; (with_reducible refine (spec_esAsked.calls 30 a0 a1 a2 a3 true _ HA.out).mono ?_); rintro e w' ⟨rfl, ⟨nd, rfl⟩⟩) | (go_at_call 63; obtain ⟨b1, d1, hc⟩ := HB.out (w.drewN nd); refine hc.mono ?_; rintro e w1 ⟨g, vr, ve, vt, vv, rfl, hB, hF⟩; have hFt := hF.t; rw [hN] at hFt; have HT := Aside0.mk hFt; obtain ⟨A, cA, rfl⟩ := own_slice hFt; have HF := Aside0.mk hF; have HL := Aside0.mk ((pw_below_drewN (Below.refl w.heap.size w) nd).trans hB); clear hB hF hFt; have c := blk_cell HF.out.blk 5; simp at c))
    clear HA HB
    go_loopg [10, 28] N (fun kq v10 v28 wr => ∃ (i : Nat) (m : Int), v10 = .int .i64 m ∧ v28 = .int .i64 (i : Int) ∧ Aside0 (i + kq = N ∧ mostI m ((ints S.trips).drop i) = mostI 0 (ints S.trips)) ∧
      Aside0 (wr.ownsRow (w.drewN nd).heap.size 3 1 (.slice A N cA) N (nums .i64 (ints S.trips))) ∧ Aside0 (Below w.heap.size w wr))
    case atStart => exact ⟨0, 0, rfl, rfl, ⟨by omega, rfl⟩, HT, HL⟩
    case round =>
      clear HT HL HF
      obtain ⟨i, m, rfl, rfl, HI, HT, HL⟩ := hrel
      by_cases hlt : i < N
      · obtain ⟨kq, rfl⟩ : ∃ m, gk = m + 1 := ⟨gk - 1, by have := HI.out.1; omega⟩
        obtain ⟨gt, ct, he, hgt, hct⟩ := HT.out.form (by omega)
        injection he with e1 e2 e3
        subst e1 e3
        have hc := (row_at HT.out i hlt).1
        have HM : spec_l1Most.f m (nth S.trips i : Int) = some (if m > (nth S.trips i : Int) then m else (nth S.trips i : Int)) := by unfold spec_l1Most.f; split <;> rfl
        have HM := Aside0.mk HM
        have hd : mostI (if m > (nth S.trips i : Int) then m else (nth S.trips i : Int)) ((ints S.trips).drop (i + 1)) = mostI 0 (ints S.trips) := by
          have h1 := HI.out.2
          rw [drop_step _ i (by rw [ints_len, hN]; exact hlt)] at h1
          have h2 : (ints S.trips)[i]'(by rw [ints_len, hN]; exact hlt) = (nth S.trips i : Int) := by simp [ints, nth, hN, hlt]
          rw [h2] at h1
          exact h1
        have HD := Aside0.mk hd
        clear hd
        generalize (if m > (nth S.trips i : Int) then m else (nth S.trips i : Int)) = m1 at *
        have hlt' : (i : Int) < (N : Int) := by omega
        have hw1 : IntKind.i64.wrap ((i : Int) + 1) = (i : Int) + 1 := IntWalk.i64_in _ (by omega)
        go_wp2_with (go_at_call 69; (with_reducible refine (spec_l1Most.calls m _ m1 _ HM.out).mono ?_); rintro e w' ⟨rfl, ⟨nd2, rfl⟩⟩)
        go_roundg kq
        case measure => omega
        case rel => exact ⟨i + 1, m1, rfl, by go_num, ⟨by have := HI.out.1; omega, HD.out⟩, ⟨HT.out⟩, ⟨pw_below_drewN HL.out _⟩⟩
      · have hi : i = N := by have := HI.out.1; omega
        have hm : m = mostI 0 (ints S.trips) := by
          have := HI.out.2
          rw [List.drop_of_length_le (by rw [ints_len]; omega)] at this
          exact this
        subst hi
        have hlt' : ¬ ((i : Int) < (i : Int)) := by omega
        go_wp2_with (fail)
        go_ret2
        exact ⟨rfl, HL.out⟩
theorem spec_LongestTrip.calls (a0 a1 a2 a3 r1 : Int) (r2 : Bool) (w : World) (h : spec_LongestTrip.f a0 a1 a2 a3 = some (r1, r2)) :
    Calls Try.prog 28 #[.int .i64 a0, .int .i64 a1, .int .i64 a2, .int .i64 a3] w fun e w' => e = .returned (.tuple #[.int .i64 r1, .bool r2]) ∧ Below w.heap.size w w' := by
  have e := Option.some.inj h
  injection e with e1 e2
  subst e1 e2
  exact spec_LongestTrip.walk a0 a1 a2 a3 w

def impl_LongestTrip.f (a0 a1 a2 a3 : Int) : Option (Int × Bool) := some (if asked a0 a1 a2 a3 = true then longest a0 a1 a2 a3 else 0, asked a0 a1 a2 a3)
set_option maxHeartbeats 1000000 in
set_option maxRecDepth 100000 in
theorem impl_LongestTrip.walk (a0 a1 a2 a3 : Int) (w : World) : Calls Try.prog 29 #[.int .i64 a0, .int .i64 a1, .int .i64 a2, .int .i64 a3] w fun e w' => e = .returned (.tuple #[.int .i64 (if asked a0 a1 a2 a3 = true then longest a0 a1 a2 a3 else 0), .bool (asked a0 a1 a2 a3)]) ∧ Below w.heap.size w w' := by
  obtain ⟨X, hX⟩ : ∃ X, X = (if asked a0 a1 a2 a3 = true then ints (outS a0 a1 a2 a3).trips else []) := ⟨_, rfl⟩
  obtain ⟨ok, hok⟩ : ∃ ok, ok = asked a0 a1 a2 a3 := ⟨_, rfl⟩
  have hlen : X.length ≤ 200 := by rw [hX]; exact list_len a0 a1 a2 a3 (fun s => s.trips) (fun s => by exact .inr (.inl rfl))
  have hr : (if asked a0 a1 a2 a3 = true then longest a0 a1 a2 a3 else 0) = Lib.maxOf (X ++ [0]) := by
    rw [maxOf_zero, hX]
    split <;> rfl
  have HI : impl_TripsOf.f a0 a1 a2 a3 = some (X, ok) := by unfold impl_TripsOf.f; rw [hX, hok]
  have HI := Aside0.mk HI
  obtain ⟨mx, hmx⟩ : ∃ mx, mx = Lib.maxOf (X ++ [0]) := ⟨_, rfl⟩
  rw [hr, ← hok, ← hmx]
  have hmx := Aside0.mk hmx
  clear hr hX hok
  go_enter Try.func29, Try.ntmps29
  go_upto_region 2 with (go_at_call 38; (with_reducible refine (impl_TripsOf.calls a0 a1 a2 a3 X ok _ HI.out).mono ?_); rintro e w1 ⟨v0, rfl, hR, hB⟩; have hO := Kd.own_of_R hR; have HO := Aside0.mk hO; obtain ⟨A, cA, rfl⟩ := own_slice hO; have HB := Aside0.mk hB; clear hO hR hB)
  have ws : w.heap.size ≤ w1.heap.size := HB.out.size
  go_wp2_with (at_builtin; refine print_append_num (w0 := w) w.heap.size rfl (.tmp 20) (.tmp 21) 34 3 .i64 8 rfl Try.underlying34 info3 (by decide) (.slice A X.length cA) X 0 rfl rfl HO.out HB.out ws (by omega) ?_)
  intro v1 w2 hown hbel hg hat
  have hlx : (X ++ [0]).length = X.length + 1 := by simp
  replace hown : w2.ownsRow w.heap.size 3 1 v1 (X.length + 1) (nums .i64 (X ++ [0])) := by simpa using hown
  obtain ⟨g1, c1, rfl, hg1, hc1⟩ := hown.form (by omega)
  have HC := Aside0.mk (fun (j : Nat) (hj : j < (X ++ [0]).length) => (by
    have h := (own_at hown (j : Int) (by omega) (by omega)).1
    rw [Int.toNat_natCast] at h
    rw [Nat.zero_add]
    exact h : w2.cell? ⟨g1, 0 + j, none⟩ = some (Value.int .i64 ((X ++ [0]).getD j 0))))
  have HL := Aside0.mk hbel
  clear hown hbel hg hat HO HB HI
  have HMX := Try.slices_Max_int g1 0 (X.length + 1) c1 (X ++ [0]) w2 (by omega) (by omega) (by omega) HC.out
  rw [List.take_of_length_le (by omega), ← hmx.out] at HMX
  have HMX := Aside0.mk HMX
  clear HC
  clear hlx
  generalize X.length + 1 = n1 at *
  (try simp only [Act.put, List.setIfInBounds_toArray, List.set_cons_zero, List.set_cons_succ])
  go_wp2_with (go_at_call 70; refine (HMX.out).mono ?_; rintro e w' ⟨rfl, hw'⟩; subst w')
  go_ret2
  exact ⟨by rw [hmx.out]; rfl, HL.out⟩
theorem impl_LongestTrip.calls (a0 a1 a2 a3 r1 : Int) (r2 : Bool) (w : World) (h : impl_LongestTrip.f a0 a1 a2 a3 = some (r1, r2)) :
    Calls Try.prog 29 #[.int .i64 a0, .int .i64 a1, .int .i64 a2, .int .i64 a3] w fun e w' => e = .returned (.tuple #[.int .i64 r1, .bool r2]) ∧ Below w.heap.size w w' := by
  have e := Option.some.inj h
  injection e with e1 e2
  subst e1 e2
  exact impl_LongestTrip.walk a0 a1 a2 a3 w
end Go.Proofs.Ytmechelmnpoddaa.H7
