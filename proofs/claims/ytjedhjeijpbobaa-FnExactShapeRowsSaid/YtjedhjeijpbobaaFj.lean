/-
  The least square of a cell that is not grown: the program's, walked.
-/
import Derived.Test.YtjedhjeijpbobaaFi
namespace Go.Proofs.Ytjedhjeijpbobaa.G8
open Go.RowKit Go.Maps Go.Proofs.YtjedhjeijpbobaaW.PrintWords Go.Proofs.YtjedhjeijpbobaaW.PrintLast Go.Proofs.YtjedhjeijpbobaaW.PrintMore
open Go.Proofs.Ytjedhjeijpbobaa.GA
set_option linter.unusedVariables false
set_option linter.unusedSimpArgs false
theorem square_any {x y : Int} (hx : -60 ≤ x ∧ x ≤ 60) (hy : -60 ≤ y ∧ y ≤ 60) (W : World) : Calls Try.prog 78 #[.agg #[.int .i64 x, .int .i64 y]] W fun e w' => e = .returned (.int .i64 (qs x y)) ∧ Below W.heap.size W w' := by
  obtain ⟨s1, s2, s3⟩ := sq_wraps hx hy
  refine impl_cell_square.calls x y _ W ?_
  unfold impl_cell_square.f
  rw [s1, s2, s3]
theorem wf60 {x : Int} (hx : -60 ≤ x ∧ x ≤ 60) : (Lit.int .i64 x).wf = true := i64_ok (by omega) (by omega)
set_option maxHeartbeats 4000000 in
set_option maxRecDepth 100000 in
theorem impl_InnerSquare.walk (n k : Int) (w : World) : Calls Try.prog 34 #[.int .i64 n, .int .i64 k] w fun e w' => e = .returned (.tuple #[.int .i64 (innerV n k), .bool (okGrid n k)]) ∧ Below w.heap.size w w' := by
  have HG := Aside0.mk (fun W => grown_calls n k W)
  have hu76 := Try.underlying76
  cases ho : okGrid n k with
  | false =>
    rw [inner0 ho]
    rw [ho] at HG
    clear ho
    go_enter Try.func34, Try.ntmps34
    go_wp2_with (first | (go_at_call 67; (with_reducible refine (HG.out _).mono ?_); rintro e w1 (⟨_, rfl, hB⟩ | ⟨h, _⟩); rotate_left; (exact absurd h (by decide)); have HB := Aside0.mk hB; clear hB))
    go_ret2
    exact ⟨rfl, HB.out⟩
  | true =>
    rw [inner1 ho]
    have hL := least_60 (grid_box ho)
    have h16 := grid_16 ho
    rw [ho] at HG
    clear ho
    generalize gridS n k = S at *
    generalize inX S.f (-60) 121 121 (-60) 1048576 = V at *
    replace hL := Aside0.mk hL
    replace h16 := Aside0.mk h16
    go_enter Try.func34, Try.ntmps34
    go_wp2_with (first | (go_at_call 67; (with_reducible refine (HG.out _).mono ?_); rintro e w1 (⟨h, _⟩ | ⟨_, g, gm, N, vc, rfl, hB, hG⟩); (exact absurd h (by decide)); have HB := Aside0.mk hB; clear hB))
    go_loopg [8] 17 (fun m v8 wr => ∃ (x : Nat), v8 = .int .i64 (x : Int) ∧ Aside0 (x + m = 17 ∧ (m = 0 → (S.f 16 0).isSome = true)) ∧ Aside0 (wr = w1))
    case atStart => exact ⟨0, rfl, ⟨by omega, by omega⟩, ⟨rfl⟩⟩
    case round =>
      obtain ⟨x, rfl, HI, HW⟩ := hrel
      obtain rfl := HW.out
      clear HW
      cases gk with
      | zero =>
        have := HI.out.2 rfl
        rw [h16.out] at this
        cases this
      | succ m =>
        have hxb : (x : Int) ≤ 16 := by have := HI.out; omega
        have hwx := wf60 (x := (x : Int)) (by omega)
        have hw0 := wf60 (x := 0) (by omega)
        obtain ⟨c, hlook, hat⟩ := hG.out.look hwx hw0
        clear hat
        have g0 := blk_cell hG.out.blk 0
        simp at g0
        cases hF : S.f x 0 with
        | some r =>
          rw [hF] at hlook
          simp at hlook
          have hlast : Aside0 (x + 1 + m = 17 ∧ (m = 0 → (S.f 16 0).isSome = true)) := by
            have h1 := HI.out.1
            refine ⟨by omega, fun hm => ?_⟩
            have e : (x : Int) = 16 := by omega
            rw [e] at hF
            rw [hF]
            rfl
          have hw := wrap_id (x := (x : Int) + 1) (by omega) (by omega)
          go_wp2_with (fail)
          go_roundg m
          case measure => omega
          case rel => exact ⟨x + 1, by first | rfl | go_num, hlast, ⟨rfl⟩⟩
        | none =>
          rw [hF] at hlook
          simp at hlook
          have hb := least_box (F := S.f) (x := (x : Int)) (l := (x : Int) * x) (n := 2 * x + 1) (by omega) (by omega) (by unfold qs; simp) hF
          have hV := hb.one hL.out
          replace hV := Aside0.mk hV
          have s1 := (sq_wraps (x := (x : Int)) (y := 0) (by omega) (by omega)).1
          have hwn := wrap_id (x := -(x : Int)) (by omega) (by omega)
          replace hF := Aside0.mk hF
          clear hb
          obtain ⟨l0, hl0⟩ : ∃ l0, l0 = (x : Int) * x := ⟨_, rfl⟩
          rw [← hl0] at hV
          have s1 : wrap64 ((x : Int) * x) = l0 := by rw [hl0]; exact s1
          clear hl0
          go_wp2_with (fail)
          (try simp only [s1])
          go_loopg [11, 12] (2 * x + 1) (fun m v11 v12 wr => ∃ (a l : Int), v11 = .int .i64 l ∧ v12 = .int .i64 a ∧ Aside0 (a + m = (x : Int) + 1 ∧ -(x : Int) ≤ a) ∧ Aside0 (inX S.f (-(x : Int)) (2 * x + 1) m a l = V) ∧ Aside0 (GroAt wr w.heap.size g gm N vc S.f S.cells S.steps) ∧ Aside0 (Below w.heap.size w wr))
          case atStart => exact ⟨-(x : Int), l0, rfl, rfl, ⟨by omega⟩, hV, hG, HB⟩
          case round =>
            clear hV hG HB hlook g0
            obtain ⟨a, l, rfl, rfl, HI2, HV, HGG, HB⟩ := hrel
            cases gk with
            | zero =>
              have hi : ¬ (a ≤ (x : Int)) := by have := HI2.out; omega
              have hv : l = V := HV.out
              subst hv
              go_wp2_with (fail)
              go_ret2
              exact ⟨rfl, HB.out⟩
            | succ m2 =>
              have hi : a ≤ (x : Int) := by have := HI2.out; omega
              have HV0 : Aside0 (inX S.f (-(x : Int)) (2 * x + 1) m2 (a + 1) (inY S.f a (2 * x + 1) (-(x : Int)) l) = V) := ⟨HV.out⟩
              go_wp2_with (fail)
              obtain ⟨Wo, hWo⟩ : ∃ W, W = wr := ⟨wr, rfl⟩
              subst hWo
              go_loopg [11, 13] (2 * x + 1) (fun q v11 v13 wq => ∃ (b l1 : Int), v11 = .int .i64 l1 ∧ v13 = .int .i64 b ∧ Aside0 (b + q = (x : Int) + 1 ∧ -(x : Int) ≤ b) ∧ Aside0 (inX S.f (-(x : Int)) (2 * x + 1) m2 (a + 1) (inY S.f a q b l1) = V) ∧ Aside0 (GroAt wq w.heap.size g gm N vc S.f S.cells S.steps) ∧ Aside0 (Below w.heap.size w wq))
              case atStart => exact ⟨-(x : Int), l, rfl, rfl, ⟨by omega⟩, HV0, HGG, HB⟩
              case round =>
                clear HV HV0 HGG HB
                obtain ⟨b, l1, rfl, rfl, HJ, HV, HGG, HB⟩ := hrel
                cases gk with
                | zero =>
                  have hj : ¬ (b ≤ (x : Int)) := by have := HJ.out; omega
                  have hv : Aside0 (inX S.f (-(x : Int)) (2 * x + 1) m2 (a + 1) l1 = V) := ⟨HV.out⟩
                  have hw := wrap_id (x := a + 1) (by have := HI2.out; omega) (by omega)
                  go_wp2_with (fail)
                  go_roundg m2
                  case measure => omega
                  case rel => exact ⟨a + 1, l1, by first | rfl | go_num, by first | rfl | go_num, ⟨by have := HI2.out; omega⟩, hv, HGG, HB⟩
                | succ q =>
                  have hj : b ≤ (x : Int) := by have := HJ.out; omega
                  have ba : -60 ≤ a ∧ a ≤ 60 := by have := HI2.out; omega
                  have bb : -60 ≤ b ∧ b ≤ 60 := by have := HJ.out; omega
                  obtain ⟨c2, hlook, hat⟩ := HGG.out.look (wf60 ba) (wf60 bb)
                  clear hat
                  have g0 := blk_cell HGG.out.blk 0
                  simp at g0
                  have hw := wrap_id (x := b + 1) (by omega) (by omega)
                  have HQ := Aside0.mk (square_any ba bb)
                  have hV1 : inX S.f (-(x : Int)) (2 * x + 1) m2 (a + 1) (inY S.f a q (b + 1) (if (S.f a b).isSome = true then l1 else lst l1 (qs a b))) = V := HV.out
                  replace ba := Aside0.mk ba
                  replace bb := Aside0.mk bb
                  clear HV
                  cases hF2 : S.f a b with
                  | some r =>
                    rw [hF2] at hV1 hlook
                    simp at hlook
                    replace hV1 : Aside0 (inX S.f (-(x : Int)) (2 * x + 1) m2 (a + 1) (inY S.f a q (b + 1) l1) = V) := ⟨hV1⟩
                    go_wp2_with (fail)
                    go_roundg q
                    case measure => omega
                    case rel => exact ⟨b + 1, l1, by first | rfl | go_num, by first | rfl | go_num, ⟨by have := HJ.out; omega⟩, hV1, HGG, HB⟩
                  | none =>
                    rw [hF2] at hV1 hlook
                    simp at hlook
                    replace hV1 : inX S.f (-(x : Int)) (2 * x + 1) m2 (a + 1) (inY S.f a q (b + 1) (lst l1 (qs a b))) = V := hV1
                    obtain ⟨l2, e2⟩ : ∃ l2, (if qs a b < l1 then qs a b else l1) = l2 := ⟨_, rfl⟩
                    have e3 : lst l1 (qs a b) = l2 := by
                      rw [← e2]
                      unfold lst
                      split <;> split <;> omega
                    rw [e3] at hV1
                    clear e3
                    obtain ⟨t, ht⟩ : ∃ t, t = qs a b := ⟨_, rfl⟩
                    rw [← ht] at e2 HQ
                    clear ht
                    replace hV1 := Aside0.mk hV1
                    go_wp2_with (first | (go_at_call 78; (with_reducible refine (HQ.out _).mono ?_); rintro e w9 ⟨rfl, hB9⟩; have HB9 := Aside0.mk hB9; clear hB9))
                    (try simp only [hw])
                    go_roundg q
                    case measure => omega
                    case rel => exact ⟨b + 1, l2, by first | rfl | go_num, by first | rfl | go_num, ⟨by have := HJ.out; omega⟩, hV1, ⟨HGG.out.below HB9.out⟩, ⟨HB.out.trans (HB9.out.mono HB.out.size)⟩⟩
theorem impl_InnerSquare.calls (n k : Int) (r1 : Int) (r2 : Bool) (w : World) (h : impl_InnerSquare.f n k = some (r1, r2)) :
    Calls Try.prog 34 #[.int .i64 n, .int .i64 k] w fun e w' => e = .returned (.tuple #[.int .i64 r1, .bool r2]) ∧ Below w.heap.size w w' := by
  have e := Option.some.inj h
  injection e with e1 e2
  subst e1 e2
  exact impl_InnerSquare.walk n k w
end Go.Proofs.Ytjedhjeijpbobaa.G8
