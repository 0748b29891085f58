/-
  Texts of the seat, merged (part 4).
-/
import Derived.Deep.AppendLies
import Derived.Test.YtnbnalbomflafaaProg
import Derived.Below
import Derived.Deep.Draws
import Derived.Maps.AppendAt
import Derived.OwnWalk
import Derived.Laws.BytesArg
import Derived.Laws.MakeOwn
import Derived.Laws.OwnMore
import Derived.Deep.OwnRows
import Derived.Tactics
import Derived.Lib.ConvBytes
import Derived.Laws.Slices
import Derived.WalkKit
import Derived.KernelRfl
import Derived.RowKit3
import Derived.Deep.LoopGhost
import Derived.Deep.QuietTactic
import Derived.BigQuiet
import Derived.WideLaws
import Derived.Deep.DeepCutAuto
import Derived.Deep.CutBlock
import Derived.Deep.RegionHeld3
import Derived.Laws.Rows
import Derived.Lib.AppendStr
import Derived.ArgAppend
import Derived.Laws.IdiomCopy
import Derived.OrdersHeld
import Derived.Laws.BitsLemmas
import Derived.RowKit
import Derived.Test.YtnbnalbomflafaaX12WWords
import Derived.Test.YtnbnalbomflafaaX12WLast
import Derived.Test.YtnbnalbomflafaaX12WTab
import Derived.Test.YtnbnalbomflafaaX12WFour
import Derived.Test.YtnbnalbomflafaaX12WQPut
import Derived.Test.YtnbnalbomflafaaX12WApart
import Derived.Test.YtnbnalbomflafaaX12WArr
import Derived.Test.YtnbnalbomflafaaX12WZeros
import Derived.Test.YtnbnalbomflafaaX12WFoot
import Derived.Test.YtnbnalbomflafaaX12WKept
import Derived.Test.YtnbnalbomflafaaX12WShare
import Derived.Test.YtnbnalbomflafaaX12WN
import Derived.Test.YtnbnalbomflafaaX12WFootNe
import Derived.Test.YtnbnalbomflafaaX12WAt
import Derived.Test.YtnbnalbomflafaaX12WEqStruct
import Derived.Test.YtnbnalbomflafaaX12WRepsOne
import Derived.Test.YtnbnalbomflafaaX12WInv
import Derived.Test.YtnbnalbomflafaaX12WInvWords
import Derived.Test.YtnbnalbomflafaaX12WGuard
import Derived.Test.YtnbnalbomflafaaX12WNEv
import Derived.Test.YtnbnalbomflafaaX12WMore
import Derived.Test.YtnbnalbomflafaaX123
set_option linter.unusedVariables false
set_option linter.unusedSimpArgs false
namespace Go.Proofs.Ytnbnalbomflafaa.RA
open Go.RowKit YtnbnalbomflafaaW.PrintWords YtnbnalbomflafaaW.PrintLast YtnbnalbomflafaaW.PrintMore
open GA
open GR hiding rd_L1 at_L1
open HB hiding rd_L1 at_L1
open KA
theorem canEnd_c (l : List (List Int)) (a b : Int) (W : World) (v : Value) (hv : RowsC W v l) : Calls Try.prog 81 #[.agg #[v], .int .i64 a, .int .i64 b] W fun e w' => e = .returned (.bool (goodB l a b)) ∧ Below W.heap.size W w' := by
 obtain ⟨A, c, rfl, hc, hC⟩ := hv
 exact impl_canEnd.calls 400 A c l a b _ W hC hc ((goodB_is l a b).1 400 (Nat.le_refl _)).2
theorem noI_D (w : World) (N : Nat) (hN : N ≤ w.heap.size) : ListD (w.alloc (.cells #[] 3)) N (.slice (some ⟨w.heap.size, 0, none⟩) 0 0) [] :=
 ⟨rfl, .inr ⟨w.heap.size, 0, #[], rfl, hN, blk_new w _, Nat.le_refl _, by unfold maxLen; simp, rfl, rfl⟩⟩
theorem clone_c (x : List Int) (W : World) (u : Value) (hu : ListC W u x) (hl : x.length ≤ 100) : Calls Try.prog 114 #[u] W fun e w' => ∃ v, e = .returned v ∧ Below W.heap.size W w' ∧ Aside0 (ListD w' W.heap.size v x) := by
 obtain ⟨A2, c2, rfl, hc2, hC2⟩ := hu
 refine (clone_calls A2 c2 x W (by omega) hC2).mono ?_
 rintro e w' ⟨v, rfl, hR, hB⟩
 exact ⟨v, rfl, hB, ⟨Kd.own_of_R hR⟩⟩
theorem listD_form {w : World} {N : Nat} {v : Value} {r : List Int} (h : ListD w N v r) (hp : 0 < r.length) : ∃ G cap, v = .slice (some ⟨G, 0, none⟩) r.length cap := by
 rcases h.2 with ⟨h1, h2⟩ | ⟨g, cap, cur, h1, _⟩
 ·omega
 ·exact ⟨g, cap, h1⟩
theorem ListD.lower' {w : World} {base base' : Nat} {v : Value} {l : List Int} (h : ListD w base v l) (hb : base' ≤ base) : ListD w base' v l := own_weaken h hb
end Go.Proofs.Ytnbnalbomflafaa.RA
namespace Go.Proofs.Ytnbnalbomflafaa.DT
open Go.RowKit YtnbnalbomflafaaW.PrintWords YtnbnalbomflafaaW.PrintLast YtnbnalbomflafaaW.PrintMore
open GA
open RA
def DT17 : Bool × List (List Nat × List Nat) := (true, [([], []), ([], []), ([], []), ([], []), ([], []), ([], []), ([4, 5], [4, 5]), ([6], [6]), ([], []), ([], []), ([8, 9], [8, 9]), ([10], [10]), ([0, 1, 0, 1, 4, 5, 6, 7, 11], [0, 1]), ([12, 7, 0, 1, 4, 5, 6, 7, 11], [7, 12]), ([2, 3, 0, 1, 2, 3, 4, 5, 6, 7, 8, 9, 10, 11, 12, 13], [2, 3]), ([14, 11, 13, 0, 1, 2, 3, 4, 5, 6, 7, 8, 9, 10, 11, 12, 13], [11, 14])])
def DB17 : List Nat := [0, 0, 0, 0, 0, 0, 48, 112, 0, 0, 768, 1792, 4083, 8179, 16383, 32767]
theorem dtab17 : rtab .any (opsOf Try.f118 17) = DT17 := by kernel_rfl
theorem dbits17 : waitsOk DT17.2 DB17 = true := by kernel_rfl
def DT25 : Bool × List (List Nat × List Nat) := (true, [([], []), ([], []), ([0, 1], [0, 1]), ([2], [2]), ([], []), ([], []), ([], []), ([5, 6], [5, 6]), ([7], [7]), ([], []), ([8, 9], [8, 9]), ([10], [10]), ([], []), ([], []), ([12, 13], [12, 13]), ([14], [14]), ([], []), ([15, 16], [15, 16]), ([17], [17]), ([11, 18], [11, 18]), ([], []), ([], []), ([20, 21], [20, 21]), ([22], [22]), ([], []), ([23, 24], [23, 24]), ([25], [25]), ([], []), ([], []), ([27, 28], [27, 28]), ([29], [29]), ([], []), ([30, 31], [30, 31]), ([32], [32]), ([26, 33], [26, 33]), ([19, 34], [19, 34]), ([], []), ([35, 36], [35, 36]), ([3, 4, 0, 1, 2, 3, 4, 5, 6, 7, 8, 9, 10, 11, 12, 13, 14, 15, 16, 17, 18, 19, 20, 21, 22, 23, 24, 25, 26, 27, 28, 29, 30, 31, 32, 33, 34, 35, 36, 37], [3, 4]), ([38, 37, 0, 1, 2, 3, 4, 5, 6, 7, 8, 9, 10, 11, 12, 13, 14, 15, 16, 17, 18, 19, 20, 21, 22, 23, 24, 25, 26, 27, 28, 29, 30, 31, 32, 33, 34, 35, 36, 37], [37, 38])])
def DB25 : List Nat := [0, 0, 3, 7, 0, 0, 0, 96, 224, 0, 992, 2016, 0, 0, 12288, 28672, 0, 126976, 258048, 524256, 0, 0, 3145728, 7340032, 0, 32505856, 66060288, 0, 0, 402653184, 939524096, 0, 4160749568, 8455716864, 17178820608, 34359738336, 0, 137438953440, 274877906943, 549755813887]
theorem dtab25 : rtab .any (opsOf Try.f118 25) = DT25 := by kernel_rfl
theorem dbits25 : waitsOk DT25.2 DB25 = true := by kernel_rfl
theorem far_cell (w : World) (g p k : Nat) (v : Value) (h : ¬ k = p) : (w.setCell ⟨g, p, none⟩ v).cell? ⟨g, k, none⟩ = w.cell? ⟨g, k, none⟩ := by
 unfold World.setCell World.cell?
 simp only [Array.getElem?_modify, if_true]
 cases w.heap[g]? with
 | none => rfl
 | some o =>
  cases o <;> simp [Array.getElem?_setIfInBounds, Ne.symm h]
theorem far_frozen (w : World) (g p k : Nat) (v : Value) : (w.setCell ⟨g, p, none⟩ v).frozen? ⟨g, k, none⟩ = w.frozen? ⟨g, k, none⟩ := by
 unfold World.setCell World.frozen?
 simp only [Array.getElem?_modify, if_true]
 cases w.heap[g]? with
 | none => rfl
 | some o => cases o <;> simp
theorem info37 : (Try.prog.info? 37).map (fun i => (i.zero, i.size, i.bytes)) = some (some (.slice none 0 0), 1, 24) := by kernel_rfl
theorem rowsD_empty (w : World) (N : Nat) (hN : N ≤ w.heap.size) : RowsD (w.alloc (.cells #[] 37)) N (.slice (some ⟨w.heap.size, 0, none⟩) 0 0) [] :=
 ⟨[], ⟨rfl, .inr ⟨w.heap.size, 0, #[], rfl, hN, blk_new w _, Nat.le_refl _, by unfold maxLen; simp, rfl, rfl⟩⟩, fun i r h => by simp at h, fun i j v u k h => by simp at h⟩
theorem rowsD_more {wr w5 w1 : World} {N : Nat} {vc v v1 : Value} {rs : List (List Int)} {r : List Int} {L : List Value} (h1 : wr.ownsRow N 37 1 vc rs.length L) (h2 : RowsL wr N rs L) (hN : N ≤ wr.heap.size) (hB : Below wr.heap.size wr w5) (hv : ListD w5 wr.heap.size v r) (hown : w1.ownsRow N 37 1 v1 (L ++ [v]).length (L ++ [v])) (hg : w5.grownBy w1 vc.ownBlock) : RowsD w1 N v1 (rs ++ [r]) := by
 have hLn : L.length = rs.length := by have := own_len h1; omega
 refine RowsD.app h1 h2 (own_weaken (own_move hv fun k hk => hg.block k (own_lt hv k hk) fun c => ?_) hN) (fun k hk => own_base hv k hk) (by rw [List.length_append, List.length_singleton, hLn] at hown; exact hown) fun b hb hne => (hg.block b (by have := hB.size; omega) (fun c => hne (by first | exact c | exact c.symm))).trans (hB.block b hb)
 have q1 := own_base hv k hk
 have q2 := own_lt h1 k (by first | exact c | exact c.symm)
 omega
theorem elim_congr {n k e : Nat} {M A A' O : Nat → Nat → Int} {s t : Int} (h : Elim n k M A O s t e) (hA : ∀ r c, r < n → c < n → A' r c = A r c) : Elim n k M A' O s t e :=
 ⟨h.sgn, h.one, h.ne, h.lst, h.bnd, fun r p q hp hq => by
  rw [← h.min r p q hp hq]
  exact D_congr fun i j hi hj => hA _ _ (hp i hi).2 (hq j hj).2⟩
theorem fe_le {k : Nat} (hk : k ≤ 6) : fact k * 5 ^ k ≤ 11250000 := by
 have : k = 0 ∨ k = 1 ∨ k = 2 ∨ k = 3 ∨ k = 4 ∨ k = 5 ∨ k = 6 := by omega
 rcases this with h | h | h | h | h | h | h <;> rw [h] <;> decide
theorem det_val {n k i j : Nat} {M A O : Nat → Nat → Int} {s last x : Int} (h : Elim n k M A O s last 5) (hn : n ≤ 6) (hk : k < n) (hi : k < i) (hin : i < n) (hj : k < j) (hjn : j < n) (hx : A i j * A k k - A i k * A k j = last * x) (hl : last ≠ 0) :
  wrap64 (Int.tdiv (wrap64 (wrap64 (A i j * A k k) - wrap64 (A i k * A k j))) last) = x := by
 have hf := fe_le (k := k + 1) (by omega)
 have b1 := Nat.le_trans (inv_bound h (by omega : k ≤ i) hin (by omega : k ≤ j) hjn) hf
 have b2 := Nat.le_trans (inv_bound h (Nat.le_refl k) hk (Nat.le_refl k) hk) hf
 have b3 := Nat.le_trans (inv_bound h (by omega : k ≤ i) hin (Nat.le_refl k) hk) hf
 have b4 := Nat.le_trans (inv_bound h (Nat.le_refl k) hk (by omega : k ≤ j) hjn) hf
 have p1 : (A i j * A k k).natAbs ≤ 11250000 * 11250000 := by rw [Int.natAbs_mul]; exact Nat.mul_le_mul b1 b2
 have p2 : (A i k * A k j).natAbs ≤ 11250000 * 11250000 := by rw [Int.natAbs_mul]; exact Nat.mul_le_mul b3 b4
 have q1 : wrap64 (A i j * A k k) = A i j * A k k := wrap_id (by omega) (by omega)
 have q2 : wrap64 (A i k * A k j) = A i k * A k j := wrap_id (by omega) (by omega)
 rw [q1, q2]
 have p3 : (last * x).natAbs ≤ 300000000000000 := by rw [← hx]; omega
 have q3 : wrap64 (A i j * A k k - A i k * A k j) = last * x := by rw [← hx]; exact wrap_id (by omega) (by omega)
 rw [q3, Int.mul_tdiv_cancel_left _ hl]
 rw [Int.natAbs_mul] at p3
 have p4 : 1 * x.natAbs ≤ last.natAbs * x.natAbs := Nat.mul_le_mul_right _ (by omega)
 exact wrap_id (by omega) (by omega)
def Mid (n k i j : Nat) (A X : Nat → Nat → Int) (rs : List (List Int)) : Prop := ∀ r c, r < n → c < n → matF rs r c = if k < r ∧ k < c ∧ (r < i ∨ r = i ∧ c < j) then X r c else A r c
set_option maxHeartbeats 8000000 in
set_option maxRecDepth 100000 in
theorem det_c (n : Nat) (rows : List (List Int)) (hsq : Sq n rows) (hn : n ≤ 6) (hb : ∀ r c, r < n → c < n → (matF rows r c).natAbs ≤ 5) (w : World) (v : Value) (hv : RowsC w v rows) :
  Calls Try.prog 118 #[v] w fun e w' => e = .returned (.int .i64 (D n (matF rows))) ∧ Below w.heap.size w w' := by
 obtain ⟨A, c, rfl, hc, hC⟩ := hv
 have hl := hsq.len
 rw [hl] at hC ⊢
 have HC := Aside0.mk hC
 have HBND := Aside0.mk hb
 have HSQ := Aside0.mk hsq
 have HLN := Aside0.mk hl
 clear hC hb hc hsq hl
 go_enter Try.func118, Try.ntmps118
 have HE := Aside0.mk (rowsD_empty w w.heap.size (Nat.le_refl _))
 have HB0 : Aside0 (Below w.heap.size w (w.alloc (.cells #[] 37))) := ⟨(Below.refl _ _).alloc (Nat.le_refl _) _⟩
 go_wp2_with (fail)
 go_loopg [6, 18] n (fun kq v6 v18 wr => ∃ (i : Nat) (A6 : Option Addr) (c6 : Nat), v18 = .int .i64 (i : Int) ∧ v6 = .slice A6 i c6 ∧ Aside0 (i + kq = n) ∧ Aside0 (RowsD wr w.heap.size (.slice A6 i c6) (rows.take i)) ∧ Aside0 (Below w.heap.size w wr))
 case atStart => exact ⟨0, _, _, rfl, rfl, ⟨by omega⟩, HE, HB0⟩
 case round =>
  clear HE HB0
  obtain ⟨i, A6, c6, rfl, rfl, HI, HR, HB⟩ := hrel
  cases gk with
  | zero =>
   have hi : ¬ ((i : Int) < (n : Int)) := by have := HI.out; omega
   have e0 : n = i := by have := HI.out; omega
   subst e0
   have HR2 : Aside0 (RowsD wr w.heap.size (.slice A6 n c6) rows) := by
    have := HR.out
    rw [List.take_of_length_le (by have := HLN.out; omega)] at this
    exact ⟨this⟩
   clear HR HI
   go_wp2_with (fail)
   go_loopg [4, 5, 29] n (fun kq v4 v5 v29 wq => ∃ (k : Nat) (s last : Int) (rs : List (List Int)) (O : Nat → Nat → Int), v4 = .int .i64 s ∧ v5 = .int .i64 last ∧ v29 = .int .i64 (k : Int) ∧ Aside0 (k + kq = n) ∧ Aside0 (Sq n rs) ∧ Aside0 (Elim n k (matF rows) (matF rs) O s last 5) ∧ Aside0 (RowsD wq w.heap.size (.slice A6 n c6) rs) ∧ Aside0 (Below w.heap.size w wq))
   case atStart => exact ⟨0, 1, 1, rows, matF rows, rfl, rfl, rfl, ⟨by omega⟩, HSQ, ⟨inv_start HBND.out⟩, HR2, HB⟩
   case round =>
    clear HR2 HB
    obtain ⟨k, s, last, rs, O, rfl, rfl, rfl, HI, HS, HEL, HR, HB⟩ := hrel
    cases gk with
    | zero =>
     have e1 : n = k := by have := HI.out; omega
     subst e1
     have hk : ¬ ((n : Int) < (n : Int)) := by omega
     have hend := inv_end HEL.out
     have hfin : wrap64 (s * last) = D n (matF rows) := by
      rw [hend]
      have h1 := HEL.out.one
      have h2 : last.natAbs ≤ 11250000 := by
       rw [HEL.out.lst]
       exact Nat.le_trans (D_bound HEL.out.bnd) (fe_le hn)
      rcases h1 with q | q <;> rw [q] <;> exact wrap_id (by omega) (by omega)
     have HFIN := Aside0.mk hfin
     clear hend hfin
     go_wp2_with (fail)
     go_ret
     exact ⟨by rw [← HFIN.out]; rfl, HB.out⟩
    | succ m =>
     have hkn : k < n := by have := HI.out; omega
     have hk : (k : Int) < (n : Int) := by omega
     obtain ⟨g, cap, cur, hf_, hgN, _, _⟩ := rowsD_get HR.out (by rw [HS.out.len]; omega)
     rw [HS.out.len] at hf_
     injection hf_ with e1 _ e2
     subst e1 e2
     go_upto_region 12 with (fail)
     go_loopg [10] n (fun m2 v10 wq => ∃ p : Nat, v10 = .int .i64 (p : Int) ∧ Aside0 (k ≤ p ∧ p ≤ n ∧ n - p ≤ m2 ∧ ∀ q, k ≤ q → q < p → matF rs q k = 0) ∧ Aside0 (RowsD wq w.heap.size (.slice (some ⟨g, 0, none⟩) n c6) rs) ∧ Aside0 (Below w.heap.size w wq))
     case atStart => exact ⟨k, rfl, ⟨Nat.le_refl _, by omega, by omega, fun q h1 h2 => by omega⟩, HR, HB⟩
     case round =>
      clear HR HB
      obtain ⟨p, rfl, HP, HR, HB⟩ := hrel
      by_cases hpn : p < n
      ·have hp1 : (p : Int) < (n : Int) := by omega
       obtain ⟨_, zp, gi, ci, cp, hNi, _, hcell, _⟩ := cells_of HR.out HS.out hpn
       have ck := (hcell k hkn).1
       clear hcell
       by_cases hz : matF rs p k = 0
       ·obtain ⟨m3, rfl⟩ : ∃ y, gk = y + 1 := ⟨gk - 1, by have := HP.out.2.2.1; omega⟩
        rw [hz] at ck
        have HZ := Aside0.mk hz
        clear hz
        go_wp2_with (fail)
        go_roundg m3
        case measure => omega
        case rel => exact ⟨p + 1, by first | rfl | go_num, ⟨by have := HP.out.1; omega, by omega, by have := HP.out.2.2.1; omega, fun q h1 h2 => by
         by_cases hq : q = p
         ·rw [hq]; exact HZ.out
         ·exact HP.out.2.2.2 q h1 (by omega)⟩, HR, HB⟩
       ·have hz2 : (matF rs p k == 0) = false := beq_eq_false_iff_ne.mpr hz
        have hz3 : (matF rs p k != 0) = true := bne_iff_ne.mpr hz
        have HZ := Aside0.mk hz
        generalize hax : matF rs p k = ax at *
        have hpe : ¬ ((p : Int) = (n : Int)) := by omega
        have hpe2 : ((p : Int) == (n : Int)) = false := beq_eq_false_iff_ne.mpr hpe
        go_upto_if 53 with (fail)
        go_cut [4] (fun v4 wc => ∃ (s2 : Int) (rs2 : List (List Int)) (O2 : Nat → Nat → Int), v4 = .int .i64 s2 ∧ Aside0 (Sq n rs2) ∧ Aside0 (Elim n k (matF rows) (matF rs2) O2 s2 last 5) ∧ Aside0 (matF rs2 k k ≠ 0) ∧ Aside0 (RowsD wc w.heap.size (.slice (some ⟨g, 0, none⟩) n c6) rs2) ∧ Aside0 (Below w.heap.size w wc))
        case first =>
         by_cases hpk : k = p
         ·subst hpk
          have hne : ((k : Int) != (k : Int)) = false := by simp
          go_wp2_with (fail)
          go_meet
          case rel => exact ⟨s, rs, O, rfl, HS, HEL, ⟨by rw [hax]; exact HZ.out⟩, HR, HB⟩
         ·have hne : ((p : Int) != (k : Int)) = true := bne_iff_ne.mpr (by omega)
          obtain ⟨_, zk, gk, ck_, c0, _, _, _, _⟩ := cells_of HR.out HS.out hkn
          have c1 := cp
          have HSW := Aside0.mk (swap_of HR.out HS.out hkn hpn hpk c0 c1)
          have HBS : Aside0 (Below w.heap.size w ((wr.setCell ⟨g, p, none⟩ (.slice (some ⟨gk, 0, none⟩) n ck_)).setCell ⟨g, k, none⟩ (.slice (some ⟨gi, 0, none⟩) n ci))) := ⟨(HB.out.setCell hgN _).setCell hgN _⟩
          have hws : wrap64 (-s) = -s := by
           have := HEL.out.one
           exact wrap_id (by omega) (by omega)
          have HWS := Aside0.mk hws
          clear hws
          go_upto_region 17 with (fail)
          replace HSW : Aside0 (RowsD ((wr.drew.setCell ⟨g, p, none⟩ (.slice (some ⟨gk, 0, none⟩) n ck_)).setCell ⟨g, k, none⟩ (.slice (some ⟨gi, 0, none⟩) n ci)) w.heap.size (.slice (some ⟨g, 0, none⟩) n c6) (swM rs k p)) := ⟨HSW.out.keep fun b hb => rfl⟩
          replace HBS : Aside0 (Below w.heap.size w ((wr.drew.setCell ⟨g, p, none⟩ (.slice (some ⟨gk, 0, none⟩) n ck_)).setCell ⟨g, k, none⟩ (.slice (some ⟨gi, 0, none⟩) n ci))) := ⟨((bN_ HB.out 1).setCell hgN _).setCell hgN _⟩
          replace c0 : wr.drew.cell? ⟨g, k, none⟩ = some (.slice (some ⟨gk, 0, none⟩) n ck_) := c0
          replace c1 : wr.drew.cell? ⟨g, p, none⟩ = some (.slice (some ⟨gi, 0, none⟩) n ci) := c1
          replace zk : wr.drew.frozen? ⟨g, k, none⟩ = false := zk
          replace zp : wr.drew.frozen? ⟨g, p, none⟩ = false := zp
          clear cp ck HR HB
          refine start_ (n := 16) (S := fun w' => w'.cell? ⟨g, k, none⟩ = some (.slice (some ⟨gk, 0, none⟩) n ck_) ∧ w'.cell? ⟨g, p, none⟩ = some (.slice (some ⟨gi, 0, none⟩) n ci)) (ds := [13, 15]) #[false, false, false, false, false, false, false, false, false, false, false, false, false, false, false, false] (by kernel_rfl) rfl rfl ⟨c0, c1⟩ (fun hHeld => ?_)
          refine with_tabW dtab17 dbits17 (fun HT_ HW_ => ?_)
          generalize wr.drew = W9 at *
          refine pu_ (i := 0) (N := some 54) (v := ?_) (a' := ?_) HT_.out rfl rfl (Or.inl ⟨by rfl, ?_⟩) ?_ ?_
          rotate_left
          ·intro w'
           go_simp
           with_reducible rfl
          rotate_left
          ·simp only [sp_]
           rfl
          refine pu_ (i := 1) (N := some 55) (v := ?_) (a' := ?_) HT_.out rfl rfl (Or.inl ⟨by rfl, ?_⟩) ?_ ?_
          rotate_left
          ·intro w'
           go_simp
           with_reducible rfl
          rotate_left
          ·simp only [sp_]
           rfl
          refine pu_ (i := 2) (N := some 56) (v := ?_) (a' := ?_) HT_.out rfl rfl (Or.inl ⟨by rfl, ?_⟩) ?_ ?_
          rotate_left
          ·intro w'
           go_simp
           with_reducible rfl
          rotate_left
          ·simp only [sp_]
           rfl
          refine pu_ (i := 3) (N := some 57) (v := ?_) (a' := ?_) HT_.out rfl rfl (Or.inl ⟨by rfl, ?_⟩) ?_ ?_
          rotate_left
          ·intro w'
           go_simp
           with_reducible rfl
          rotate_left
          ·simp only [sp_]
           rfl
          refine pu_ (i := 4) (N := some 58) (v := ?_) (a' := ?_) HT_.out rfl rfl (Or.inl ⟨by rfl, ?_⟩) ?_ ?_
          rotate_left
          ·intro w'
           go_simp
           with_reducible rfl
          rotate_left
          ·simp only [sp_]
           rfl
          refine pu_ (i := 5) (N := some 59) (v := ?_) (a' := ?_) HT_.out rfl rfl (Or.inl ⟨by rfl, ?_⟩) ?_ ?_
          rotate_left
          ·intro w'
           go_simp
           with_reducible rfl
          rotate_left
          ·simp only [sp_]
           rfl
          refine pu_ (i := 6) (N := some 60) (v := ?_) (a' := ?_) HT_.out rfl rfl (Or.inl ⟨by rfl, ?_⟩) ?_ ?_
          rotate_left
          ·intro w'
           go_simp
           with_reducible rfl
          rotate_left
          ·simp only [sp_]
           rfl
          refine tk_ (i := 7) (N := some 61) (v := ?_) (a' := ?_) HT_.out HW_.out rfl rfl (Or.inl ⟨by rfl, ?_⟩) hHeld ?_ ?_
          rotate_left
          ·rintro w' ⟨s0, s1⟩
           go_simp
           with_reducible rfl
          rotate_left
          ·simp only [sp_]
           rfl
          refine pu_ (i := 8) (N := some 62) (v := ?_) (a' := ?_) HT_.out rfl rfl (Or.inl ⟨by rfl, ?_⟩) ?_ ?_
          rotate_left
          ·intro w'
           go_simp
           with_reducible rfl
          rotate_left
          ·simp only [sp_]
           rfl
          refine pu_ (i := 9) (N := some 63) (v := ?_) (a' := ?_) HT_.out rfl rfl (Or.inl ⟨by rfl, ?_⟩) ?_ ?_
          rotate_left
          ·intro w'
           go_simp
           with_reducible rfl
          rotate_left
          ·simp only [sp_]
           rfl
          refine pu_ (i := 10) (N := some 64) (v := ?_) (a' := ?_) HT_.out rfl rfl (Or.inl ⟨by rfl, ?_⟩) ?_ ?_
          rotate_left
          ·intro w'
           go_simp
           with_reducible rfl
          rotate_left
          ·simp only [sp_]
           rfl
          refine tk_ (i := 11) (N := some 65) (v := ?_) (a' := ?_) HT_.out HW_.out rfl rfl (Or.inl ⟨by rfl, ?_⟩) hHeld ?_ ?_
          rotate_left
          ·rintro w' ⟨s0, s1⟩
           go_simp
           with_reducible rfl
          rotate_left
          ·simp only [sp_]
           rfl
          refine pu_ (i := 12) (N := some 66) (v := ?_) (a' := ?_) HT_.out rfl rfl (Or.inl ⟨by rfl, ?_⟩) ?_ ?_
          rotate_left
          ·intro w'
           go_simp
           with_reducible rfl
          rotate_left
          ·simp only [sp_]
           rfl
          have y1 : (W9.setCell ⟨g, p, none⟩ (.slice (some ⟨gk, 0, none⟩) n ck_)).cell? ⟨g, k, none⟩ = some (.slice (some ⟨gk, 0, none⟩) n ck_) := (far_cell _ _ _ _ _ hpk).trans c0
          have y2 : (W9.setCell ⟨g, p, none⟩ (.slice (some ⟨gk, 0, none⟩) n ck_)).frozen? ⟨g, k, none⟩ = false := (far_frozen _ _ _ _ _).trans zk
          refine lastS_ (i := 13) (w1 := W9.setCell ⟨g, p, none⟩ (.slice (some ⟨gk, 0, none⟩) n ck_)) #[true, true, true, true, true, true, true, true, true, true, true, true, true, true, false, false] rfl rfl (one_of HT_.out (by kernel_rfl)) (by decide) (by rfl) ?_ ?_
          ·go_simp
          (try simp only [Act.put, List.setIfInBounds_toArray, List.set_cons_zero, List.set_cons_succ])
          clear c0 c1 zp zk
          generalize W9.setCell ⟨g, p, none⟩ (.slice (some ⟨gk, 0, none⟩) n ck_) = Y at *
          refine pu_ (i := 14) (N := some 67) (v := ?_) (a' := ?_) HT_.out rfl rfl (Or.inl ⟨by rfl, ?_⟩) ?_ ?_
          rotate_left
          ·intro w'
           go_simp
           with_reducible rfl
          rotate_left
          ·simp only [sp_]
           rfl
          refine lastS_ (i := 15) (w1 := Y.setCell ⟨g, k, none⟩ (.slice (some ⟨gi, 0, none⟩) n ci)) #[true, true, true, true, true, true, true, true, true, true, true, true, true, true, true, true] rfl rfl (one_of HT_.out (by kernel_rfl)) (by decide) (by rfl) ?_ ?_
          ·go_simp
          (try simp only [Act.put, List.setIfInBounds_toArray, List.set_cons_zero, List.set_cons_succ])
          refine done_ (done_of HT_.out (by kernel_rfl)) ?_
          clear HT_ HW_ hHeld y1 y2
          generalize Y.setCell ⟨g, k, none⟩ (.slice (some ⟨gi, 0, none⟩) n ci) = Y2 at *
          go_wp2_with (fail)
          go_meet
          case rel => exact ⟨-s, swM rs k p, fun r c => O (sw k p r) c, congrArg (Value.int .i64) HWS.out, ⟨sq_swM HS.out hkn hpn⟩, ⟨elim_congr (inv_swap HEL.out (by have := HP.out.1; omega) hpn) fun r c hr hc => matF_swM HS.out hkn hpn hr hc⟩, ⟨by rw [matF_swM HS.out hkn hpn hkn hkn]; unfold sw; rw [if_pos rfl, hax]; exact HZ.out⟩, HSW, HBS⟩
        case rest =>
         clear HR HB HP HZ hz2 hz3 hpe2 cp ck zp HEL HS
         obtain ⟨s2, rs2, O2, rfl, HS2, HEL2, HNZ, HR, HB⟩ := hcut
         obtain ⟨X, hX, hE⟩ := inv_step HEL2.out hkn HNZ.out
         have HX := Aside0.mk hX
         have HE := Aside0.mk hE
         clear hX hE
         go_wp2_with (fail)
         go_loopg [11] n (fun m2 v11 wq => ∃ (i : Nat) (rs3 : List (List Int)), v11 = .int .i64 (i : Int) ∧ Aside0 (k < i ∧ i ≤ n ∧ n - i ≤ m2) ∧ Aside0 (Sq n rs3) ∧ Aside0 (Mid n k i (k + 1) (matF rs2) X rs3) ∧ Aside0 (RowsD wq w.heap.size (.slice (some ⟨g, 0, none⟩) n c6) rs3) ∧ Aside0 (Below w.heap.size w wq))
         case atStart => exact ⟨k + 1, rs2, by first | rfl | go_num, ⟨by omega, by omega, by omega⟩, HS2, ⟨fun r c hr hc => by rw [if_neg (by omega)]⟩, HR, HB⟩
         case round =>
          clear HR HB
          obtain ⟨i, rs3, rfl, HI3, HS3, HM, HR, HB⟩ := hrel
          by_cases hin : i < n
          ·have hi1 : (i : Int) < (n : Int) := by omega
           obtain ⟨m3, rfl⟩ : ∃ y, gk = y + 1 := ⟨gk - 1, by have := HI3.out.2.2; omega⟩
           go_wp2_with (fail)
           go_loopg [12] n (fun m4 v12 wq => ∃ (j : Nat) (rs4 : List (List Int)), v12 = .int .i64 (j : Int) ∧ Aside0 (k < j ∧ j ≤ n ∧ n - j ≤ m4) ∧ Aside0 (Sq n rs4) ∧ Aside0 (Mid n k i j (matF rs2) X rs4) ∧ Aside0 (RowsD wq w.heap.size (.slice (some ⟨g, 0, none⟩) n c6) rs4) ∧ Aside0 (Below w.heap.size w wq))
           case atStart => exact ⟨k + 1, rs3, by first | rfl | go_num, ⟨by omega, by omega, by omega⟩, HS3, HM, HR, HB⟩
           case round =>
            clear HR HB HM HS3
            obtain ⟨j, rs4, rfl, HJ, HS4, HM, HR, HB⟩ := hrel
            by_cases hjn : j < n
            ·have hj1 : (j : Int) < (n : Int) := by omega
             obtain ⟨m5, rfl⟩ : ∃ y, gk = y + 1 := ⟨gk - 1, by have := HJ.out.2.2; omega⟩
             obtain ⟨_, _, gi, ci, c0, hNi, _, hci, hset⟩ := cells_of HR.out HS4.out hin
             obtain ⟨_, _, gk, ck_, c1, _, _, hck, _⟩ := cells_of HR.out HS4.out hkn
             have c2 := (hci j hjn).1
             have zij := (hci j hjn).2
             have c4 := (hci k hkn).1
             have c3 := (hck k hkn).1
             have c5 := (hck j hjn).1
             have hki := HI3.out.1
             have hkj := HJ.out.1
             have f1 := HM.out i j hin hjn
             rw [if_neg (by omega)] at f1
             have f2 := HM.out k k hkn hkn
             rw [if_neg (by omega)] at f2
             have f3 := HM.out i k hin hkn
             rw [if_neg (by omega)] at f3
             have f4 := HM.out k j hkn hjn
             rw [if_neg (by omega)] at f4
             have hval := det_val HEL2.out hn hkn hki hin hkj hjn (HX.out i j hki hin hkj hjn) HEL2.out.ne
             rw [← f1, ← f2, ← f3, ← f4] at hval
             have HSET := Aside0.mk (hset j (X i j))
             have HST := Aside0.mk (sq_setM (j := j) (x := X i j) HS4.out hin)
             have HMID : Aside0 (Mid n k i (j + 1) (matF rs2) X (setM rs4 i j (X i j))) := ⟨fun r c hr hc => by
              rw [matF_setM HS4.out hin hjn hr hc]
              by_cases q : r = i ∧ c = j
              ·rw [if_pos q, if_pos (by omega), q.1, q.2]
              ·rw [if_neg q, HM.out r c hr hc]
               by_cases q2 : k < r ∧ k < c ∧ (r < i ∨ r = i ∧ c < j)
               ·rw [if_pos q2, if_pos (by omega)]
               ·rw [if_neg q2, if_neg (by omega)]⟩
             have HV := Aside0.mk hval
             have hlz := HEL2.out.ne
             clear hval f1 f2 f3 f4 hci hck hset
             generalize matF rs4 i j = xij at *
             generalize matF rs4 k k = xkk at *
             generalize matF rs4 i k = xik at *
             generalize matF rs4 k j = xkj at *
             go_upto_region 25 with (fail)
             replace c0 : wr.drew.cell? ⟨g, i, none⟩ = some (.slice (some ⟨gi, 0, none⟩) n ci) := c0
             replace c1 : wr.drew.cell? ⟨g, k, none⟩ = some (.slice (some ⟨gk, 0, none⟩) n ck_) := c1
             replace c2 : wr.drew.cell? ⟨gi, j, none⟩ = some (.int .i64 xij) := c2
             replace c3 : wr.drew.cell? ⟨gk, k, none⟩ = some (.int .i64 xkk) := c3
             replace c4 : wr.drew.cell? ⟨gi, k, none⟩ = some (.int .i64 xik) := c4
             replace c5 : wr.drew.cell? ⟨gk, j, none⟩ = some (.int .i64 xkj) := c5
             replace zij : wr.drew.frozen? ⟨gi, j, none⟩ = false := zij
             replace HSET : Aside0 (RowsD (wr.drew.setCell ⟨gi, j, none⟩ (.int .i64 (X i j))) w.heap.size (.slice (some ⟨g, 0, none⟩) n c6) (setM rs4 i j (X i j))) := ⟨HSET.out.keep fun b hb => rfl⟩
             have HBS : Aside0 (Below w.heap.size w (wr.drew.setCell ⟨gi, j, none⟩ (.int .i64 (X i j)))) := ⟨(bN_ HB.out 1).setCell hNi _⟩
             clear HR HB
             refine start_ (n := 40) (S := fun w' => w'.cell? ⟨g, i, none⟩ = some (.slice (some ⟨gi, 0, none⟩) n ci) ∧ w'.cell? ⟨g, k, none⟩ = some (.slice (some ⟨gk, 0, none⟩) n ck_) ∧ w'.cell? ⟨gi, j, none⟩ = some (.int .i64 xij) ∧ w'.cell? ⟨gk, k, none⟩ = some (.int .i64 xkk) ∧ w'.cell? ⟨gi, k, none⟩ = some (.int .i64 xik) ∧ w'.cell? ⟨gk, j, none⟩ = some (.int .i64 xkj)) (ds := [39]) #[false, false, false, false, false, false, false, false, false, false, false, false, false, false, false, false, false, false, false, false, false, false, false, false, false, false, false, false, false, false, false, false, false, false, false, false, false, false, false, false] (by kernel_rfl) rfl rfl ⟨c0, c1, c2, c3, c4, c5⟩ (fun hHeld => ?_)
             refine with_tabW dtab25 dbits25 (fun HT_ HW_ => ?_)
             generalize wr.drew = W9 at *
             refine pu_ (i := 0) (N := some 84) (v := ?_) (a' := ?_) HT_.out rfl rfl (Or.inl ⟨by rfl, ?_⟩) ?_ ?_
             rotate_left
             ·intro w'
              go_simp
              with_reducible rfl
             rotate_left
             ·simp only [sp_]
              rfl
             refine pu_ (i := 1) (N := some 85) (v := ?_) (a' := ?_) HT_.out rfl rfl (Or.inl ⟨by rfl, ?_⟩) ?_ ?_
             rotate_left
             ·intro w'
              go_simp
              with_reducible rfl
             rotate_left
             ·simp only [sp_]
              rfl
             refine pu_ (i := 2) (N := some 86) (v := ?_) (a' := ?_) HT_.out rfl rfl (Or.inl ⟨by rfl, ?_⟩) ?_ ?_
             rotate_left
             ·intro w'
              go_simp
              with_reducible rfl
             rotate_left
             ·simp only [sp_]
              rfl
             refine tk_ (i := 3) (N := some 87) (v := ?_) (a' := ?_) HT_.out HW_.out rfl rfl (Or.inl ⟨by rfl, ?_⟩) hHeld ?_ ?_
             rotate_left
             ·rintro w' ⟨s0, s1, s2, s3, s4, s5⟩
              go_simp
              with_reducible rfl
             rotate_left
             ·simp only [sp_]
              rfl
             refine pu_ (i := 4) (N := some 88) (v := ?_) (a' := ?_) HT_.out rfl rfl (Or.inl ⟨by rfl, ?_⟩) ?_ ?_
             rotate_left
             ·intro w'
              go_simp
              with_reducible rfl
             rotate_left
             ·simp only [sp_]
              rfl
             refine pu_ (i := 5) (N := some 89) (v := ?_) (a' := ?_) HT_.out rfl rfl (Or.inl ⟨by rfl, ?_⟩) ?_ ?_
             rotate_left
             ·intro w'
              go_simp
              with_reducible rfl
             rotate_left
             ·simp only [sp_]
              rfl
             refine pu_ (i := 6) (N := some 90) (v := ?_) (a' := ?_) HT_.out rfl rfl (Or.inl ⟨by rfl, ?_⟩) ?_ ?_
             rotate_left
             ·intro w'
              go_simp
              with_reducible rfl
             rotate_left
             ·simp only [sp_]
              rfl
             refine pu_ (i := 7) (N := some 91) (v := ?_) (a' := ?_) HT_.out rfl rfl (Or.inl ⟨by rfl, ?_⟩) ?_ ?_
             rotate_left
             ·intro w'
              go_simp
              with_reducible rfl
             rotate_left
             ·simp only [sp_]
              rfl
             refine tk_ (i := 8) (N := some 92) (v := ?_) (a' := ?_) HT_.out HW_.out rfl rfl (Or.inl ⟨by rfl, ?_⟩) hHeld ?_ ?_
             rotate_left
             ·rintro w' ⟨s0, s1, s2, s3, s4, s5⟩
              go_simp
              with_reducible rfl
             rotate_left
             ·simp only [sp_]
              rfl
             refine pu_ (i := 9) (N := some 93) (v := ?_) (a' := ?_) HT_.out rfl rfl (Or.inl ⟨by rfl, ?_⟩) ?_ ?_
             rotate_left
             ·intro w'
              go_simp
              with_reducible rfl
             rotate_left
             ·simp only [sp_]
              rfl
             refine pu_ (i := 10) (N := some 94) (v := ?_) (a' := ?_) HT_.out rfl rfl (Or.inl ⟨by rfl, ?_⟩) ?_ ?_
             rotate_left
             ·intro w'
              go_simp
              with_reducible rfl
             rotate_left
             ·simp only [sp_]
              rfl
             refine tk_ (i := 11) (N := some 95) (v := ?_) (a' := ?_) HT_.out HW_.out rfl rfl (Or.inl ⟨by rfl, ?_⟩) hHeld ?_ ?_
             rotate_left
             ·rintro w' ⟨s0, s1, s2, s3, s4, s5⟩
              go_simp
              with_reducible rfl
             rotate_left
             ·simp only [sp_]
              rfl
             refine pu_ (i := 12) (N := some 96) (v := ?_) (a' := ?_) HT_.out rfl rfl (Or.inl ⟨by rfl, ?_⟩) ?_ ?_
             rotate_left
             ·intro w'
              go_simp
              with_reducible rfl
             rotate_left
             ·simp only [sp_]
              rfl
             refine pu_ (i := 13) (N := some 97) (v := ?_) (a' := ?_) HT_.out rfl rfl (Or.inl ⟨by rfl, ?_⟩) ?_ ?_
             rotate_left
             ·intro w'
              go_simp
              with_reducible rfl
             rotate_left
             ·simp only [sp_]
              rfl
             refine pu_ (i := 14) (N := some 98) (v := ?_) (a' := ?_) HT_.out rfl rfl (Or.inl ⟨by rfl, ?_⟩) ?_ ?_
             rotate_left
             ·intro w'
              go_simp
              with_reducible rfl
             rotate_left
             ·simp only [sp_]
              rfl
             refine tk_ (i := 15) (N := some 99) (v := ?_) (a' := ?_) HT_.out HW_.out rfl rfl (Or.inl ⟨by rfl, ?_⟩) hHeld ?_ ?_
             rotate_left
             ·rintro w' ⟨s0, s1, s2, s3, s4, s5⟩
              go_simp
              with_reducible rfl
             rotate_left
             ·simp only [sp_]
              rfl
             refine pu_ (i := 16) (N := some 100) (v := ?_) (a' := ?_) HT_.out rfl rfl (Or.inl ⟨by rfl, ?_⟩) ?_ ?_
             rotate_left
             ·intro w'
              go_simp
              with_reducible rfl
             rotate_left
             ·simp only [sp_]
              rfl
             refine pu_ (i := 17) (N := some 101) (v := ?_) (a' := ?_) HT_.out rfl rfl (Or.inl ⟨by rfl, ?_⟩) ?_ ?_
             rotate_left
             ·intro w'
              go_simp
              with_reducible rfl
             rotate_left
             ·simp only [sp_]
              rfl
             refine tk_ (i := 18) (N := some 102) (v := ?_) (a' := ?_) HT_.out HW_.out rfl rfl (Or.inl ⟨by rfl, ?_⟩) hHeld ?_ ?_
             rotate_left
             ·rintro w' ⟨s0, s1, s2, s3, s4, s5⟩
              go_simp
              with_reducible rfl
             rotate_left
             ·simp only [sp_]
              rfl
             refine pu_ (i := 19) (N := some 103) (v := ?_) (a' := ?_) HT_.out rfl rfl (Or.inl ⟨by rfl, ?_⟩) ?_ ?_
             rotate_left
             ·intro w'
              go_simp
              with_reducible rfl
             rotate_left
             ·simp only [sp_]
              rfl
             refine pu_ (i := 20) (N := some 104) (v := ?_) (a' := ?_) HT_.out rfl rfl (Or.inl ⟨by rfl, ?_⟩) ?_ ?_
             rotate_left
             ·intro w'
              go_simp
              with_reducible rfl
             rotate_left
             ·simp only [sp_]
              rfl
             refine pu_ (i := 21) (N := some 105) (v := ?_) (a' := ?_) HT_.out rfl rfl (Or.inl ⟨by rfl, ?_⟩) ?_ ?_
             rotate_left
             ·intro w'
              go_simp
              with_reducible rfl
             rotate_left
             ·simp only [sp_]
              rfl
             refine pu_ (i := 22) (N := some 106) (v := ?_) (a' := ?_) HT_.out rfl rfl (Or.inl ⟨by rfl, ?_⟩) ?_ ?_
             rotate_left
             ·intro w'
              go_simp
              with_reducible rfl
             rotate_left
             ·simp only [sp_]
              rfl
             refine tk_ (i := 23) (N := some 107) (v := ?_) (a' := ?_) HT_.out HW_.out rfl rfl (Or.inl ⟨by rfl, ?_⟩) hHeld ?_ ?_
             rotate_left
             ·rintro w' ⟨s0, s1, s2, s3, s4, s5⟩
              go_simp
              with_reducible rfl
             rotate_left
             ·simp only [sp_]
              rfl
             refine pu_ (i := 24) (N := some 108) (v := ?_) (a' := ?_) HT_.out rfl rfl (Or.inl ⟨by rfl, ?_⟩) ?_ ?_
             rotate_left
             ·intro w'
              go_simp
              with_reducible rfl
             rotate_left
             ·simp only [sp_]
              rfl
             refine pu_ (i := 25) (N := some 109) (v := ?_) (a' := ?_) HT_.out rfl rfl (Or.inl ⟨by rfl, ?_⟩) ?_ ?_
             rotate_left
             ·intro w'
              go_simp
              with_reducible rfl
             rotate_left
             ·simp only [sp_]
              rfl
             refine tk_ (i := 26) (N := some 110) (v := ?_) (a' := ?_) HT_.out HW_.out rfl rfl (Or.inl ⟨by rfl, ?_⟩) hHeld ?_ ?_
             rotate_left
             ·rintro w' ⟨s0, s1, s2, s3, s4, s5⟩
              go_simp
              with_reducible rfl
             rotate_left
             ·simp only [sp_]
              rfl
             refine pu_ (i := 27) (N := some 111) (v := ?_) (a' := ?_) HT_.out rfl rfl (Or.inl ⟨by rfl, ?_⟩) ?_ ?_
             rotate_left
             ·intro w'
              go_simp
              with_reducible rfl
             rotate_left
             ·simp only [sp_]
              rfl
             refine pu_ (i := 28) (N := some 112) (v := ?_) (a' := ?_) HT_.out rfl rfl (Or.inl ⟨by rfl, ?_⟩) ?_ ?_
             rotate_left
             ·intro w'
              go_simp
              with_reducible rfl
             rotate_left
             ·simp only [sp_]
              rfl
             refine pu_ (i := 29) (N := some 113) (v := ?_) (a' := ?_) HT_.out rfl rfl (Or.inl ⟨by rfl, ?_⟩) ?_ ?_
             rotate_left
             ·intro w'
              go_simp
              with_reducible rfl
             rotate_left
             ·simp only [sp_]
              rfl
             refine tk_ (i := 30) (N := some 114) (v := ?_) (a' := ?_) HT_.out HW_.out rfl rfl (Or.inl ⟨by rfl, ?_⟩) hHeld ?_ ?_
             rotate_left
             ·rintro w' ⟨s0, s1, s2, s3, s4, s5⟩
              go_simp
              with_reducible rfl
             rotate_left
             ·simp only [sp_]
              rfl
             refine pu_ (i := 31) (N := some 115) (v := ?_) (a' := ?_) HT_.out rfl rfl (Or.inl ⟨by rfl, ?_⟩) ?_ ?_
             rotate_left
             ·intro w'
              go_simp
              with_reducible rfl
             rotate_left
             ·simp only [sp_]
              rfl
             refine pu_ (i := 32) (N := some 116) (v := ?_) (a' := ?_) HT_.out rfl rfl (Or.inl ⟨by rfl, ?_⟩) ?_ ?_
             rotate_left
             ·intro w'
              go_simp
              with_reducible rfl
             rotate_left
             ·simp only [sp_]
              rfl
             refine tk_ (i := 33) (N := some 117) (v := ?_) (a' := ?_) HT_.out HW_.out rfl rfl (Or.inl ⟨by rfl, ?_⟩) hHeld ?_ ?_
             rotate_left
             ·rintro w' ⟨s0, s1, s2, s3, s4, s5⟩
              go_simp
              with_reducible rfl
             rotate_left
             ·simp only [sp_]
              rfl
             refine pu_ (i := 34) (N := some 118) (v := ?_) (a' := ?_) HT_.out rfl rfl (Or.inl ⟨by rfl, ?_⟩) ?_ ?_
             rotate_left
             ·intro w'
              go_simp
              with_reducible rfl
             rotate_left
             ·simp only [sp_]
              rfl
             refine pu_ (i := 35) (N := some 119) (v := ?_) (a' := ?_) HT_.out rfl rfl (Or.inl ⟨by rfl, ?_⟩) ?_ ?_
             rotate_left
             ·intro w'
              go_simp
              with_reducible rfl
             rotate_left
             ·simp only [sp_]
              rfl
             refine pu_ (i := 36) (N := some 120) (v := ?_) (a' := ?_) HT_.out rfl rfl (Or.inl ⟨by rfl, ?_⟩) ?_ ?_
             rotate_left
             ·intro w'
              go_simp
              with_reducible rfl
             rotate_left
             ·simp only [sp_]
              rfl
             refine pu_ (i := 37) (N := some 121) (v := ?_) (a' := ?_) HT_.out rfl rfl (Or.inl ⟨by rfl, ?_⟩) ?_ ?_
             rotate_left
             ·intro w'
              go_simp
              with_reducible rfl
             rotate_left
             ·simp only [sp_]
              rfl
             refine pu_ (i := 38) (N := some 122) (v := ?_) (a' := ?_) HT_.out rfl rfl (Or.inl ⟨by rfl, ?_⟩) ?_ ?_
             rotate_left
             ·intro w'
              go_simp
              with_reducible rfl
             rotate_left
             ·simp only [sp_]
              rfl
             refine lastS_ (i := 39) (w1 := W9.setCell ⟨gi, j, none⟩ (.int .i64 (wrap64 (Int.tdiv (wrap64 (wrap64 (xij * xkk) - wrap64 (xik * xkj))) last)))) #[true, true, true, true, true, true, true, true, true, true, true, true, true, true, true, true, true, true, true, true, true, true, true, true, true, true, true, true, true, true, true, true, true, true, true, true, true, true, true, true] rfl rfl (one_of HT_.out (by kernel_rfl)) (by decide) (by rfl) ?_ ?_
             ·go_simp
             (try simp only [Act.put, List.setIfInBounds_toArray, List.set_cons_zero, List.set_cons_succ])
             refine done_ (done_of HT_.out (by kernel_rfl)) ?_
             clear HT_ HW_ hHeld c0 c1 c2 c3 c4 c5 zij
             rw [HV.out]
             generalize W9.setCell ⟨gi, j, none⟩ (.int .i64 (X i j)) = Y2 at *
             go_wp2_with (fail)
             go_roundg m5
             case measure => omega
             case rel => exact ⟨j + 1, setM rs4 i j (X i j), by first | rfl | go_num, ⟨by omega, by omega, by have := HJ.out.2.2; omega⟩, HST, HMID, HSET, HBS⟩
            ·have e1 : n = j := by have := HJ.out; omega
             subst e1
             have hj1 : ¬ ((n : Int) < (n : Int)) := by omega
             go_wp2_with (fail)
             go_roundg m3
             case measure => omega
             case rel => exact ⟨i + 1, rs4, by first | rfl | go_num, ⟨by have := HI3.out.1; omega, by omega, by have := HI3.out.2.2; omega⟩, HS4, ⟨fun r c hr hc => by
              rw [HM.out r c hr hc]
              by_cases q : k < r ∧ k < c ∧ (r < i ∨ r = i ∧ c < n)
              ·rw [if_pos q, if_pos (by omega)]
              ·rw [if_neg q, if_neg (by omega)]⟩, HR, HB⟩
          ·have e1 : n = i := by have := HI3.out; omega
           subst e1
           have hi1 : ¬ ((n : Int) < (n : Int)) := by omega
           obtain ⟨_, _, gk, ck_, c1, _, _, hck, _⟩ := cells_of HR.out HS3.out hkn
           have c3 := (hck k hkn).1
           have f2 := HM.out k k hkn hkn
           rw [if_neg (by omega)] at f2
           rw [f2] at c3
           clear hck f2
           have HEL3 := Aside0.mk (HE.out (matF rs3) fun r c h1 h2 h3 h4 => by rw [HM.out r c h2 h4, if_pos ⟨h1, h3, .inl h2⟩])
           generalize hxk : matF rs2 k k = xkk at *
           go_wp2_with (fail)
           go_roundg m
           case measure => omega
           case rel => exact ⟨k + 1, s2, xkk, rs3, O2, rfl, rfl, by first | rfl | go_num, ⟨by have := HI.out; omega⟩, HS3, HEL3, HR, HB⟩
      ·have e1 : n = p := by have := HP.out; omega
       subst e1
       have hp1 : ¬ ((n : Int) < (n : Int)) := by omega
       have hpe2 : ((n : Int) == (n : Int)) = true := beq_self_eq_true _
       have HD0 := Aside0.mk (inv_none HEL.out hkn fun i h1 h2 => HP.out.2.2.2 i h1 h2)
       go_wp2_with (fail)
       go_ret
       exact ⟨by rw [HD0.out]; rfl, HB.out⟩
  | succ m =>
   have hin : i < n := by have := HI.out; omega
   have hi : (i : Int) < (n : Int) := by omega
   obtain ⟨ad, A0, c0, rfl, hx, hl0, hi0⟩ := at_L1 HC.out (i : Int) (by omega) (by omega)
   rw [Int.toNat_natCast] at hx
   replace hx := (HB.out.cell (World.block_lt_of_cell? w _ hx)).trans hx
   have hlen : (rd_L1 rows (i : Int)).length = n := (HSQ.out.at hin).2
   obtain ⟨ri, HRI⟩ : ∃ ri, Aside0 (rd_L1 rows (i : Int) = ri) := ⟨_, ⟨rfl⟩⟩
   rw [HRI.out] at hx hlen hl0 hi0
   have HRr : Aside0 (ListC wr (.slice A0 ri.length c0) ri) := ⟨⟨A0, c0, rfl, hl0, Kd.C_below hi0 HB.out⟩⟩
   rw [hlen] at hx HRr
   obtain ⟨L, hown1, hL1⟩ := HR.out
   have HO1 := Aside0.mk hown1
   have HL1 := Aside0.mk hL1
   have hLn : L.length = i := by have := own_len hown1; have := HLN.out; simp at *; omega
   have hwr := HB.out.size
   clear hown1 hL1 hl0 hi0
   go_wp2_with (first | (go_at_call 114; refine (clone_c ri _ _ HRr.out (by omega)).mono ?_; rintro e w5 ⟨v5, rfl, hB5, hD5⟩; obtain ⟨A9, c9, hv5, _⟩ := hD5.out.reads; rw [hlen] at hv5; subst hv5; have HB5 := Aside0.mk hB5; have hsz5 := hB5.size; have HO5 := Aside0.mk (own_move HO1.out fun k hk => hB5.block k (own_lt HO1.out k hk)); have HBel := Aside0.mk (HB.out.trans (hB5.mono hwr)); clear hB5) | (at_builtin; go_loud (refine print_append (w0 := w) w.heap.size rfl (.tmp 22) (.tmp 25) 22 37 (.slice none 0 0) 24 rfl Try.underlying22 info37 rfl (by decide) (.slice A6 i c6) L (.slice A9 n c9) rfl rfl (oneCell_own hD5.out) (by rw [hLn]; have := HO5.out; simp only [List.length_take] at this; rw [Nat.min_eq_left (by have := HLN.out; omega)] at this; exact this) HBel.out (by omega) (by rw [hLn]; omega) ?_; intro v9 w9 hown hbel hg hat; have HRW := Aside0.mk (rowsD_more HO1.out HL1.out hwr HB5.out hD5.out hown hg); obtain ⟨A10, c10, hv9, _⟩ := HRW.out.slice; rw [show (rows.take i ++ [ri]).length = i + 1 by have := HLN.out; simp; omega] at hv9; subst hv9; have HBW := Aside0.mk hbel; clear hown hbel hg hat)))
   have htk : rows.take i ++ [ri] = rows.take (i + 1) := by
    rw [List.take_succ_eq_append_getElem (by have := HLN.out; omega)]
    exact congrArg (fun x => rows.take i ++ [x]) (HRI.out.symm.trans (HSQ.out.at hin).1)
   rw [htk] at HRW
   go_roundg m
   case measure => omega
   case rel => exact ⟨i + 1, A10, c10, by first | rfl | go_num, rfl, ⟨by have := HI.out; omega⟩, HRW, HBW⟩
end Go.Proofs.Ytnbnalbomflafaa.DT
namespace Go.Proofs.Ytnbnalbomflafaa.DT
open Go.RowKit YtnbnalbomflafaaW.PrintWords
open RA
def innerT (a b : Int) (i : Nat) : List Int := ((List.range i).map fun (j : Nat) => (j : Int)).filter fun p => decide (p ≠ a ∧ p ≠ b)
def innerL (l : List (List Int)) (a b : Int) : List Int := innerT a b l.length
def cntL (q : Int) (r : List Int) : Nat := (r.filter fun x => decide (x = q)).length
def elM (l : List (List Int)) (p q : Int) : Int := (if q = p then ((GA.rd_L1 l p).length : Int) else 0) - (cntL q (GA.rd_L1 l p) : Int)
def rowM (l : List (List Int)) (pl : List Int) (p : Int) : List Int := pl.map (elM l p)
def matM (l : List (List Int)) (a b : Int) : List (List Int) := (innerL l a b).map (rowM l (innerL l a b))
theorem innerT_succ_in {a b : Int} {i : Nat} (h : (i : Int) ≠ a ∧ (i : Int) ≠ b) : innerT a b (i + 1) = innerT a b i ++ [(i : Int)] := by
 unfold innerT
 rw [List.range_succ, List.map_append, List.filter_append]
 simp [h]
theorem innerT_succ_out {a b : Int} {i : Nat} (h : ¬ ((i : Int) ≠ a ∧ (i : Int) ≠ b)) : innerT a b (i + 1) = innerT a b i := by
 unfold innerT
 rw [List.range_succ, List.map_append, List.filter_append]
 have e : List.filter (fun p => decide (p ≠ a ∧ p ≠ b)) (List.map (fun (j : Nat) => (j : Int)) [i]) = [] := by
  simp only [List.map_cons, List.map_nil, List.filter_cons, List.filter_nil]
  rw [if_neg (by simpa using h)]
 rw [e, List.append_nil]
theorem innerT_len (a b : Int) (i : Nat) : (innerT a b i).length ≤ i := by
 unfold innerT
 exact Nat.le_trans (List.length_filter_le _ _) (by simp)
theorem inner_mem {l : List (List Int)} {a b p : Int} (h : p ∈ innerL l a b) : 0 ≤ p ∧ p < l.length ∧ p ≠ a ∧ p ≠ b := by
 unfold innerL innerT at h
 rw [List.mem_filter, List.mem_map] at h
 obtain ⟨⟨j, hj, rfl⟩, h2⟩ := h
 simp at hj h2
 exact ⟨by omega, by omega, h2.1, h2.2⟩
theorem mem_inner {l : List (List Int)} {a b p : Int} (h0 : 0 ≤ p) (h1 : p < l.length) (ha : p ≠ a) (hb : p ≠ b) : p ∈ innerL l a b := by
 unfold innerL innerT
 rw [List.mem_filter, List.mem_map]
 exact ⟨⟨p.toNat, by simp; omega, by omega⟩, by simp [ha, hb]⟩
theorem inner_nodup (l : List (List Int)) (a b : Int) : (innerL l a b).Nodup := by
 unfold innerL innerT
 refine List.Pairwise.filter _ ?_
 refine List.Pairwise.map _ (fun x y h => ?_) (List.nodup_range (n := l.length))
 intro c
 exact h (by omega)
theorem cntL_step {q : Int} {r : List Int} {i : Nat} (h : i < r.length) : cntL q (r.take (i + 1)) = cntL q (r.take i) + if r[i] = q then 1 else 0 := by
 unfold cntL
 rw [List.take_succ_eq_append_getElem h, List.filter_append, List.length_append]
 congr 1
 by_cases h2 : r[i] = q
 ·rw [if_pos h2]; simp [h2]
 ·rw [if_neg h2]; simp [h2]
theorem cntL_le (q : Int) (r : List Int) : cntL q r ≤ r.length := List.length_filter_le _ _
def RowJ (l : List (List Int)) (pl : List Int) (p : Int) (j : Nat) (v : Int) (r : List Int) : Prop := r.length = pl.length ∧ ∀ c : Nat, c < pl.length → rd r (c : Int) = if c < j then elM l p (rd pl (c : Int)) else if c = j then v else 0
theorem rowJ_start (l : List (List Int)) (pl : List Int) (p : Int) : RowJ l pl p 0 0 (List.replicate pl.length 0) := by
 refine ⟨by simp, fun c hc => ?_⟩
 rw [rd_at _ c (by simpa using hc), if_neg (by omega)]
 simp
theorem rowJ_next {l : List (List Int)} {pl : List Int} {p : Int} {j : Nat} {r : List Int} (h : RowJ l pl p j (elM l p (rd pl (j : Int))) r) : RowJ l pl p (j + 1) 0 r := by
 refine ⟨h.1, fun c hc => ?_⟩
 rw [h.2 c hc]
 by_cases h1 : c < j
 ·rw [if_pos h1, if_pos (by omega)]
 ·rw [if_neg h1]
  by_cases h2 : c = j
  ·rw [if_pos h2, if_pos (by omega), h2]
  ·rw [if_neg h2, if_neg (by omega)]
   split <;> rfl
theorem rowJ_set {l : List (List Int)} {pl : List Int} {p v : Int} {j : Nat} {r : List Int} (h : RowJ l pl p j v r) (hj : j < pl.length) (x : Int) : RowJ l pl p j x (r.set j x) := by
 have hl := h.1
 refine ⟨by rw [List.length_set]; exact hl, fun c hc => ?_⟩
 rw [rd_at _ c (by rw [List.length_set]; omega)]
 by_cases h2 : c = j
 ·subst h2
  rw [if_neg (by omega), if_pos rfl, List.getElem_set_self]
 ·have e := h.2 c hc
  rw [if_neg h2] at e
  rw [List.getElem_set_ne (fun q => h2 q.symm), if_neg h2, ← e, rd_at _ c (by omega)]
theorem rowJ_end {l : List (List Int)} {pl : List Int} {p v : Int} {r : List Int} (h : RowJ l pl p pl.length v r) : r = rowM l pl p := by
 unfold rowM
 have hl := h.1
 refine List.ext_getElem (by simp [hl]) fun c h1 h2 => ?_
 have e := h.2 c (by omega)
 rw [if_pos (by omega), rd_at _ c h1, rd_at _ c (by omega)] at e
 rw [e]
 simp
theorem list_cells {w : World} {N g cap n : Nat} {r : List Int} (h : ListD w N (.slice (some ⟨g, 0, none⟩) n cap) r) (hn : n = r.length) : N ≤ g ∧ (∀ j, j < n → w.cell? ⟨g, j, none⟩ = some (.int .i64 (rd r (j : Int))) ∧ w.frozen? ⟨g, j, none⟩ = false) ∧ ∀ j x, ListD (w.setCell ⟨g, j, none⟩ (.int .i64 x)) N (.slice (some ⟨g, 0, none⟩) n cap) (r.set j x) := by
 rcases h.2 with ⟨h1, _⟩ | ⟨g2, cap2, cur, e, hb, hh, h3, h4, h5, h6⟩
 ·cases h1
 injection e with e1 e2 e3
 injection e1 with e1
 injection e1 with e1
 subst e1
 refine ⟨hb, fun j hj => ⟨(blk_cell hh j).trans ?_, kF_ hh j⟩, fun j x => ?_⟩
 ·have hj2 : j < r.length := by omega
  have h7 := congrArg (fun x : List Value => x[j]?) h6
  simp only [encI, List.getElem?_map, List.getElem?_eq_getElem hj2, Option.map_some] at h7
  rw [Nat.mul_one, List.getElem?_take_of_lt hj2, Array.getElem?_toList] at h7
  rw [h7, rd_at r j hj2]
 ·subst hn
  have := (own_store h (j : Int) x).1
  rw [Int.toNat_natCast] at this
  show World.ownsRow _ N 3 1 _ (r.set j x).length _
  rw [List.length_set]
  exact this
theorem made_D (w : World) (N m : Nat) (hN : N ≤ w.heap.size) (hm : m ≤ 100000) : ListD (w.alloc (.cells (madeCells #[.int .i64 0] m) 3)) N (.slice (some ⟨w.heap.size, 0, none⟩) m m) (List.replicate m 0) := by
 have h : (madeCells #[.int .i64 0] m).toList = encI (List.replicate m 0) := by
  have := KA.filled_made 0 m
  rw [this]
  simp [KA.filled, encI]
 refine ⟨by simp, .inr ⟨w.heap.size, m, madeCells #[.int .i64 0] m, by simp, hN, blk_new w _, by simp, by unfold maxLen; omega, ?_, ?_⟩⟩
 ·have := congrArg List.length h
  simp at this
  simp [this]
 ·rw [h]
  simp
end Go.Proofs.Ytnbnalbomflafaa.DT
namespace Go.Proofs.Ytnbnalbomflafaa.DT
open Go.RowKit YtnbnalbomflafaaW.PrintWords YtnbnalbomflafaaW.PrintLast YtnbnalbomflafaaW.PrintMore
open GA hiding info37
open RA
def MT17 : Bool × List (List Nat × List Nat) := (true, [([], []), ([], []), ([0, 1], [0, 1]), ([2], [2]), ([], []), ([4], [4]), ([], []), ([5, 6], [5, 6]), ([7], [7]), ([8], [8]), ([3, 9], [3, 9]), ([0, 1, 0, 1, 2, 3, 4, 5, 6, 7, 8, 9, 10], [0, 1]), ([11, 10, 0, 1, 2, 3, 4, 5, 6, 7, 8, 9, 10], [10, 11])])
def MB17 : List Nat := [0, 0, 3, 7, 0, 16, 0, 112, 240, 496, 1023, 2047, 4095]
theorem mtab17 : rtab .any (opsOf Try.f88 17) = MT17 := by kernel_rfl
theorem mbits17 : waitsOk MT17.2 MB17 = true := by kernel_rfl
theorem make_run (W : World) (m : Nat) (hm : m ≤ 100000) : (Instr.makeSlice 37 (.int .i64 (m : Int)) (.int .i64 (m : Int))).run Try.prog W = .ok (.slice (some ⟨W.heap.size, 0, none⟩) m m) (W.alloc (.cells (madeCells #[.int .i64 0] m) 3)) := by
 obtain ⟨i0, hi, hzz⟩ := Option.map_eq_some_iff.1 GA.info3
 simp only [Prod.mk.injEq] at hzz
 obtain ⟨hz0, hz1, hz2⟩ := hzz
 have hr := run_make (P := Try.prog) W 37 3 i0 (.int .i64 0) Try.underlying37 hi hz0 .i64 .i64 (m : Int) (m : Int) (by omega) (by omega) (by rw [hz2]; omega) (by omega)
 simp only [Int.toNat_natCast] at hr
 rw [hz1, Nat.mul_one] at hr
 exact hr
theorem rowI_reads_C {w : World} {N n c : Nat} {A : Option Addr} {r : List Int} (h : ListD w N (.slice A n c) r) : Kd.C (Kd.int .i64) w A n r := by
 obtain ⟨A2, c2, e, _, h2⟩ := h.reads
 injection e with e1 e2 _
 rw [e1, e2]
 exact h2
def MatOut (w : World) (l : List (List Int)) (a b : Int) (e : Ending) (w' : World) : Prop := ∃ v1 v2, e = .returned (.tuple #[v1, v2]) ∧ Below w.heap.size w w' ∧ Aside0 (ListD w' w.heap.size v1 (innerL l a b)) ∧ Aside0 (∃ B, w.heap.size ≤ B ∧ RowsD w' B v2 (matM l a b) ∧ ∀ k, v1.ownBlock = some k → k < B)
set_option maxHeartbeats 8000000 in
set_option maxRecDepth 100000 in
theorem hiMatrix_c (l : List (List Int)) (a b : Int) (hl8 : l.length ≤ 8) (h5 : ∀ v : Int, 0 ≤ v → v < l.length → (rd_L1 l v).length ≤ 5) (w : World) (v : Value) (hv : RowsC w v l) : Calls Try.prog 88 #[.agg #[v], .int .i64 a, .int .i64 b] w (MatOut w l a b) := by
 obtain ⟨A, c, rfl, hc, hC⟩ := hv
 have HB1 : Below w.heap.size w (w.alloc (.cells #[.slice A l.length c] 30)) := (Below.refl _ _).alloc (Nat.le_refl _) _
 have HC := Aside0.mk (Kd.C_below hC HB1)
 have HX := Aside0.mk (show (w.alloc (.cells #[.slice A l.length c] 30)).cell? ⟨w.heap.size, 0, none⟩ = some (.slice A l.length c) from (blk_cell (blk_new _ _) 0).trans rfl)
 have hsz : w.heap.size < (w.alloc (.cells #[.slice A l.length c] 30)).heap.size := by simp
 have HBW := Aside0.mk HB1
 have H5 := Aside0.mk h5
 have hx0 := HX.out
 clear hC hc HB1 h5
 go_enter Try.func88, Try.ntmps88
 go_upto_region 1 with (fail)
 generalize hW1 : w.alloc (.cells #[.slice A l.length c] 30) = W1 at *
 clear hW1
 have HR : Aside0 (Below W1.heap.size W1 W1) := ⟨Below.refl _ _⟩
 go_wp2_with (fail)
 go_loopg [8, 21] l.length (fun kq v8 v21 wr => ∃ (i : Nat) (A8 : Option Addr) (c8 : Nat), v21 = .int .i64 (i : Int) ∧ v8 = .slice A8 (innerT a b i).length c8 ∧ Aside0 (i + kq = l.length) ∧ Aside0 (ListD wr W1.heap.size (.slice A8 (innerT a b i).length c8) (innerT a b i)) ∧ Aside0 (Below W1.heap.size W1 wr))
 case atStart => exact ⟨0, none, 0, rfl, rfl, ⟨by omega⟩, ⟨own_nil _ _ _ _⟩, HR⟩
 case round =>
  clear HR
  obtain ⟨i, A8, c8, rfl, rfl, HI, HL, HB⟩ := hrel
  cases gk with
  | zero =>
   have e0 : i = l.length := by have := HI.out; omega
   have hi : ¬ ((l.length : Int) < (l.length : Int)) := by omega
   subst e0
   obtain ⟨W2, hW2⟩ : ∃ W, W = wr := ⟨wr, rfl⟩
   subst hW2
   have hi2 : innerT a b l.length = innerL l a b := rfl
   have hm8 := innerT_len a b l.length
   rw [hi2] at HL hm8 ⊢
   have HLC := Aside0.mk (Kd.C_below (rowI_reads_C HL.out) (Below.refl _ _))
   have HMEM := Aside0.mk (fun p => inner_mem (l := l) (a := a) (b := b) (p := p))
   have hMat : matM l a b = (innerL l a b).map (rowM l (innerL l a b)) := rfl
   have HMAT := Aside0.mk hMat
   clear hMat hi2 HI
   obtain ⟨pl, HPLE⟩ : ∃ pl, Aside0 (innerL l a b = pl) := ⟨_, ⟨rfl⟩⟩
   rw [HPLE.out] at HL HLC HMEM HMAT hm8 ⊢
   obtain ⟨m, hm⟩ : ∃ m, m = pl.length := ⟨_, rfl⟩
   rw [← hm] at HL HLC hm8 ⊢
   have HM := Aside0.mk hm
   clear hm
   have HR2 : Aside0 (Below W2.heap.size W2 W2) := ⟨Below.refl _ _⟩
   go_wp2_with (fail)
   go_loopg [10, 39] m (fun kq v10 v39 wq => ∃ (i : Nat) (A10 : Option Addr) (c10 : Nat), v39 = .int .i64 (i : Int) ∧ v10 = .slice A10 i c10 ∧ Aside0 (i + kq = m) ∧ Aside0 (RowsD wq W2.heap.size (.slice A10 i c10) ((pl.take i).map (rowM l pl))) ∧ Aside0 (Below W2.heap.size W2 wq))
   case atStart => exact ⟨0, none, 0, rfl, rfl, ⟨by omega⟩, ⟨RowsD.nil _ _⟩, HR2⟩
   case round =>
    clear HR2
    obtain ⟨i, A10, c10, rfl, rfl, HI, HRW, HB2⟩ := hrel
    cases gk with
    | zero =>
     have e1 : m = i := by have := HI.out; omega
     subst e1
     have hi : ¬ ((m : Int) < (m : Int)) := by omega
     go_wp2_with (fail)
     refine bodyPost_ret (v := .tuple #[.slice A8 m c8, .slice A10 m c10]) (by simp [results, Try.results88, go_sem]) rfl ?_
     have hrw := HRW.out
     rw [List.take_of_length_le (by have := HM.out; omega), ← HMAT.out] at hrw
     have s1 := HBW.out.size
     have s2 := HB.out.size
     refine ⟨_, _, rfl, (HBW.out.trans (HB.out.mono s1)).trans (HB2.out.mono (by omega)), ⟨by rw [HPLE.out]; exact ListD.lower' (own_move HL.out fun k hk => HB2.out.block k (own_lt HL.out k hk)) s1⟩, ⟨W2.heap.size, by omega, hrw, fun k hk => own_lt HL.out k hk⟩⟩
    | succ m1 =>
     have him : i < m := by have := HI.out; omega
     have hi : (i : Int) < (m : Int) := by omega
     obtain ⟨adp, rfl, hp0⟩ := Kd.at_int HLC.out (i : Int) (by omega) (by omega)
     rw [Int.toNat_natCast] at hp0
     have hpi := HMEM.out (rd pl (i : Int)) (by rw [rd_at pl i (by have := HM.out; omega)]; exact List.getElem_mem _)
     obtain ⟨pi, HPI⟩ : ∃ pi, Aside0 (rd pl (i : Int) = pi) := ⟨_, ⟨rfl⟩⟩
     rw [HPI.out] at hp0 hpi
     obtain ⟨hpi0, hpi1, _, _⟩ := hpi
     obtain ⟨ad, A0, c0, rfl, hx, hl0, hi0⟩ := at_L1 HC.out pi hpi0 hpi1
     have hdg := H5.out pi hpi0 hpi1
     obtain ⟨dg, HDG⟩ : ∃ dg, Aside0 (dg = (rd_L1 l pi).length) := ⟨_, ⟨rfl⟩⟩
     rw [← HDG.out] at hx hl0 hi0 hdg
     have HEX := Aside0.mk hi0
     replace hp0 : wr.cell? (adp.add i) = _ := (HB2.out.cell (World.block_lt_of_cell? W2 _ hp0)).trans hp0
     have HXC := Aside0.mk hx
     have s2 := HB.out.size
     have HB12 : Aside0 (Below W1.heap.size W1 wr) := ⟨HB.out.trans (HB2.out.mono s2)⟩
     have HBx : Aside0 (wr.cell? ⟨w.heap.size, 0, none⟩ = some (.slice (some ad) l.length c)) := ⟨(HB12.out.cell (p := ⟨w.heap.size, 0, none⟩) hsz).trans HX.out⟩
     have HXr : Aside0 (wr.cell? (ad.add pi.toNat) = some (.slice A0 dg c0)) := ⟨(HB12.out.cell (World.block_lt_of_cell? W1 _ hx)).trans hx⟩
     have HPLr : Aside0 (Kd.C (Kd.int .i64) wr (some adp) m pl) := ⟨Kd.C_below HLC.out HB2.out⟩
     have HEXr : Aside0 (Kd.C (Kd.int .i64) wr A0 dg (rd_L1 l pi)) := ⟨Kd.C_below HEX.out HB12.out⟩
     clear hi0 hl0 hx hx0
     have hsW := HB2.out.size
     obtain ⟨W3, hW3⟩ : ∃ W, W = wr := ⟨wr, rfl⟩
     subst hW3
     have HMK := Aside0.mk (made_D W3 W3.heap.size m (Nat.le_refl _) (by omega))
     have HBM : Aside0 (Below W3.heap.size W3 (W3.alloc (.cells (madeCells #[.int .i64 0] m) 3))) := ⟨(Below.refl _ _).alloc (Nat.le_refl _) _⟩
     have HJ0 : Aside0 (RowJ l pl pi 0 0 (List.replicate m 0)) := ⟨by rw [HM.out]; exact rowJ_start l pl pi⟩
     have hmk := make_run W3 m (by omega)
     go_wp2_with (fail)
     clear hmk
     go_loopg [48] m (fun kq v48 wq => ∃ (j : Nat) (r : List Int), v48 = .int .i64 (j : Int) ∧ Aside0 (j + kq = m) ∧ Aside0 (RowJ l pl pi j 0 r) ∧ Aside0 (ListD wq W3.heap.size (.slice (some ⟨W3.heap.size, 0, none⟩) m m) r) ∧ Aside0 (Below W3.heap.size W3 wq))
     case atStart => exact ⟨0, _, rfl, ⟨by omega⟩, HJ0, HMK, HBM⟩
     case round =>
      clear HMK HBM HJ0
      obtain ⟨j, r, rfl, HJI, HJ, HLR, HB3⟩ := hrel
      cases gk with
      | zero =>
       have e1 : m = j := by have := HJI.out; omega
       subst e1
       have hj : ¬ ((m : Int) < (m : Int)) := by omega
       have HRE := Aside0.mk (rowJ_end (by rw [← HM.out]; exact HJ.out))
       obtain ⟨L, hown1, hL1⟩ := HRW.out
       have HO1 := Aside0.mk hown1
       have HL1 := Aside0.mk hL1
       have hLn : L.length = i := by have := own_len hown1; have := HM.out; simp at *; omega
       have HO5 := Aside0.mk (own_move HO1.out fun k hk => HB3.out.block k (own_lt HO1.out k hk))
       have HBel := Aside0.mk (HB2.out.trans (HB3.out.mono hsW))
       have hs3 := HB3.out.size
       clear hown1 hL1
       go_wp2_with (at_builtin; go_loud (refine print_append (w0 := W2) W2.heap.size rfl (.tmp 89) (.tmp 91) 22 37 (.slice none 0 0) 24 rfl Try.underlying22 GA.info37 rfl (by decide) (.slice A10 i c10) L (.slice (some ⟨W3.heap.size, 0, none⟩) m m) rfl rfl rfl (by have := HO5.out; simp only [List.length_map, List.length_take] at this; rw [hLn]; rw [Nat.min_eq_left (by have := HM.out; omega)] at this; exact this) HBel.out (by omega) (by rw [hLn]; omega) ?_; intro v9 w9 hown hbel hg hat; have HRN := Aside0.mk (rowsD_more HO1.out HL1.out hsW HB3.out HLR.out hown hg); obtain ⟨A11, c11, hv9, _⟩ := HRN.out.slice; rw [show ((pl.take i).map (rowM l pl) ++ [r]).length = i + 1 by have := HM.out; simp; omega] at hv9; subst hv9; have HBN := Aside0.mk hbel; clear hown hbel hg hat))
       have htk : (pl.take i).map (rowM l pl) ++ [r] = (pl.take (i + 1)).map (rowM l pl) := by
        have hil : i < pl.length := by have := HM.out; omega
        have e : pl[i] = pi := by rw [← HPI.out, rd_at pl i hil]
        rw [List.take_succ_eq_append_getElem hil, List.map_append, HRE.out, List.map_cons, List.map_nil, e]
       rw [htk] at HRN
       go_roundg m1
       case measure => omega
       case rel => exact ⟨i + 1, A11, c11, by first | rfl | go_num, rfl, ⟨by have := HI.out; omega⟩, HRN, HBN⟩
      | succ m2 =>
       have hjm : j < m := by have := HJI.out; omega
       have hj : (j : Int) < (m : Int) := by omega
       obtain ⟨adq, hadq, hq0⟩ := Kd.at_int HPLr.out (j : Int) (by omega) (by omega)
       injection hadq with hadq
       subst hadq
       rw [Int.toNat_natCast] at hq0
       obtain ⟨q, HQ⟩ : ∃ q, Aside0 (rd pl (j : Int) = q) := ⟨_, ⟨rfl⟩⟩
       rw [HQ.out] at hq0
       replace hq0 : wr.cell? (adp.add j) = _ := (HB3.out.cell (World.block_lt_of_cell? W3 _ hq0)).trans hq0
       have hxr : wr.cell? (ad.add pi.toNat) = _ := (HB3.out.cell (World.block_lt_of_cell? W3 _ HXr.out)).trans HXr.out
       have hbr : wr.cell? ⟨w.heap.size, 0, none⟩ = _ := (HB3.out.cell (World.block_lt_of_cell? W3 _ HBx.out)).trans HBx.out
       go_upto_if 55 with (fail)
       go_cut [17] (fun v17 wc => ∃ (r2 : List Int), Aside0 (RowJ l pl pi j (if q = pi then (dg : Int) else 0) r2) ∧ Aside0 (ListD wc W3.heap.size (.slice (some ⟨W3.heap.size, 0, none⟩) m m) r2) ∧ Aside0 (Below W3.heap.size W3 wc))
       case first =>
        have hrl := HJ.out.1
        obtain ⟨_, hcell, hset⟩ := list_cells HLR.out (by have := HM.out; omega)
        by_cases hqp : q = pi
        ·have q1 : (q == pi) = true := beq_iff_eq.mpr hqp
         have q2 : (q != pi) = false := bne_eq_false_iff_eq.mpr hqp
         have x0 := (hcell j hjm).1
         have y0 := (hcell j hjm).2
         have hz := HJ.out.2 j (by have := HM.out; omega)
         rw [if_neg (by omega), if_pos rfl] at hz
         have HS1 := Aside0.mk (hset j (dg : Int))
         have HJ1 : Aside0 (RowJ l pl pi j (if q = pi then (dg : Int) else 0) (r.set j (dg : Int))) := ⟨by rw [if_pos hqp]; exact rowJ_set HJ.out (by have := HM.out; omega) _⟩
         have HVV : Aside0 (wrap64 (rd r (j : Int) + (dg : Int)) = (dg : Int)) := ⟨by rw [hz, wrap_id (by omega) (by omega)]; omega⟩
         clear hz hcell hset hqp
         generalize rd r (j : Int) = rv at *
         go_upto_region 17 with (fail)
         replace x0 : wr.drew.cell? ⟨W3.heap.size, j, none⟩ = some (.int .i64 rv) := x0
         have x1 : wr.drew.cell? ⟨w.heap.size, 0, none⟩ = some (.slice (some ad) l.length c) := hbr
         have x2 : wr.drew.cell? (ad.add pi.toNat) = some (.slice A0 dg c0) := hxr
         replace y0 : wr.drew.frozen? ⟨W3.heap.size, j, none⟩ = false := y0
         replace HS1 : Aside0 (ListD (wr.drew.setCell ⟨W3.heap.size, j, none⟩ (.int .i64 (dg : Int))) W3.heap.size (.slice (some ⟨W3.heap.size, 0, none⟩) m m) (r.set j (dg : Int))) := ⟨own_move HS1.out fun k hk => rfl⟩
         have HBS : Aside0 (Below W3.heap.size W3 (wr.drew.setCell ⟨W3.heap.size, j, none⟩ (.int .i64 (dg : Int)))) := ⟨(bN_ HB3.out 1).setCell (p := ⟨W3.heap.size, j, none⟩) (Nat.le_refl _) _⟩
         clear hbr hxr hq0 HLR HB3 HJ
         refine start_ (n := 13) (S := fun w' => w'.cell? ⟨W3.heap.size, j, none⟩ = some (.int .i64 rv) ∧ w'.cell? ⟨w.heap.size, 0, none⟩ = some (.slice (some ad) l.length c) ∧ w'.cell? (ad.add pi.toNat) = some (.slice A0 dg c0)) (ds := [12]) #[false, false, false, false, false, false, false, false, false, false, false, false, false] (by kernel_rfl) rfl rfl ⟨x0, x1, x2⟩ (fun hHeld => ?_)
         refine with_tabW mtab17 mbits17 (fun HT_ HW_ => ?_)
         generalize wr.drew = W9 at *
         refine pu_ (i := 0) (N := some 56) (v := ?_) (a' := ?_) HT_.out rfl rfl (Or.inl ⟨by rfl, ?_⟩) ?_ ?_
         rotate_left
         ·intro w'
          go_simp
          with_reducible rfl
         rotate_left
         ·simp only [sp_]
          rfl
         refine pu_ (i := 1) (N := some 57) (v := ?_) (a' := ?_) HT_.out rfl rfl (Or.inl ⟨by rfl, ?_⟩) ?_ ?_
         rotate_left
         ·intro w'
          go_simp
          with_reducible rfl
         rotate_left
         ·simp only [sp_]
          rfl
         refine pu_ (i := 2) (N := some 58) (v := ?_) (a' := ?_) HT_.out rfl rfl (Or.inl ⟨by rfl, ?_⟩) ?_ ?_
         rotate_left
         ·intro w'
          go_simp
          with_reducible rfl
         rotate_left
         ·simp only [sp_]
          rfl
         refine tk_ (i := 3) (N := some 59) (v := ?_) (a' := ?_) HT_.out HW_.out rfl rfl (Or.inl ⟨by rfl, ?_⟩) hHeld ?_ ?_
         rotate_left
         ·rintro w' ⟨s0, s1, s2⟩
          go_simp
          with_reducible rfl
         rotate_left
         ·simp only [sp_]
          rfl
         refine pu_ (i := 4) (N := some 60) (v := ?_) (a' := ?_) HT_.out rfl rfl (Or.inl ⟨by rfl, ?_⟩) ?_ ?_
         rotate_left
         ·intro w'
          go_simp
          with_reducible rfl
         rotate_left
         ·simp only [sp_]
          rfl
         refine tk_ (i := 5) (N := some 61) (v := ?_) (a' := ?_) HT_.out HW_.out rfl rfl (Or.inl ⟨by rfl, ?_⟩) hHeld ?_ ?_
         rotate_left
         ·rintro w' ⟨s0, s1, s2⟩
          go_simp
          with_reducible rfl
         rotate_left
         ·simp only [sp_]
          rfl
         refine pu_ (i := 6) (N := some 62) (v := ?_) (a' := ?_) HT_.out rfl rfl (Or.inl ⟨by rfl, ?_⟩) ?_ ?_
         rotate_left
         ·intro w'
          go_simp
          with_reducible rfl
         rotate_left
         ·simp only [sp_]
          rfl
         refine pu_ (i := 7) (N := some 63) (v := ?_) (a' := ?_) HT_.out rfl rfl (Or.inl ⟨by rfl, ?_⟩) ?_ ?_
         rotate_left
         ·intro w'
          go_simp
          with_reducible rfl
         rotate_left
         ·simp only [sp_]
          rfl
         refine tk_ (i := 8) (N := some 64) (v := ?_) (a' := ?_) HT_.out HW_.out rfl rfl (Or.inl ⟨by rfl, ?_⟩) hHeld ?_ ?_
         rotate_left
         ·rintro w' ⟨s0, s1, s2⟩
          go_simp
          with_reducible rfl
         rotate_left
         ·simp only [sp_]
          rfl
         refine pu_ (i := 9) (N := some 65) (v := ?_) (a' := ?_) HT_.out rfl rfl (Or.inl ⟨by rfl, ?_⟩) ?_ ?_
         rotate_left
         ·intro w'
          go_simp
          with_reducible rfl
         rotate_left
         ·simp only [sp_]
          rfl
         refine pu_ (i := 10) (N := some 66) (v := ?_) (a' := ?_) HT_.out rfl rfl (Or.inl ⟨by rfl, ?_⟩) ?_ ?_
         rotate_left
         ·intro w'
          go_simp
          with_reducible rfl
         rotate_left
         ·simp only [sp_]
          rfl
         refine pu_ (i := 11) (N := some 67) (v := ?_) (a' := ?_) HT_.out rfl rfl (Or.inl ⟨by rfl, ?_⟩) ?_ ?_
         rotate_left
         ·intro w'
          go_simp
          with_reducible rfl
         rotate_left
         ·simp only [sp_]
          rfl
         refine lastS_ (i := 12) (w1 := W9.setCell ⟨W3.heap.size, j, none⟩ (.int .i64 (wrap64 (rv + (dg : Int))))) #[true, true, true, true, true, true, true, true, true, true, true, true, true] rfl rfl (one_of HT_.out (by kernel_rfl)) (by decide) (by rfl) ?_ ?_
         ·go_simp
         (try simp only [Act.put, List.setIfInBounds_toArray, List.set_cons_zero, List.set_cons_succ])
         refine done_ (done_of HT_.out (by kernel_rfl)) ?_
         clear HT_ HW_ hHeld x0 x1 x2 y0
         rw [HVV.out]
         generalize W9.setCell ⟨W3.heap.size, j, none⟩ (.int .i64 (dg : Int)) = Y2 at *
         go_wp2_with (fail)
         go_meet
         case rel => exact ⟨r.set j (dg : Int), HJ1, HS1, HBS⟩
        ·have q1 : (q == pi) = false := beq_eq_false_iff_ne.mpr hqp
         have q2 : (q != pi) = true := bne_iff_ne.mpr hqp
         have HJ1 : Aside0 (RowJ l pl pi j (if q = pi then (dg : Int) else 0) r) := ⟨by rw [if_neg hqp]; exact HJ.out⟩
         clear hqp
         go_wp2_with (fail)
         go_meet
         case rel => exact ⟨r, HJ1, HLR, HB3⟩
       case rest =>
        clear HJ HLR HB3 hq0 hxr hbr
        obtain ⟨r2, HJ2, HLR2, HB4⟩ := hcut
        have hxr : wc.cell? (ad.add pi.toNat) = _ := (HB4.out.cell (World.block_lt_of_cell? W3 _ HXr.out)).trans HXr.out
        have hbr : wc.cell? ⟨w.heap.size, 0, none⟩ = _ := (HB4.out.cell (World.block_lt_of_cell? W3 _ HBx.out)).trans HBx.out
        go_wp2_with (fail)
        go_loopg [74] dg (fun kq v74 wq => ∃ (x : Nat) (r : List Int), v74 = .int .i64 (x : Int) ∧ Aside0 (x + kq = dg) ∧ Aside0 (RowJ l pl pi j ((if q = pi then (dg : Int) else 0) - (cntL q ((rd_L1 l pi).take x) : Int)) r) ∧ Aside0 (ListD wq W3.heap.size (.slice (some ⟨W3.heap.size, 0, none⟩) m m) r) ∧ Aside0 (Below W3.heap.size W3 wq))
        case atStart => exact ⟨0, r2, rfl, ⟨by omega⟩, ⟨by rw [List.take_zero, show cntL q [] = 0 from rfl]; simpa using HJ2.out⟩, HLR2, HB4⟩
        case round =>
         clear HJ2 HLR2 HB4 hxr hbr
         obtain ⟨x, r, rfl, HXI, HJ, HLR, HB3⟩ := hrel
         cases gk with
         | zero =>
          have e1 : dg = x := by have := HXI.out; omega
          subst e1
          have hj2 : ¬ ((dg : Int) < (dg : Int)) := by omega
          have HJN : Aside0 (RowJ l pl pi (j + 1) 0 r) := ⟨by
           refine rowJ_next ?_
           have h1 := HJ.out
           rw [List.take_of_length_le (by have := HDG.out; omega)] at h1
           rw [HQ.out]
           unfold elM
           rw [← HDG.out]
           exact h1⟩
          go_wp2_with (fail)
          go_roundg m2
          case measure => omega
          case rel => exact ⟨j + 1, r, by first | rfl | go_num, ⟨by have := HJI.out; omega⟩, HJN, HLR, HB3⟩
         | succ m3 =>
          have hxd : x < dg := by have := HXI.out; omega
          have hx1 : (x : Int) < (dg : Int) := by omega
          obtain ⟨adx, hadx, hy0⟩ := Kd.at_int HEXr.out (x : Int) (by omega) (by omega)
          subst hadx
          rw [Int.toNat_natCast] at hy0
          have hst := cntL_step (q := q) (r := rd_L1 l pi) (i := x) (by have := HDG.out; omega)
          rw [rd_at _ x (by have := HDG.out; omega)] at hy0
          have HST := Aside0.mk hst
          clear hst
          obtain ⟨y, HY⟩ : ∃ y, Aside0 ((rd_L1 l pi)[x]'(by have := HDG.out; omega) = y) := ⟨_, ⟨rfl⟩⟩
          rw [HY.out] at hy0
          replace hy0 : wr.cell? (adx.add x) = _ := (HB3.out.cell (World.block_lt_of_cell? W3 _ hy0)).trans hy0
          by_cases hyq : y = q
          ·have q1 : (y == q) = true := beq_iff_eq.mpr hyq
           have q2 : (y != q) = false := bne_eq_false_iff_eq.mpr hyq
           have hrl := HJ.out.1
           obtain ⟨_, hcell, hset⟩ := list_cells HLR.out (by have := HM.out; omega)
           have x0 := (hcell j hjm).1
           have y0 := (hcell j hjm).2
           have hz := HJ.out.2 j (by have := HM.out; omega)
           rw [if_neg (by omega), if_pos rfl] at hz
           have hcb : cntL q ((rd_L1 l pi).take x) ≤ x := Nat.le_trans (cntL_le _ _) (by rw [List.length_take]; omega)
           have hvb : -5 ≤ (if q = pi then (dg : Int) else 0) - (cntL q ((rd_L1 l pi).take x) : Int) ∧ (if q = pi then (dg : Int) else 0) - (cntL q ((rd_L1 l pi).take x) : Int) ≤ 5 := by split <;> omega
           rw [hz] at x0
           have HS1 := Aside0.mk (hset j ((if q = pi then (dg : Int) else 0) - (cntL q ((rd_L1 l pi).take x) : Int) - 1))
           have HJ1 : Aside0 (RowJ l pl pi j ((if q = pi then (dg : Int) else 0) - (cntL q ((rd_L1 l pi).take (x + 1)) : Int)) (r.set j ((if q = pi then (dg : Int) else 0) - (cntL q ((rd_L1 l pi).take x) : Int) - 1))) := ⟨by
            have e := rowJ_set HJ.out (by have := HM.out; omega) ((if q = pi then (dg : Int) else 0) - (cntL q ((rd_L1 l pi).take x) : Int) - 1)
            have e2 : (if q = pi then (dg : Int) else 0) - (cntL q ((rd_L1 l pi).take (x + 1)) : Int) = (if q = pi then (dg : Int) else 0) - (cntL q ((rd_L1 l pi).take x) : Int) - 1 := by
             rw [HST.out, if_pos (show (rd_L1 l pi)[x]'(by have := HDG.out; omega) = q by rw [HY.out]; exact hyq)]
             omega
            rw [e2]
            exact e⟩
           have HBS : Aside0 (Below W3.heap.size W3 (wr.setCell ⟨W3.heap.size, j, none⟩ (.int .i64 ((if q = pi then (dg : Int) else 0) - (cntL q ((rd_L1 l pi).take x) : Int) - 1)))) := ⟨HB3.out.setCell (p := ⟨W3.heap.size, j, none⟩) (Nat.le_refl _) _⟩
           clear hcell hset hz hcb hyq HJ HST HLR HB3
           generalize (if q = pi then (dg : Int) else 0) - (cntL q ((rd_L1 l pi).take x) : Int) = vv at *
           have hww : IntKind.i64.wrap (vv - 1) = vv - 1 := IntWalk.i64_in _ (by omega)
           go_wp2_with (fail)
           go_roundg m3
           case measure => omega
           case rel => exact ⟨x + 1, r.set j (vv - 1), by first | rfl | go_num, ⟨by have := HXI.out; omega⟩, HJ1, HS1, HBS⟩
          ·have q1 : (y == q) = false := beq_eq_false_iff_ne.mpr hyq
           have q2 : (y != q) = true := bne_iff_ne.mpr hyq
           have HJ1 : Aside0 (RowJ l pl pi j ((if q = pi then (dg : Int) else 0) - (cntL q ((rd_L1 l pi).take (x + 1)) : Int)) r) := ⟨by
            rw [HST.out, if_neg (show ¬ ((rd_L1 l pi)[x]'(by have := HDG.out; omega) = q) by rw [HY.out]; exact hyq), Nat.add_zero]
            exact HJ.out⟩
           clear hyq HST HJ
           go_wp2_with (fail)
           go_roundg m3
           case measure => omega
           case rel => exact ⟨x + 1, r, by first | rfl | go_num, ⟨by have := HXI.out; omega⟩, HJ1, HLR, HB3⟩
  | succ m =>
   have hi : (i : Int) < (l.length : Int) := by have := HI.out; omega
   have hml := innerT_len a b i
   have hbs := HB.out.size
   by_cases hia : (i : Int) = a
   ·have q1 : ((i : Int) == a) = true := beq_iff_eq.mpr hia
    have q2 : ((i : Int) != a) = false := bne_eq_false_iff_eq.mpr hia
    have hin := Aside0.mk (innerT_succ_out (a := a) (b := b) (i := i) (fun h => h.1 hia))
    clear hia
    go_wp2_with (fail)
    go_roundg m
    case measure => omega
    case rel => exact ⟨i + 1, A8, c8, by first | rfl | go_num, by rw [hin.out], ⟨by have := HI.out; omega⟩, by rw [hin.out]; exact HL, HB⟩
   ·have q1 : ((i : Int) == a) = false := beq_eq_false_iff_ne.mpr hia
    have q2 : ((i : Int) != a) = true := bne_iff_ne.mpr hia
    by_cases hib : (i : Int) = b
    ·have q3 : ((i : Int) == b) = true := beq_iff_eq.mpr hib
     have q4 : ((i : Int) != b) = false := bne_eq_false_iff_eq.mpr hib
     have hin := Aside0.mk (innerT_succ_out (a := a) (b := b) (i := i) (fun h => h.2 hib))
     clear hia hib
     go_wp2_with (fail)
     go_roundg m
     case measure => omega
     case rel => exact ⟨i + 1, A8, c8, by first | rfl | go_num, by rw [hin.out], ⟨by have := HI.out; omega⟩, by rw [hin.out]; exact HL, HB⟩
    ·have q3 : ((i : Int) == b) = false := beq_eq_false_iff_ne.mpr hib
     have q4 : ((i : Int) != b) = true := bne_iff_ne.mpr hib
     have hin := Aside0.mk (innerT_succ_in (a := a) (b := b) (i := i) ⟨hia, hib⟩)
     clear hia hib
     have HO7 : wr.ownsRow W1.heap.size 3 1 (.slice A8 (innerT a b i).length c8) (innerT a b i).length (nums .i64 (innerT a b i)) := HL.out
     go_wp2_with (at_builtin; go_loud (refine print_append_num (w0 := W1) W1.heap.size rfl (.tmp 32) (.tmp 34) 37 3 .i64 8 rfl Try.underlying37 GA.info3 (by decide) (.slice A8 (innerT a b i).length c8) (innerT a b i) (i : Int) rfl rfl HO7 HB.out hbs (by omega) ?_; intro v9 w9 hown hbel hg hat; obtain ⟨A9, m9, hv9⟩ := own_slice hown; subst hv9; have HL9 := Aside0.mk hown; have HB9 := Aside0.mk hbel; clear hown hbel hg hat))
     go_roundg m
     case measure => omega
     case rel => exact ⟨i + 1, A9, m9, by first | rfl | go_num, by rw [hin.out, List.length_append]; rfl, ⟨by have := HI.out; omega⟩, ⟨by rw [hin.out]; exact HL9.out⟩, HB9⟩
end Go.Proofs.Ytnbnalbomflafaa.DT
namespace Go.Proofs.Ytnbnalbomflafaa.GI
open Go.RowKit YtnbnalbomflafaaW.PrintWords YtnbnalbomflafaaW.PrintLast YtnbnalbomflafaaW.PrintMore
open GA
attribute [local go_sem] max2_int min2_int max_two min_two max_three min_three max_four min_four
def errW : Option Int → Value
 | none => .nilIface
 | some c => .iface 0 (.int .i64 c)
theorem errW_none : errW none = .nilIface := rfl
theorem errW_some (c : Int) : errW (some c) = .iface 0 (.int .i64 c) := rfl
end Go.Proofs.Ytnbnalbomflafaa.GI
namespace Go.Proofs.Ytnbnalbomflafaa.GI
open Go.RowKit YtnbnalbomflafaaW.PrintWords YtnbnalbomflafaaW.PrintLast YtnbnalbomflafaaW.PrintMore
open GA
attribute [local go_sem] max2_int min2_int max_two min_two max_three min_three max_four min_four
def slices_Index_int_int.l0 : Nat → List Int → Int → Int → Int → Option (Int)
 | 0, _, _, _, _ => none
 | k + 1, x0, x1, x7, x8 => if x8 < x7 then (if 0 ≤ x8 then (if x8 < (x0.length : Int) then (if x1 = (rd x0 x8) then (some x8) else (slices_Index_int_int.l0 k x0 x1 x7 (wrap64 (x8 + 1)))) else (none)) else (none)) else (some (-1))
def slices_Index_int_int.f (k : Nat) (l0 : List Int) (a1 : Int) : Option (Int) := slices_Index_int_int.l0 k l0 a1 (l0.length : Int) 0
set_option maxHeartbeats 8000000 in
set_option maxRecDepth 100000 in
theorem slices_Index_int_int.calls (k : Nat) (A0 : Option Addr) (c0 : Nat) (l0 : List Int) (a1 : Int) (r : Int) (w : World) (hr0 : Kd.C (Kd.int .i64) w A0 l0.length l0) (hc0 : l0.length ≤ c0) (h : slices_Index_int_int.f k l0 a1 = some r) :
  Calls Try.prog 117 #[.slice A0 l0.length c0, .int .i64 a1] w fun e w' => e = .returned (.int .i64 r) ∧ Drawn0 w w' := by
 have HR0 := Aside0.mk hr0
 have HC0 := Aside0.mk hc0
 clear hr0 hc0
 have H : (slices_Index_int_int.l0 k l0 a1 (l0.length : Int) 0) = some r := h
 clear h
 have H' := Aside0.mk H
 clear H
 go_enter Try.func117, Try.ntmps117
 go_wp2
 go_loopg [8] k (fun kq v8 w' => ∃ (x8_1 : Int), v8 = .int .i64 x8_1 ∧ Aside0 (slices_Index_int_int.l0 kq l0 a1 (l0.length : Int) x8_1 = some r) ∧ Aside0 (kq ≤ k) ∧ Drawn0 w w')
 case atStart => exact ⟨(0), (by first | rfl | (simp; done) | (simp [*]; done)), H', ⟨Nat.le_refl _⟩, by repeat (first | exact Drawn0.refl _ | apply Drawn0.step)⟩
 case round =>
  clear H'
  try clear c1
  try clear p2
  obtain ⟨x8_1, rfl, HA, HK1, ⟨m1, rfl⟩⟩ := hrel
  cases gk with
  | zero => exact absurd HA.out (by simp [slices_Index_int_int.l0])
  | succ k1 =>
   have H := HA.out
   clear HA
   simp only [slices_Index_int_int.l0] at H
   by_cases c3 : x8_1 < (l0.length : Int)
   ·rw [if_pos c3] at H
    have c3b0 : decide (x8_1 < (l0.length : Int)) = true := decide_eq_true c3
    clear c3
    by_cases c4 : 0 ≤ x8_1
    ·rw [if_pos c4] at H
     have c4b0 : decide (0 ≤ x8_1) = true := decide_eq_true c4
     clear c4
     by_cases c5 : x8_1 < (l0.length : Int)
     ·rw [if_pos c5] at H
      have c5b0 : decide (x8_1 < (l0.length : Int)) = true := decide_eq_true c5
      clear c5
      by_cases c6 : a1 = (rd l0 x8_1)
      ·rw [if_pos c6] at H
       have c6b0 : (a1 == (rd l0 x8_1)) = true := beq_iff_eq.mpr c6
       have c6b1 : (a1 != (rd l0 x8_1)) = false := bne_eq_false_iff_eq.mpr c6
       clear c6
       obtain rfl := Option.some.inj H
       have p101 : 0 ≤ (x8_1 : Int) := of_decide_eq_true (by first | (with_reducible assumption) | assumption)
       have q101 : x8_1 < (l0.length : Int) := of_decide_eq_true (by first | (with_reducible assumption) | assumption)
       obtain ⟨ad101, e101, hx101_0⟩ := Kd.at_int HR0.out x8_1 p101 q101
       cases e101
       replace p101 := eq_true p101
       replace q101 := eq_true q101
       go_wp2
       go_ret
       exact ⟨by first | rfl | (simp; done) | (simp [*]; done), by repeat (first | exact Drawn0.refl _ | apply Drawn0.step)⟩
      ·rw [if_neg c6] at H
       have c6b0 : (a1 == (rd l0 x8_1)) = false := beq_eq_false_iff_ne.mpr c6
       have c6b1 : (a1 != (rd l0 x8_1)) = true := bne_iff_ne.mpr c6
       have H' := Aside0.mk H
       clear H
       have p101 : 0 ≤ (x8_1 : Int) := of_decide_eq_true (by first | (with_reducible assumption) | assumption)
       have q101 : x8_1 < (l0.length : Int) := of_decide_eq_true (by first | (with_reducible assumption) | assumption)
       obtain ⟨ad101, e101, hx101_0⟩ := Kd.at_int HR0.out x8_1 p101 q101
       cases e101
       replace p101 := eq_true p101
       replace q101 := eq_true q101
       go_wp2
       go_roundg k1
       case measure => have := HK1.out; omega
       case rel => exact ⟨(wrap64 (x8_1 + 1)), (by first | rfl | (simp; done) | (simp [*]; done)), H', ⟨by have := HK1.out; omega⟩, by repeat (first | exact Drawn0.refl _ | apply Drawn0.step)⟩
     ·rw [if_neg c5] at H
      exact absurd H (by simp)
    ·rw [if_neg c4] at H
     exact absurd H (by simp)
   ·rw [if_neg c3] at H
    have c3b0 : decide (x8_1 < (l0.length : Int)) = false := decide_eq_false c3
    clear c3
    obtain rfl := Option.some.inj H
    go_wp2
    go_ret
    exact ⟨by first | rfl | (simp; done) | (simp [*]; done), by repeat (first | exact Drawn0.refl _ | apply Drawn0.step)⟩
end Go.Proofs.Ytnbnalbomflafaa.GI
namespace Go.Proofs.Ytnbnalbomflafaa.DT
open Go.RowKit YtnbnalbomflafaaW.PrintWords YtnbnalbomflafaaW.PrintLast
open RA
section
variable {P : Program} {ops : Array Oper} {Q : Exit → Act → World → Prop}
theorem goesV_ {oi : Oper} {N : Option Tmp} {a : Act} {w : World} {K : Act → World → Prop} {f : FuncId} {fn : Func} {x : Operand} {caps : Array Value} {ps : Array Operand} {ts : Array TypeId} (hf : P.funcs[f]? = some fn) (hname : (fn.name == "runtime.NumGoroutine") = false) (hb : fn.body.isSome = true) (args : Array Value)
  (hw : Region.wanted oi (yielded ops a.tmps) = true) (hN : oi.dst = N) (hop : oi.op = .call { callee := .value x, args := ps, argTypes := ts }) (hx : a.eval x = .func (.func f) #[] caps) (hargs : ps.map a.eval = args)
  (h : Calls P f (args ++ caps) w fun e w' => ∃ v, e = .returned v ∧ K (a.put N v) w') : if Region.wanted oi (yielded ops a.tmps) = true then Oper.wp P oi a w K Q else K (a.put N undef) w := by
 refine call_ f (args ++ caps) hw hN ?_ h
 have he := enters_ hf hname hb (args ++ caps) w
 unfold execOp
 simp [hop, resolve, Deferred.ofValue, invoke, hx, hargs, he]
end
theorem index_loop (pl : List Int) (q : Int) (hl : pl.length ≤ 1000) (d : Nat) : ∀ (k i : Nat), i + d = pl.length → d < k → (∃ c : Nat, i ≤ c ∧ c < pl.length ∧ rd pl (c : Int) = q) → ∃ c : Nat, c < pl.length ∧ rd pl (c : Int) = q ∧ GI.slices_Index_int_int.l0 k pl q (pl.length : Int) (i : Int) = some (c : Int) := by
 induction d with
 | zero =>
  intro k i hi hk h
  obtain ⟨c, h1, h2, _⟩ := h
  omega
 | succ d ih =>
  intro k i hi hk h
  obtain ⟨k, rfl⟩ := KA.succ_of hk
  have hin : i < pl.length := by omega
  unfold GI.slices_Index_int_int.l0
  by_cases hq : q = rd pl (i : Int)
  ·refine ⟨i, hin, hq.symm, ?_⟩
   rw [if_pos (by omega), if_pos (by omega), if_pos (by omega), if_pos hq]
  ·obtain ⟨c, h1, h2, h3⟩ := h
   have hci : c ≠ i := fun e => hq (by rw [← h3, e])
   obtain ⟨c2, g1, g2, g3⟩ := ih k (i + 1) (by omega) (by omega) ⟨c, by omega, h2, h3⟩
   refine ⟨c2, g1, g2, ?_⟩
   rw [if_pos (by omega), if_pos (by omega), if_pos (by omega), if_neg hq, KA.wrap_up hin (by omega)]
   exact g3
theorem index_c (pl : List Int) (q : Int) (hl : pl.length ≤ 1000) (hq : q ∈ pl) (W : World) (v : Value) (hv : ListC W v pl) : ∃ c : Nat, c < pl.length ∧ rd pl (c : Int) = q ∧ Calls Try.prog 117 #[v, .int .i64 q] W fun e w' => e = .returned (.int .i64 (c : Int)) ∧ Drawn0 W w' := by
 obtain ⟨i, hi, he⟩ := List.mem_iff_getElem.1 hq
 obtain ⟨c, h1, h2, h3⟩ := index_loop pl q hl pl.length (pl.length + 1) 0 (by omega) (Nat.lt_succ_self _) ⟨i, Nat.zero_le _, hi, by rw [rd_at pl i hi, he]⟩
 obtain ⟨A, cc, rfl, hc, hC⟩ := hv
 exact ⟨c, h1, h2, GI.slices_Index_int_int.calls (pl.length + 1) A cc pl q _ W hC hc h3⟩
def RowI (pl ex : List Int) (x : Nat) (r : List Int) : Prop := r.length = pl.length ∧ ∀ c : Nat, c < pl.length → rd r (c : Int) = -(cntL (rd pl (c : Int)) (ex.take x) : Int)
theorem rowI_start (pl ex : List Int) : RowI pl ex 0 (List.replicate pl.length 0) := by
 refine ⟨by simp, fun c hc => ?_⟩
 rw [rd_at _ c (by simpa using hc), List.take_zero]
 simp [cntL]
theorem rowI_skip {pl ex : List Int} {x : Nat} {r : List Int} (h : RowI pl ex x r) (hx : x < ex.length) (hne : ex[x] ∉ pl) : RowI pl ex (x + 1) r := by
 refine ⟨h.1, fun c hc => ?_⟩
 rw [h.2 c hc, cntL_step hx, if_neg (fun e => hne (by rw [e, rd_at pl c hc]; exact List.getElem_mem _)), Nat.add_zero]
theorem rd_inj {pl : List Int} (hn : pl.Nodup) {c d : Nat} (hc : c < pl.length) (hd : d < pl.length) (h : rd pl (c : Int) = rd pl (d : Int)) : c = d := by
 rw [rd_at pl c hc, rd_at pl d hd] at h
 rcases Nat.lt_trichotomy c d with q | q | q
 ·exact absurd h (List.pairwise_iff_getElem.1 hn c d hc hd q)
 ·exact q
 ·exact absurd h.symm (List.pairwise_iff_getElem.1 hn d c hd hc q)
theorem rowI_hit {pl ex : List Int} {x d : Nat} {r : List Int} (hn : pl.Nodup) (h : RowI pl ex x r) (hx : x < ex.length) (hd : d < pl.length) (hq : rd pl (d : Int) = ex[x]) : RowI pl ex (x + 1) (r.set d (rd r (d : Int) - 1)) := by
 have hl := h.1
 refine ⟨by rw [List.length_set]; exact hl, fun c hc => ?_⟩
 rw [rd_at _ c (by rw [List.length_set]; omega), cntL_step hx]
 by_cases hcd : c = d
 ·subst hcd
  rw [List.getElem_set_self, h.2 c hc, if_pos hq.symm]
  omega
 ·rw [List.getElem_set_ne (fun q => hcd q.symm), if_neg (fun e => hcd (rd_inj hn hc hd (by rw [hq, ← e]))), Nat.add_zero, ← h.2 c hc, rd_at r c (by omega)]
theorem rowI_end {l : List (List Int)} {pl : List Int} {i : Nat} {r : List Int} (hn : pl.Nodup) (hi : i < pl.length) (h : RowI pl (GA.rd_L1 l (rd pl (i : Int))) (GA.rd_L1 l (rd pl (i : Int))).length r) : r.set i (rd r (i : Int) + ((GA.rd_L1 l (rd pl (i : Int))).length : Int)) = rowM l pl (rd pl (i : Int)) := by
 have hp : rd pl (i : Int) = pl[i] := rd_at pl i hi
 rw [hp] at h ⊢
 generalize hpe : pl[i] = p at h ⊢
 have hl := h.1
 refine List.ext_getElem (by simp [hl, rowM]) fun c h1 h2 => ?_
 have hc : c < pl.length := by simpa [rowM] using h2
 have e := h.2 c hc
 rw [List.take_of_length_le (Nat.le_refl _), rd_at pl c hc, rd_at r c (by omega)] at e
 have el : (rowM l pl p)[c] = elM l p pl[c] := by simp [rowM]
 rw [el]
 by_cases hcd : c = i
 ·subst hcd
  unfold elM
  rw [List.getElem_set_self, rd_at r c (by omega), e, if_pos hpe]
  omega
 ·unfold elM
  rw [List.getElem_set_ne (fun q => hcd q.symm), e, if_neg (fun q => hcd (rd_inj hn hc hi (by rw [rd_at pl c hc, hp, q, hpe])))]
  omega
def sumF (own : Int → Int) (atA atB a b p : Int) (ex : List Int) (x : Nat) : Int := own p + atA * (cntL a (ex.take x) : Int) + atB * (cntL b (ex.take x) : Int)
theorem sumF_zero (own : Int → Int) (atA atB a b p : Int) (ex : List Int) : sumF own atA atB a b p ex 0 = own p := by
 unfold sumF
 simp [cntL]
theorem sumF_a {own : Int → Int} {atA atB a b p : Int} {ex : List Int} {x : Nat} (hab : a ≠ b) (hx : x < ex.length) (h : ex[x] = a) : sumF own atA atB a b p ex (x + 1) = sumF own atA atB a b p ex x + atA := by
 unfold sumF
 rw [cntL_step hx, cntL_step hx, if_pos h, if_neg (fun e => hab (by rw [← h, e]))]
 rw [Nat.add_zero, Int.natCast_add, Int.mul_add]
 simp
 omega
theorem sumF_b {own : Int → Int} {atA atB a b p : Int} {ex : List Int} {x : Nat} (hab : a ≠ b) (hx : x < ex.length) (h : ex[x] = b) : sumF own atA atB a b p ex (x + 1) = sumF own atA atB a b p ex x + atB := by
 unfold sumF
 rw [cntL_step hx, cntL_step hx, if_pos h, if_neg (fun e => hab (by rw [← h, e]))]
 rw [Nat.add_zero, Int.natCast_add, Int.mul_add]
 simp
 omega
theorem sumF_no {own : Int → Int} {atA atB a b p : Int} {ex : List Int} {x : Nat} (hx : x < ex.length) (ha : ex[x] ≠ a) (hb : ex[x] ≠ b) : sumF own atA atB a b p ex (x + 1) = sumF own atA atB a b p ex x := by
 unfold sumF
 rw [cntL_step hx, cntL_step hx, if_neg ha, if_neg hb]
 rfl
def rightL (l : List (List Int)) (own : Int → Int) (atA atB a b : Int) (pl : List Int) : List Int := pl.map fun p => sumF own atA atB a b p (GA.rd_L1 l p) (GA.rd_L1 l p).length
def colL (M : List (List Int)) (R : List Int) (k : Nat) : List (List Int) := (List.range M.length).map fun (i : Nat) => (GA.rd_L1 M (i : Int)).set k (rd R (i : Int))
theorem own_same_cells {w : World} {N n : Nat} {e : TypeId} {v : Value} {L L2 : List Value} (h1 : w.ownsRow N e 1 v n L) (h2 : w.ownsRow N e 1 v n L2) : L = L2 := by
 rcases h1.2 with ⟨q1, q2⟩ | ⟨g, cap, cur, e1, _, hh, _, _, _, h6⟩
 ·have a1 := h1.1
  have a2 := h2.1
  rw [q2] at a1 a2
  have b1 : L = [] := List.eq_nil_of_length_eq_zero (by omega)
  have b2 : L2 = [] := List.eq_nil_of_length_eq_zero (by omega)
  rw [b1, b2]
 ·rcases h2.2 with ⟨q1, q2⟩ | ⟨g', cap', cur', e2, _, hh', _, _, _, h6'⟩
  ·rw [q1] at e1
   cases e1
  ·rw [e1] at e2
   injection e2 with e3 _ _
   injection e3 with e3
   injection e3 with e3
   subst e3
   rw [hh] at hh'
   simp only [Option.some.injEq, Obj.cells.injEq] at hh'
   rw [← h6, ← h6', hh'.1]
def Side (w : World) (N : Nat) (vm : Value) (rows : List (List Int)) (vr : Value) (rs : List Int) : Prop := ∃ L, w.ownsRow N 37 1 vm rows.length L ∧ RowsL w N rows L ∧ ListD w N vr rs ∧ ∀ (i : Nat) (v : Value) (k : Nat), L[i]? = some v → v.ownBlock = some k → vr.ownBlock ≠ some k
theorem Side.rows {w : World} {N : Nat} {vm vr : Value} {rows : List (List Int)} {rs : List Int} (h : Side w N vm rows vr rs) : RowsD w N vm rows := by
 obtain ⟨L, h1, h2, _, _⟩ := h
 exact ⟨L, h1, h2⟩
theorem Side.list {w : World} {N : Nat} {vm vr : Value} {rows : List (List Int)} {rs : List Int} (h : Side w N vm rows vr rs) : ListD w N vr rs := by
 obtain ⟨L, _, _, h3, _⟩ := h
 exact h3
theorem side_more {w3 w5 w6 w7 : World} {N : Nat} {vm vr v vm1 vr1 : Value} {rows : List (List Int)} {rs r : List Int} {s : Int} {L : List Value} (h1 : w3.ownsRow N 37 1 vm rows.length L) (h2 : RowsL w3 N rows L) (h3 : ListD w3 N vr rs) (h4 : ∀ (i : Nat) (v : Value) (k : Nat), L[i]? = some v → v.ownBlock = some k → vr.ownBlock ≠ some k)
  (hN : N ≤ w3.heap.size) (hB : Below w3.heap.size w3 w5) (hv : ListD w5 w3.heap.size v r) (hown : w6.ownsRow N 37 1 vm1 (L ++ [v]).length (L ++ [v])) (hg : w5.grownBy w6 vm.ownBlock)
  (hown2 : w7.ownsRow N 3 1 vr1 (rs ++ [s]).length (nums .i64 (rs ++ [s]))) (hg2 : w6.grownBy w7 vr.ownBlock) (hat2 : vr1.ownBlock = vr.ownBlock ∨ ∃ b, vr1.ownBlock = some b ∧ w6.heap.size ≤ b) : Side w7 N vm1 (rows ++ [r]) vr1 (rs ++ [s]) := by
 have hLn : L.length = rows.length := by have := own_len h1; omega
 have hm := rowsD_more h1 h2 hN hB hv hown hg
 have hs5 := hB.size
 have hs6 := hg.size
 have key : ∀ (i : Nat) (u : Value) (k : Nat), (L ++ [v])[i]? = some u → u.ownBlock = some k → vr.ownBlock ≠ some k ∧ k < w6.heap.size := fun i u k hu hk => by
  by_cases hi : i < L.length
  ·rw [List.getElem?_append_left hi] at hu
   obtain ⟨_, q, _⟩ := h2.blk hLn hu hk
   exact ⟨h4 i u k hu hk, by omega⟩
  ·rw [List.getElem?_append_right (by omega)] at hu
   have e : u = v := by
    have := List.mem_of_getElem? hu
    simpa using this
   subst e
   have q1 := own_base hv k hk
   have q2 := own_lt hv k hk
   refine ⟨fun c => ?_, by omega⟩
   have := own_lt h3 k c
   omega
 have hln : (L ++ [v]).length = (rows ++ [r]).length := by simp [hLn]
 obtain ⟨L2, g1, g2⟩ := hm
 have eL : L2 = L ++ [v] := by
  have := own_same_cells g1 (by rw [hln] at hown; exact hown)
  exact this
 subst eL
 refine ⟨L ++ [v], own_move g1 (fun k hk => hg2.block k (own_lt g1 k hk) (fun c => ?_)), g2.move (by rw [hln]) (fun i u k hu hk => hg2.block k (key i u k hu hk).2 (fun c => (key i u k hu hk).1 (by first | exact c | exact c.symm))), hown2, fun i u k hu hk c => ?_⟩
 ·obtain ⟨cells, hc⟩ := own_typed g1 k hk
  have hr6 : w6.ownsRow N 3 1 vr rs.length (encI rs) := own_move h3 (fun k hk => (hg.block k (by have := own_lt h3 k hk; omega) (fun c => by
   obtain ⟨c1, e1⟩ := own_typed h3 k hk
   obtain ⟨c2, e2⟩ := own_typed h1 k (by first | exact c | exact c.symm)
   rw [e1] at e2
   simp at e2)).trans (hB.block k (own_lt h3 k hk)))
  obtain ⟨c3, e3⟩ := own_typed hr6 k (by first | exact c | exact c.symm)
  rw [e3] at hc
  simp at hc
 ·rcases hat2 with q | ⟨b, q1, q2⟩
  ·exact (key i u k hu hk).1 (by rw [← q]; exact c)
  ·rw [q1] at c
   have := (key i u k hu hk).2
   have c2 : b = k := Option.some.inj c
   omega
end Go.Proofs.Ytnbnalbomflafaa.DT
namespace Go.Proofs.Ytnbnalbomflafaa.DT
open Go.RowKit YtnbnalbomflafaaW.PrintWords YtnbnalbomflafaaW.PrintLast
open RA
theorem innerT_count {a b : Int} (ha : 0 ≤ a) (hb : 0 ≤ b) (hab : a ≠ b) (i : Nat) : (innerT a b i).length + (if a < (i : Int) then 1 else 0) + (if b < (i : Int) then 1 else 0) = i := by
 induction i with
 | zero => rw [if_neg (by omega), if_neg (by omega)]; rfl
 | succ i ih =>
  by_cases h : (i : Int) ≠ a ∧ (i : Int) ≠ b
  ·rw [innerT_succ_in h, List.length_append, List.length_singleton]
   have e1 : (a < ((i + 1 : Nat) : Int)) ↔ (a < (i : Int)) := by omega
   have e2 : (b < ((i + 1 : Nat) : Int)) ↔ (b < (i : Int)) := by omega
   simp only [e1, e2]
   omega
  ·rw [innerT_succ_out h]
   by_cases h1 : (i : Int) = a
   ·rw [if_neg (by omega)] at ih
    rw [if_pos (by omega)]
    have e2 : (b < ((i + 1 : Nat) : Int)) ↔ (b < (i : Int)) := by omega
    simp only [e2]
    omega
   ·have h2 : (i : Int) = b := by
     by_cases q : (i : Int) = b
     ·exact q
     ·exact absurd ⟨h1, q⟩ h
    rw [if_neg (c := b < (i : Int)) (by omega)] at ih
    rw [if_pos (c := b < ((i + 1 : Nat) : Int)) (by omega)]
    have e2 : (a < ((i + 1 : Nat) : Int)) ↔ (a < (i : Int)) := by omega
    simp only [e2]
    omega
theorem inner_six {l : List (List Int)} {a b : Int} (hl : l.length ≤ 8) (ha : 0 ≤ a) (ha1 : a < l.length) (hb : 0 ≤ b) (hb1 : b < l.length) (hab : a ≠ b) : (innerL l a b).length ≤ 6 := by
 have := innerT_count ha hb hab l.length
 rw [if_pos ha1, if_pos hb1] at this
 unfold innerL
 omega
theorem sq_matM (l : List (List Int)) (a b : Int) : Sq (innerL l a b).length (matM l a b) := by
 refine ⟨by simp [matM], fun r hr => ?_⟩
 unfold matM at hr
 obtain ⟨p, _, rfl⟩ := List.mem_map.1 hr
 simp [rowM]
theorem matM_at (l : List (List Int)) (a b : Int) {r c : Nat} (hr : r < (innerL l a b).length) (hc : c < (innerL l a b).length) : matF (matM l a b) r c = elM l (rd (innerL l a b) (r : Int)) (rd (innerL l a b) (c : Int)) := by
 have h := sq_matM l a b
 have hl := h.len
 rw [matF_at (by omega) (by rw [sq_row h (by omega)]; exact hc), rd_at _ r hr, rd_at _ c hc]
 simp [matM, rowM]
theorem matM_bound {l : List (List Int)} {a b : Int} (h5 : ∀ v : Int, 0 ≤ v → v < l.length → (GA.rd_L1 l v).length ≤ 5) {r c : Nat} (hr : r < (innerL l a b).length) (hc : c < (innerL l a b).length) : (matF (matM l a b) r c).natAbs ≤ 5 := by
 rw [matM_at l a b hr hc]
 have hm := inner_mem (l := l) (a := a) (b := b) (p := rd (innerL l a b) (r : Int)) (by rw [rd_at _ r hr]; exact List.getElem_mem _)
 have hd := h5 _ hm.1 hm.2.1
 have hn := cntL_le (rd (innerL l a b) (c : Int)) (GA.rd_L1 l (rd (innerL l a b) (r : Int)))
 unfold elM
 split <;> omega
theorem sq_colL {n : Nat} {M : List (List Int)} (h : Sq n M) (R : List Int) (k : Nat) : Sq n (colL M R k) := by
 refine ⟨by simp [colL, h.len], fun r hr => ?_⟩
 unfold colL at hr
 obtain ⟨i, hi, rfl⟩ := List.mem_map.1 hr
 rw [List.length_set]
 have hl := h.len
 exact (h.at (i := i) (by simpa [hl] using hi)).2
theorem colL_get {n : Nat} {M : List (List Int)} (h : Sq n M) (R : List Int) (k : Nat) {i : Nat} (hi : i < n) : (colL M R k)[i]? = some ((GA.rd_L1 M (i : Int)).set k (rd R (i : Int))) := by
 unfold colL
 have hl := h.len
 rw [List.getElem?_map, List.getElem?_range (by omega)]
 rfl
theorem colL_at {n : Nat} {M : List (List Int)} (h : Sq n M) (R : List Int) {k r c : Nat} (hr : r < n) (hc : c < n) : matF (colL M R k) r c = if c = k then rd R (r : Int) else matF M r c := by
 have hl := h.len
 have h2 := sq_colL h R k
 have hl2 := h2.len
 have h3 := sq_row h (r := r) (by omega)
 have e : (colL M R k)[r]'(by omega) = (GA.rd_L1 M (r : Int)).set k (rd R (r : Int)) := by
  have := colL_get h R k hr
  rw [List.getElem?_eq_getElem (by omega)] at this
  exact Option.some.inj this
 rw [matF_at (by omega) (by rw [sq_row h2 (by omega)]; exact hc)]
 have hlen := (h.at hr).2
 simp only [e]
 by_cases hck : c = k
 ·subst hck
  rw [List.getElem_set_self, if_pos rfl]
 ·rw [List.getElem_set_ne (fun q => hck q.symm), if_neg hck]
  unfold matF
  rw [rd_at _ c (by omega)]
theorem rightL_at (l : List (List Int)) (own : Int → Int) (atA atB a b : Int) (pl : List Int) {i : Nat} (hi : i < pl.length) : rd (rightL l own atA atB a b pl) (i : Int) = sumF own atA atB a b (rd pl (i : Int)) (GA.rd_L1 l (rd pl (i : Int))) (GA.rd_L1 l (rd pl (i : Int))).length := by
 rw [rd_at _ i (by simpa [rightL] using hi), rd_at pl i hi]
 simp [rightL]
def denOf (l : List (List Int)) (a b : Int) : Int := D (innerL l a b).length (matF (matM l a b))
def numOf (l : List (List Int)) (own : Int → Int) (atA atB a b : Int) (k : Nat) : Int := D (innerL l a b).length (matF (colL (matM l a b) (rightL l own atA atB a b (innerL l a b)) k))
def OutK (l : List (List Int)) (own : Int → Int) (atA atB a b : Int) (K : Nat) (out : List Int) : Prop := out.length = l.length ∧ rd out a = atA * denOf l a b ∧ rd out b = atB * denOf l a b ∧ ∀ k : Nat, k < K → rd out (rd (innerL l a b) (k : Int)) = numOf l own atA atB a b k
theorem outK_start {l : List (List Int)} {own : Int → Int} {atA atB a b : Int} (ha : 0 ≤ a) (ha1 : a < l.length) (hb : 0 ≤ b) (hb1 : b < l.length) (hab : a ≠ b) : OutK l own atA atB a b 0 (((List.replicate l.length 0).set a.toNat (atA * denOf l a b)).set b.toNat (atB * denOf l a b)) := by
 refine ⟨by simp, ?_, ?_, fun k hk => by omega⟩
 ·rw [KA.rd_set_other _ hb ha hab, KA.rd_set_same _ ha (by simpa using ha1)]
 ·rw [KA.rd_set_same _ hb (by simpa using hb1)]
theorem outK_more {l : List (List Int)} {own : Int → Int} {atA atB a b : Int} {K : Nat} {out : List Int} (h : OutK l own atA atB a b K out) (hK : K < (innerL l a b).length) (ha : 0 ≤ a) (hb : 0 ≤ b) : OutK l own atA atB a b (K + 1) (out.set (rd (innerL l a b) (K : Int)).toNat (numOf l own atA atB a b K)) := by
 obtain ⟨h1, h2, h3, h4⟩ := h
 have hm := inner_mem (l := l) (a := a) (b := b) (p := rd (innerL l a b) (K : Int)) (by rw [rd_at _ K hK]; exact List.getElem_mem _)
 refine ⟨by rw [List.length_set]; exact h1, ?_, ?_, fun k hk => ?_⟩
 ·rw [KA.rd_set_other _ hm.1 ha (fun e => hm.2.2.1 e.symm)]
  exact h2
 ·rw [KA.rd_set_other _ hm.1 hb (fun e => hm.2.2.2 e.symm)]
  exact h3
 ·by_cases hkK : k = K
  ·subst hkK
   rw [KA.rd_set_same _ hm.1 (by omega)]
  ·have hm2 := inner_mem (l := l) (a := a) (b := b) (p := rd (innerL l a b) (k : Int)) (by rw [rd_at _ k (by omega)]; exact List.getElem_mem _)
   rw [KA.rd_set_other _ hm.1 hm2.1 (fun e => hkK (rd_inj (inner_nodup l a b) (by omega) hK e))]
   exact h4 k (by omega)
theorem det_le {n : Nat} {M : List (List Int)} (hn : n ≤ 6) (hb : ∀ r c, r < n → c < n → (matF M r c).natAbs ≤ 5) : (D n (matF M)).natAbs ≤ 11250000 := Nat.le_trans (D_bound hb) (fe_le hn)
theorem side_start (W : World) : Side ((W.alloc (.cells #[] 37)).alloc (.cells #[] 3)) W.heap.size (.slice (some ⟨W.heap.size, 0, none⟩) 0 0) [] (.slice (some ⟨W.heap.size + 1, 0, none⟩) 0 0) [] := by
 have h1 := rowsD_empty W W.heap.size (Nat.le_refl _)
 have h2 := noI_D (W.alloc (.cells #[] 37)) W.heap.size (by simp)
 simp at h2
 refine ⟨[], ?_, ⟨fun i r h => by simp at h, fun i j v u k h => by simp at h⟩, h2, fun i v k h => by simp at h⟩
 obtain ⟨L, q1, _⟩ := h1
 have : L = [] := List.eq_nil_of_length_eq_zero (by have := own_len q1; simpa using this)
 subst this
 exact own_move q1 fun k hk => Below.heap_alloc _ _ k (own_lt q1 k hk)
theorem list_after {w3 w5 w6 : World} {N n : Nat} {vm vr : Value} {rs : List Int} {L : List Value} (h1 : w3.ownsRow N 37 1 vm n L) (h3 : ListD w3 N vr rs) (hB : Below w3.heap.size w3 w5) (hg : w5.grownBy w6 vm.ownBlock) : w6.ownsRow N 3 1 vr rs.length (nums .i64 rs) :=
 own_move h3 fun k hk => (hg.block k (by have := own_lt h3 k hk; have := hB.size; omega) (fun c => by
  obtain ⟨c1, e1⟩ := own_typed h3 k hk
  obtain ⟨c2, e2⟩ := own_typed h1 k (by first | exact c | exact c.symm)
  rw [e1] at e2
  simp at e2)).trans (hB.block k (own_lt h3 k hk))
end Go.Proofs.Ytnbnalbomflafaa.DT
namespace Go.Proofs.Ytnbnalbomflafaa.DT
open Go.RowKit YtnbnalbomflafaaW.PrintWords YtnbnalbomflafaaW.PrintLast YtnbnalbomflafaaW.PrintMore
open GA hiding info37
open RA
def OT12 : Bool × List (List Nat × List Nat) := (true, [([], []), ([0], [0]), ([1, 1], [1]), ([], []), ([], []), ([3, 4], [3, 4]), ([2, 5, 0, 1, 2], [2]), ([5, 6, 0, 1, 2, 3, 4, 5, 6], [5])])
def OB12 : List Nat := [0, 1, 3, 0, 0, 24, 63, 127]
theorem otab12 : rtab .any (opsOf Try.f90 12) = OT12 := by kernel_rfl
theorem obits12 : waitsOk OT12.2 OB12 = true := by kernel_rfl
def OT23 : Bool × List (List Nat × List Nat) := (true, [([], []), ([], []), ([1], [1]), ([0, 2], [0, 2]), ([3], [3]), ([], []), ([5], [5]), ([], []), ([6, 7], [6, 7]), ([8], [8]), ([9], [9]), ([4, 10], [4, 10]), ([0, 2, 0, 1, 2, 3, 4, 5, 6, 7, 8, 9, 10, 11], [0, 2]), ([12, 11, 0, 1, 2, 3, 4, 5, 6, 7, 8, 9, 10, 11], [11, 12])])
def OB23 : List Nat := [0, 0, 2, 7, 15, 0, 32, 0, 224, 480, 992, 2047, 4095, 8191]
theorem otab23 : rtab .any (opsOf Try.f90 23) = OT23 := by kernel_rfl
theorem obits23 : waitsOk OT23.2 OB23 = true := by kernel_rfl
def SolvedOut (w : World) (l : List (List Int)) (own : Int → Int) (atA atB a b : Int) (e : Ending) (w' : World) : Prop := ∃ v1 out, e = .returned (.tuple #[v1, .int .i64 (denOf l a b)]) ∧ Below w.heap.size w w' ∧ Aside0 (ListD w' w.heap.size v1 out) ∧ Aside0 (OutK l own atA atB a b (innerL l a b).length out)
set_option maxHeartbeats 16000000 in
set_option maxRecDepth 100000 in
theorem solved_c (l : List (List Int)) (own : Int → Int) (atA atB a b : Int) (hab : a ≠ b) (ha0 : 0 ≤ a) (ha1 : a < l.length) (hb0 : 0 ≤ b) (hb1 : b < l.length) (hl8 : l.length ≤ 8) (h5 : ∀ v : Int, 0 ≤ v → v < l.length → (rd_L1 l v).length ≤ 5) (hq : ∀ v : Int, 0 ≤ v → v < l.length → ∀ q ∈ rd_L1 l v, 0 ≤ q ∧ q < l.length)
  (hA : -1 ≤ atA ∧ atA ≤ 1) (hAB : -1 ≤ atB ∧ atB ≤ 1) (hS : ∀ p : Int, 0 ≤ p → p < l.length → ∀ x, x ≤ (rd_L1 l p).length → -5 ≤ sumF own atA atB a b p (rd_L1 l p) x ∧ sumF own atA atB a b p (rd_L1 l p) x ≤ 5)
  (f : FuncId) (fn : Func) (caps : Array Value) (hf : Try.prog.funcs[f]? = some fn) (hname : (fn.name == "runtime.NumGoroutine") = false) (hbody : fn.body.isSome = true)
  (w : World) (v : Value) (hv : RowsC w v l) (hown : ∀ W, Below w.heap.size w W → ∀ p : Int, 0 ≤ p → p < l.length → Calls Try.prog f (#[.int .i64 p] ++ caps) W fun e w' => e = .returned (.int .i64 (own p)) ∧ w' = W) :
  Calls Try.prog 90 #[.agg #[v], .int .i64 a, .int .i64 b, .func (.func f) #[] caps, .int .i64 atA, .int .i64 atB] w (SolvedOut w l own atA atB a b) := by
 obtain ⟨A, c, rfl, hc, hC⟩ := hv
 have HB1 : Below w.heap.size w (w.alloc (.cells #[.slice A l.length c] 30)) := (Below.refl _ _).alloc (Nat.le_refl _) _
 have HC := Aside0.mk (Kd.C_below hC HB1)
 have HX := Aside0.mk (show (w.alloc (.cells #[.slice A l.length c] 30)).cell? ⟨w.heap.size, 0, none⟩ = some (.slice A l.length c) from (blk_cell (blk_new _ _) 0).trans rfl)
 have hsz : w.heap.size < (w.alloc (.cells #[.slice A l.length c] 30)).heap.size := by simp
 have HBW := Aside0.mk HB1
 have H5 := Aside0.mk h5
 have HQ := Aside0.mk hq
 have HS := Aside0.mk hS
 have HOWN := Aside0.mk hown
 have H6 := Aside0.mk (inner_six hl8 ha0 ha1 hb0 hb1 hab)
 have HAB := Aside0.mk hab
 have hx0 := HX.out
 clear hC hc HB1 h5 hq hS hown hab
 go_enter Try.func90, Try.ntmps90
 go_upto_region 1 with (fail)
 generalize hW1 : w.alloc (.cells #[.slice A l.length c] 30) = W1 at *
 clear hW1
 have HL0 := Aside0.mk (noI_D W1 W1.heap.size (Nat.le_refl _))
 have HR : Aside0 (Below W1.heap.size W1 (W1.alloc (.cells #[] 3))) := ⟨(Below.refl _ _).alloc (Nat.le_refl _) _⟩
 replace hx0 : (W1.alloc (.cells #[] 3)).cell? ⟨w.heap.size, 0, none⟩ = _ := (World.cell?_alloc_lt _ _ _ (by exact hsz)).trans hx0
 go_wp2_with (fail)
 go_loopg [14, 35] l.length (fun kq v14 v35 wr => ∃ (i : Nat) (A8 : Option Addr) (c8 : Nat), v35 = .int .i64 (i : Int) ∧ v14 = .slice A8 (innerT a b i).length c8 ∧ Aside0 (i + kq = l.length) ∧ Aside0 (ListD wr W1.heap.size (.slice A8 (innerT a b i).length c8) (innerT a b i)) ∧ Aside0 (Below W1.heap.size W1 wr))
 case atStart => exact ⟨0, _, _, rfl, rfl, ⟨by omega⟩, HL0, HR⟩
 case round =>
  clear HR HL0 hx0
  obtain ⟨i, A8, c8, rfl, rfl, HI, HL, HB⟩ := hrel
  cases gk with
  | zero =>
   have e0 : i = l.length := by have := HI.out; omega
   subst e0
   have hi : ¬ ((l.length : Int) < (l.length : Int)) := by omega
   obtain ⟨W2, hW2⟩ : ∃ W, W = wr := ⟨wr, rfl⟩
   subst hW2
   have hi2 : innerT a b l.length = innerL l a b := rfl
   rw [hi2] at HL ⊢
   have HLC := Aside0.mk (Kd.C_below (rowI_reads_C HL.out) (Below.refl _ _))
   have HMEM := Aside0.mk (fun p => inner_mem (l := l) (a := a) (b := b) (p := p))
   have HIN := Aside0.mk (fun (p : Int) (h0 : 0 ≤ p) (h1 : p < (l.length : Int)) (h2 : p ≠ a) (h3 : p ≠ b) => mem_inner (l := l) h0 h1 h2 h3)
   have HND := Aside0.mk (inner_nodup l a b)
   have HMAT : Aside0 (matM l a b = (innerL l a b).map (rowM l (innerL l a b))) := ⟨rfl⟩
   obtain ⟨pl, HPLE⟩ : ∃ pl, Aside0 (innerL l a b = pl) := ⟨_, ⟨rfl⟩⟩
   rw [HPLE.out] at HL HLC HMEM HMAT HIN HND H6 ⊢
   obtain ⟨m, hm⟩ : ∃ m, m = pl.length := ⟨_, rfl⟩
   rw [← hm] at HL HLC H6 ⊢
   have HM := Aside0.mk hm
   have hm6 := H6.out
   clear hm hi2 HI
   have HSD := Aside0.mk (side_start W2)
   have HR2 : Aside0 (Below W2.heap.size W2 ((W2.alloc (.cells #[] 37)).alloc (.cells #[] 3))) := ⟨((Below.refl _ _).alloc (Nat.le_refl _) _).alloc (by simp) _⟩
   go_wp2_with (fail)
   go_loopg [16, 17, 55] m (fun kq v16 v17 v55 wq => ∃ (i : Nat) (A16 A17 : Option Addr) (c16 c17 : Nat), v55 = .int .i64 (i : Int) ∧ v16 = .slice A16 i c16 ∧ v17 = .slice A17 i c17 ∧ Aside0 (i + kq = m) ∧ Aside0 (Side wq W2.heap.size (.slice A16 i c16) ((pl.take i).map (rowM l pl)) (.slice A17 i c17) ((pl.take i).map fun p => sumF own atA atB a b p (rd_L1 l p) (rd_L1 l p).length)) ∧ Aside0 (Below W2.heap.size W2 wq))
   case atStart => exact ⟨0, _, _, _, _, rfl, rfl, rfl, ⟨by omega⟩, HSD, HR2⟩
   case round =>
    clear HR2 HSD
    obtain ⟨i, A16, A17, c16, c17, rfl, rfl, rfl, HI, HSD, HB2⟩ := hrel
    cases gk with
    | zero =>
     have e1 : m = i := by have := HI.out; omega
     subst e1
     have hi : ¬ ((m : Int) < (m : Int)) := by omega
     have hsd := HSD.out
     rw [List.take_of_length_le (by have := HM.out; omega), ← HMAT.out] at hsd
     have HRG : Aside0 (rightL l own atA atB a b pl = pl.map fun p => sumF own atA atB a b p (rd_L1 l p) (rd_L1 l p).length) := ⟨rfl⟩
     rw [← HRG.out] at hsd
     have HSQM : Aside0 (Sq m (matM l a b)) := ⟨by have := sq_matM l a b; rw [HPLE.out, ← HM.out] at this; exact this⟩
     have HBM5 : Aside0 (∀ r c, r < m → c < m → (matF (matM l a b) r c).natAbs ≤ 5) := ⟨fun r c hr hc => matM_bound H5.out (by rw [HPLE.out, ← HM.out]; exact hr) (by rw [HPLE.out, ← HM.out]; exact hc)⟩
     have HR5 : Aside0 (∀ r : Nat, r < m → (rd (rightL l own atA atB a b pl) (r : Int)).natAbs ≤ 5) := ⟨fun r hr => by
      rw [rightL_at l own atA atB a b pl (by rw [← HM.out]; exact hr)]
      have hm := HMEM.out (rd pl (r : Int)) (by rw [rd_at pl r (by rw [← HM.out]; exact hr)]; exact List.getElem_mem _)
      have := HS.out _ hm.1 hm.2.1 _ (Nat.le_refl _)
      omega⟩
     have HDEN : Aside0 (D m (matF (matM l a b)) = denOf l a b) := ⟨by unfold denOf; rw [HPLE.out, ← HM.out]⟩
     have HNUM : Aside0 (∀ k, D m (matF (colL (matM l a b) (rightL l own atA atB a b pl) k)) = numOf l own atA atB a b k) := ⟨fun k => by unfold numOf; rw [HPLE.out, ← HM.out]⟩
     have HRL : Aside0 ((rightL l own atA atB a b pl).length = m) := ⟨by rw [HM.out]; simp [rightL]⟩
     have HML := Aside0.mk HSQM.out.len
     obtain ⟨M, HME⟩ : ∃ M, Aside0 (matM l a b = M) := ⟨_, ⟨rfl⟩⟩
     obtain ⟨R, HRE⟩ : ∃ R, Aside0 (rightL l own atA atB a b pl = R) := ⟨_, ⟨rfl⟩⟩
     rw [HME.out, HRE.out] at hsd HNUM
     rw [HME.out] at HSQM HBM5 HDEN HML
     rw [HRE.out] at HR5 HRL
     obtain ⟨den, HDE⟩ : ∃ den, Aside0 (denOf l a b = den) := ⟨_, ⟨rfl⟩⟩
     rw [HDE.out] at HDEN
     have HDB : Aside0 (den.natAbs ≤ 11250000) := ⟨by rw [← HDEN.out]; exact det_le hm6 HBM5.out⟩
     have HMr : Aside0 (RowsC wr (.slice A16 m c16) M) := ⟨hsd.rows.reads⟩
     have HRr : Aside0 (ListC wr (.slice A17 m c17) R) := ⟨hsd.list.reads⟩
     have s1 := HBW.out.size
     have s2 := HB.out.size
     have s3 := HB2.out.size
     have HB12 : Aside0 (Below W1.heap.size W1 wr) := ⟨HB.out.trans (HB2.out.mono s2)⟩
     have HPLr : Aside0 (Kd.C (Kd.int .i64) wr A8 m pl) := ⟨Kd.C_below HLC.out HB2.out⟩
     have HCr : Aside0 (Kd.C (Kd.slice 3 (Kd.int .i64)) wr A l.length l) := ⟨Kd.C_below HC.out HB12.out⟩
     have HXr : Aside0 (wr.cell? ⟨w.heap.size, 0, none⟩ = some (.slice A l.length c)) := ⟨(HB12.out.cell (p := ⟨w.heap.size, 0, none⟩) hsz).trans HX.out⟩
     clear hsd HSD
     go_upto_region 28 with (go_at_call 118; refine (det_c m M HSQM.out hm6 HBM5.out _ _ HMr.out).mono ?_; rw [HDEN.out]; rintro e w4 ⟨rfl, hB4⟩; have HB4 := Aside0.mk hB4; have hx4 : w4.cell? ⟨w.heap.size, 0, none⟩ = some (.slice A l.length c) := (hB4.cell (World.block_lt_of_cell? wr _ HXr.out)).trans HXr.out; have hmk := make_run w4 l.length (by omega); clear hB4)
     clear hmk hx4
     have s4 := HB4.out.size
     have HM4 : Aside0 (RowsC w4 (.slice A16 m c16) M) := ⟨HMr.out.below HB4.out⟩
     have HR4 : Aside0 (ListC w4 (.slice A17 m c17) R) := ⟨HRr.out.below HB4.out⟩
     have HPL4 : Aside0 (Kd.C (Kd.int .i64) w4 A8 m pl) := ⟨Kd.C_below HPLr.out HB4.out⟩
     have HB04 : Aside0 (Below w.heap.size w w4) := ⟨(HBW.out.trans (HB12.out.mono s1)).trans (HB4.out.mono (by omega))⟩
     have HO := Aside0.mk (made_D w4 w4.heap.size l.length (Nat.le_refl _) (by omega))
     have HBO : Aside0 (Below w4.heap.size w4 (w4.alloc (.cells (madeCells #[.int .i64 0] l.length) 3))) := ⟨(Below.refl _ _).alloc (Nat.le_refl _) _⟩
     have hpa : (atA * den).natAbs ≤ 11250000 := by
      rw [Int.natAbs_mul]
      have h1 : atA.natAbs ≤ 1 := by omega
      have := Nat.mul_le_mul h1 HDB.out
      omega
     have hpb : (atB * den).natAbs ≤ 11250000 := by
      rw [Int.natAbs_mul]
      have h1 : atB.natAbs ≤ 1 := by omega
      have := Nat.mul_le_mul h1 HDB.out
      omega
     have hwa : IntKind.i64.wrap (atA * den) = atA * den := IntWalk.i64_in _ (by omega)
     have hwb : IntKind.i64.wrap (atB * den) = atB * den := IntWalk.i64_in _ (by omega)
     clear hpa hpb
     have HOK := Aside0.mk (outK_start (l := l) (own := own) (atA := atA) (atB := atB) ha0 ha1 hb0 hb1 HAB.out)
     rw [HDE.out] at HOK
     generalize hW5 : w4.alloc (.cells (madeCells #[.int .i64 0] l.length) 3) = W5 at *
     clear hW5
     generalize hgo : w4.heap.size = go at *
     obtain ⟨_, hca, hsa⟩ := list_cells HO.out (by simp)
     have xa := (hca a.toNat (by omega)).1
     have ya := (hca a.toNat (by omega)).2
     obtain ⟨_, hcb, hsb⟩ := list_cells (hsa a.toNat (atA * den)) (by simp)
     have xb := (hcb b.toNat (by omega)).1
     have yb := (hcb b.toNat (by omega)).2
     have HO2 := Aside0.mk (hsb b.toNat (atB * den))
     have HBO2 : Aside0 (Below go w4 ((W5.setCell ⟨go, a.toNat, none⟩ (.int .i64 (atA * den))).setCell ⟨go, b.toNat, none⟩ (.int .i64 (atB * den)))) := ⟨(HBO.out.setCell (p := ⟨go, a.toNat, none⟩) (Nat.le_refl _) _).setCell (p := ⟨go, b.toNat, none⟩) (Nat.le_refl _) _⟩
     clear hca hsa hcb hsb
     generalize rd ((List.replicate l.length 0).set a.toNat (atA * den)) ((b.toNat : Nat) : Int) = vb at *
     generalize rd (List.replicate l.length 0) ((a.toNat : Nat) : Int) = va at *
     go_upto_region 29 with (fail)
     clear xa ya xb yb hwa hwb
     generalize (W5.setCell ⟨go, a.toNat, none⟩ (.int .i64 (atA * den))).setCell ⟨go, b.toNat, none⟩ (.int .i64 (atB * den)) = W6 at *
     go_wp2_with (fail)
     go_loopg [139] m (fun kq v139 wq => ∃ (k : Nat) (out : List Int), v139 = .int .i64 (k : Int) ∧ Aside0 (k + kq = m) ∧ Aside0 (OutK l own atA atB a b k out) ∧ Aside0 (ListD wq go (.slice (some ⟨go, 0, none⟩) l.length l.length) out) ∧ Aside0 (Below go w4 wq))
     case atStart => exact ⟨0, _, rfl, ⟨by omega⟩, HOK, HO2, HBO2⟩
     case round =>
      clear HOK HO2 HBO2 HO HBO
      obtain ⟨k, out, rfl, HK, HOK, HO, HB5⟩ := hrel
      cases gk with
      | zero =>
       have e1 : m = k := by have := HK.out; omega
       subst e1
       have hk : ¬ ((m : Int) < (m : Int)) := by omega
       go_wp2_with (fail)
       refine bodyPost_ret (v := .tuple #[.slice (some ⟨go, 0, none⟩) l.length l.length, .int .i64 den]) (by simp [results, Try.results90, go_sem]) rfl ?_
       refine ⟨_, out, by rw [HDE.out], HB04.out.trans (HB5.out.mono (by have := HB04.out.size; omega)), ⟨ListD.lower' HO.out (by have := HB04.out.size; omega)⟩, ⟨?_⟩⟩
       rw [HPLE.out, ← HM.out]
       exact HOK.out
      | succ m1 =>
       have hkm : k < m := by have := HK.out; omega
       have hk : (k : Int) < (m : Int) := by omega
       have s5 := HB5.out.size
       rw [hgo] at s5
       obtain ⟨adp, rfl, hp0⟩ := Kd.at_int HPL4.out (k : Int) (by omega) (by omega)
       rw [Int.toNat_natCast] at hp0
       have hpi := HMEM.out (rd pl (k : Int)) (by rw [rd_at pl k (by have := HM.out; omega)]; exact List.getElem_mem _)
       have hnx := outK_more HOK.out (by rw [HPLE.out, ← HM.out]; exact hkm) ha0 hb0
       rw [HPLE.out] at hnx
       obtain ⟨pi, HPI⟩ : ∃ pi, Aside0 (rd pl (k : Int) = pi) := ⟨_, ⟨rfl⟩⟩
       rw [HPI.out] at hp0 hpi hnx
       obtain ⟨hpi0, hpi1, _, _⟩ := hpi
       have HDK : Aside0 (D m (matF (colL M R k)) = numOf l own atA atB a b k) := ⟨HNUM.out k⟩
       obtain ⟨nk, HNK⟩ : ∃ nk, Aside0 (numOf l own atA atB a b k = nk) := ⟨_, ⟨rfl⟩⟩
       rw [HNK.out] at HDK hnx
       have HNX := Aside0.mk hnx
       have HOL : Aside0 (out.length = l.length) := ⟨HOK.out.1⟩
       clear hnx
       replace hp0 : wr.cell? (adp.add k) = _ := (HB5.out.cell (by have := World.block_lt_of_cell? w4 _ hp0; omega)).trans hp0
       have HM5 : Aside0 (RowsC wr (.slice A16 m c16) M) := ⟨HM4.out.below (by rw [hgo]; exact HB5.out)⟩
       have HR5r : Aside0 (ListC wr (.slice A17 m c17) R) := ⟨HR4.out.below (by rw [hgo]; exact HB5.out)⟩
       obtain ⟨W7, hW7⟩ : ∃ W, W = wr := ⟨wr, rfl⟩
       subst hW7
       have HE := Aside0.mk (rowsD_empty W7 W7.heap.size (Nat.le_refl _))
       have HB70 : Aside0 (Below W7.heap.size W7 (W7.alloc (.cells #[] 37))) := ⟨(Below.refl _ _).alloc (Nat.le_refl _) _⟩
       go_wp2_with (fail)
       go_loopg [28, 147] m (fun kq v28 v147 wq => ∃ (i : Nat) (A28 : Option Addr) (c28 : Nat), v147 = .int .i64 (i : Int) ∧ v28 = .slice A28 i c28 ∧ Aside0 (i + kq = m) ∧ Aside0 (RowsD wq W7.heap.size (.slice A28 i c28) ((colL M R k).take i)) ∧ Aside0 (Below W7.heap.size W7 wq))
       case atStart => exact ⟨0, _, _, rfl, rfl, ⟨by omega⟩, HE, HB70⟩
       case round =>
        clear HE HB70 hp0
        obtain ⟨i, A28, c28, rfl, rfl, HI, HRW, HB7⟩ := hrel
        have hsq := sq_colL HSQM.out R k
        cases gk with
        | zero =>
         have e1 : m = i := by have := HI.out; omega
         subst e1
         have hi : ¬ ((m : Int) < (m : Int)) := by omega
         have hrw := HRW.out
         rw [List.take_of_length_le (by rw [hsq.len]; omega)] at hrw
         have HCR : Aside0 (RowsC wr (.slice A28 m c28) (colL M R k)) := ⟨hrw.reads⟩
         have HCB : Aside0 (∀ r c, r < m → c < m → (matF (colL M R k) r c).natAbs ≤ 5) := ⟨fun r c hr hc => by
          rw [colL_at HSQM.out R hr hc]
          split
          ·exact HR5.out r hr
          ·exact HBM5.out r c hr hc⟩
         have HSQC := Aside0.mk hsq
         have HB57 : Aside0 (Below go w4 wr) := ⟨HB5.out.trans (HB7.out.mono (by omega))⟩
         have s7 := HB7.out.size
         clear hrw hsq HRW
         go_wp2_with (go_at_call 118; refine (det_c m (colL M R k) HSQC.out hm6 HCB.out _ _ HCR.out).mono ?_; rw [HDK.out]; rintro e w8 ⟨rfl, hB8⟩; have HO8 : Aside0 (ListD w8 go (.slice (some ⟨go, 0, none⟩) l.length l.length) out) := ⟨own_move HO.out fun b hb => (hB8.block b (by have := own_lt HO.out b hb; omega)).trans (HB7.out.block b (own_lt HO.out b hb))⟩; have HB8 := Aside0.mk hB8; obtain ⟨_, hca, hsa⟩ := list_cells HO8.out HOL.out.symm; have xa := (hca pi.toNat (by omega)).1; have ya := (hca pi.toNat (by omega)).2; have HS8 := Aside0.mk (hsa pi.toNat nk); have HBS : Aside0 (Below go w4 (w8.setCell ⟨go, pi.toNat, none⟩ (.int .i64 nk))) := ⟨(HB57.out.trans (hB8.mono (by omega))).setCell (p := ⟨go, pi.toNat, none⟩) (Nat.le_refl _) _⟩; clear hB8 hca hsa; generalize rd out ((pi.toNat : Nat) : Int) = vx at *)
         go_roundg m1
         case measure => omega
         case rel => exact ⟨k + 1, out.set pi.toNat nk, by first | rfl | go_num, ⟨by have := HK.out; omega⟩, HNX, HS8, HBS⟩
        | succ m2 =>
         have him : i < m := by have := HI.out; omega
         have hi : (i : Int) < (m : Int) := by omega
         obtain ⟨Am, cm, hem, hlm, hCm⟩ := HM5.out
         rw [HML.out] at hem hCm
         injection hem with e1 _ e3
         subst e1 e3
         obtain ⟨adm, A0, c0, rfl, hx, hl0, hi0⟩ := at_L1 hCm (i : Int) (by omega) (by omega)
         rw [Int.toNat_natCast] at hx
         have hrl : (rd_L1 M (i : Int)).length = m := (HSQM.out.at him).2
         obtain ⟨Ar, cr, her, hlr, hCr⟩ := HR5r.out
         rw [HRL.out] at her hCr
         injection her with e1 _ e3
         subst e1 e3
         obtain ⟨adr, rfl, hy⟩ := Kd.at_int hCr (i : Int) (by omega) (by omega)
         rw [Int.toNat_natCast] at hy
         have hget := colL_get HSQM.out R k him
         have hcl := hsq.len
         have htk : (colL M R k).take (i + 1) = (colL M R k).take i ++ [(rd_L1 M (i : Int)).set k (rd R (i : Int))] := by
          rw [List.take_add_one, hget]
          rfl
         have HTK := Aside0.mk htk
         obtain ⟨ro, HRO⟩ : ∃ ro, Aside0 (rd_L1 M (i : Int) = ro) := ⟨_, ⟨rfl⟩⟩
         obtain ⟨ri, HRI⟩ : ∃ ri, Aside0 (rd R (i : Int) = ri) := ⟨_, ⟨rfl⟩⟩
         rw [HRO.out] at hx hl0 hi0 hrl HTK
         rw [HRI.out] at hy HTK
         have hROr : Aside0 (ListC wr (.slice A0 ro.length c0) ro) := ⟨⟨A0, c0, rfl, hl0, Kd.C_below hi0 HB7.out⟩⟩
         rw [hrl] at hROr hx
         have HRLN := Aside0.mk hrl
         replace hx : wr.cell? (adm.add i) = _ := (HB7.out.cell (World.block_lt_of_cell? W7 _ hx)).trans hx
         have HY : Aside0 (wr.cell? (adr.add i) = some (.int .i64 ri)) := ⟨(HB7.out.cell (World.block_lt_of_cell? W7 _ hy)).trans hy⟩
         obtain ⟨L, hown1, hL1⟩ := HRW.out
         have HO1 := Aside0.mk hown1
         have HL1 := Aside0.mk hL1
         have hLn : L.length = i := by have := own_len hown1; simp at *; omega
         have hwr := HB7.out.size
         have HCL := Aside0.mk hcl
         clear hown1 hL1 hl0 hi0 hCm hCr hlm hlr hget htk hsq hrl hcl hy
         go_upto_region 37 with (go_at_call 114; refine (clone_c ro _ _ hROr.out (by have := HRLN.out; omega)).mono ?_; rintro e w5 ⟨v5, rfl, hB5, hD5⟩; obtain ⟨gc, cc, hv5⟩ := listD_form hD5.out (by have := HRLN.out; omega); rw [HRLN.out] at hv5; subst hv5; have HB9 := Aside0.mk hB5; have hsz5 := hB5.size; clear hB5)
         obtain ⟨hgc, hca, hsa⟩ := list_cells hD5.out HRLN.out.symm
         have xa := (hca k hkm).1
         have ya := (hca k hkm).2
         have hs9 := hsa k ri
         have hy : w5.cell? (adr.add i) = _ := (HB9.out.cell (World.block_lt_of_cell? wr _ HY.out)).trans HY.out
         have HBX : Aside0 (Below wr.heap.size wr (w5.setCell ⟨gc, k, none⟩ (.int .i64 ri))) := ⟨HB9.out.setCell (p := ⟨gc, k, none⟩) hgc _⟩
         have HS9 := Aside0.mk hs9
         have HO5 := Aside0.mk (own_move HO1.out fun k hk => HBX.out.block k (own_lt HO1.out k hk))
         have HBel := Aside0.mk (HB7.out.trans (HBX.out.mono hwr))
         have hsx := HBX.out.size
         clear hca hsa hs9 hD5
         generalize rd ro ((k : Nat) : Int) = vx at *
         go_upto_region 38 with (fail)
         clear xa ya hy hx
         generalize w5.setCell ⟨gc, k, none⟩ (.int .i64 ri) = w6 at *
         go_wp2_with (at_builtin; go_loud (refine print_append (w0 := W7) W7.heap.size rfl (.tmp 161) (.tmp 163) 22 37 (.slice none 0 0) 24 rfl Try.underlying22 GA.info37 rfl (by decide) (.slice A28 i c28) L (.slice (some ⟨gc, 0, none⟩) m cc) rfl rfl rfl (by have := HO5.out; simp only [List.length_take] at this; rw [hLn]; rw [Nat.min_eq_left (by have := HCL.out; omega)] at this; exact this) HBel.out (by omega) (by rw [hLn]; omega) ?_; intro v9 w9 hown hbel hg hat; have HRN := Aside0.mk (rowsD_more HO1.out HL1.out hwr HBX.out HS9.out hown hg); rw [← HTK.out] at HRN; obtain ⟨A10, c10, hv9, _⟩ := HRN.out.slice; rw [show ((colL M R k).take (i + 1)).length = i + 1 by rw [List.length_take, HCL.out]; omega] at hv9; subst hv9; have HBN := Aside0.mk hbel; clear hown hbel hg hat))
         go_roundg m2
         case measure => omega
         case rel => exact ⟨i + 1, A10, c10, by first | rfl | go_num, rfl, ⟨by have := HI.out; omega⟩, HRN, HBN⟩
    | succ m1 =>
     have him : i < m := by have := HI.out; omega
     have hi : (i : Int) < (m : Int) := by omega
     obtain ⟨adp, rfl, hp0⟩ := Kd.at_int HLC.out (i : Int) (by omega) (by omega)
     rw [Int.toNat_natCast] at hp0
     have hpi := HMEM.out (rd pl (i : Int)) (by rw [rd_at pl i (by have := HM.out; omega)]; exact List.getElem_mem _)
     obtain ⟨pi, HPI⟩ : ∃ pi, Aside0 (rd pl (i : Int) = pi) := ⟨_, ⟨rfl⟩⟩
     rw [HPI.out] at hp0 hpi
     obtain ⟨hpi0, hpi1, _, _⟩ := hpi
     obtain ⟨ad, A0, c0, rfl, hx, hl0, hi0⟩ := at_L1 HC.out pi hpi0 hpi1
     have hdg := H5.out pi hpi0 hpi1
     have hqs := HQ.out pi hpi0 hpi1
     have hss := HS.out pi hpi0 hpi1
     obtain ⟨ex, HEXE⟩ : ∃ ex, Aside0 (rd_L1 l pi = ex) := ⟨_, ⟨rfl⟩⟩
     rw [HEXE.out] at hx hl0 hi0 hdg hqs hss
     obtain ⟨dg, HDG⟩ : ∃ dg, Aside0 (dg = ex.length) := ⟨_, ⟨rfl⟩⟩
     rw [← HDG.out] at hx hl0 hi0 hdg hss
     have HQS := Aside0.mk hqs
     have HSS := Aside0.mk hss
     have HEX := Aside0.mk hi0
     replace hp0 : wr.cell? (adp.add i) = _ := (HB2.out.cell (World.block_lt_of_cell? W2 _ hp0)).trans hp0
     have s1 := HBW.out.size
     have s2 := HB.out.size
     have HB12 : Aside0 (Below W1.heap.size W1 wr) := ⟨HB.out.trans (HB2.out.mono s2)⟩
     have HB02 : Aside0 (Below w.heap.size w wr) := ⟨HBW.out.trans (HB12.out.mono s1)⟩
     have HBx : Aside0 (wr.cell? ⟨w.heap.size, 0, none⟩ = some (.slice (some ad) l.length c)) := ⟨(HB12.out.cell (p := ⟨w.heap.size, 0, none⟩) hsz).trans HX.out⟩
     have HXr : Aside0 (wr.cell? (ad.add pi.toNat) = some (.slice A0 dg c0)) := ⟨(HB12.out.cell (World.block_lt_of_cell? W1 _ hx)).trans hx⟩
     have HPLr : Aside0 (Kd.C (Kd.int .i64) wr (some adp) m pl) := ⟨Kd.C_below HLC.out HB2.out⟩
     have HPLc : Aside0 (m ≤ c8) := ⟨by have := HL.out.reads; obtain ⟨_, _, e, q, _⟩ := this; injection e with _ e2 e3; omega⟩
     have HEXr : Aside0 (Kd.C (Kd.int .i64) wr A0 dg ex) := ⟨Kd.C_below HEX.out HB12.out⟩
     clear hi0 hl0 hx hqs hss
     have hsW := HB2.out.size
     obtain ⟨W3, hW3⟩ : ∃ W, W = wr := ⟨wr, rfl⟩
     subst hW3
     go_upto_region 12 with (fail)
     go_cut [20, 21] (fun v20 v21 wc => ∃ W9 : World, wc = W9.alloc (.cells (madeCells #[.int .i64 0] m) 3) ∧ v20 = .slice (some ⟨W9.heap.size, 0, none⟩) m m ∧ v21 = .int .i64 (own pi) ∧ Aside0 (Below w.heap.size w W9) ∧ Aside0 (W9.heap = W3.heap ∧ Below W3.heap.size W3 W9))
     case first =>
      have HB9 : Aside0 (Below w.heap.size w W3.drew) := ⟨bN_ HB02.out 1⟩
      have hk9 : Aside0 (W3.drew.heap = W3.heap ∧ Below W3.heap.size W3 W3.drew) := ⟨rfl, bN_ (Below.refl _ _) 1⟩
      have HB9a : Aside0 (Below w.heap.size w (W3.drew.alloc (.cells (madeCells #[.int .i64 0] m) 3))) := ⟨HB9.out.alloc (by have := HB02.out.size; exact this) _⟩
      refine start_ (n := 8) (S := fun _ => True) (ds := []) #[false, false, false, false, false, false, false, false] (by kernel_rfl) rfl rfl trivial (fun hHeld => ?_)
      refine with_tabW otab12 obits12 (fun HT_ HW_ => ?_)
      generalize W3.drew = W9 at *
      refine pu_ (i := 0) (N := some 59) (v := ?_) (a' := ?_) HT_.out rfl rfl (Or.inl ⟨by rfl, ?_⟩) ?_ ?_
      rotate_left
      ·intro w'
       go_simp
       with_reducible rfl
      rotate_left
      ·simp only [sp_]
       rfl
      refine pu_ (i := 1) (N := some 60) (v := ?_) (a' := ?_) HT_.out rfl rfl (Or.inl ⟨by rfl, ?_⟩) ?_ ?_
      rotate_left
      ·intro w'
       go_simp
       with_reducible rfl
      rotate_left
      ·simp only [sp_]
       rfl
      refine pu_ (i := 3) (N := some 62) (v := ?_) (a' := ?_) HT_.out rfl rfl (Or.inl ⟨by rfl, ?_⟩) ?_ ?_
      rotate_left
      ·intro w'
       go_simp
       with_reducible rfl
      rotate_left
      ·simp only [sp_]
       rfl
      refine pu_ (i := 4) (N := some 63) (v := ?_) (a' := ?_) HT_.out rfl rfl (Or.inl ⟨by rfl, ?_⟩) ?_ ?_
      rotate_left
      ·intro w'
       go_simp
       with_reducible rfl
      rotate_left
      ·simp only [sp_]
       rfl
      refine two_ (i := 2) (j := 5) (Ni := some 61) (Nj := some 64) #[true, true, true, true, true, false, false, false] #[true, true, false, true, true, true, false, false] rfl rfl rfl rfl (two_of HT_.out (by kernel_rfl)) (by decide) (by decide) (fun K hK => ?_) (fun K hK => ?_)
      ·skip
       refine value_ (v := .slice (some ⟨W9.heap.size, 0, none⟩) m m) (w1 := W9.alloc (.cells (madeCells #[.int .i64 0] m) 3)) (by rfl) rfl ?_ ?_
       ·have hmk := make_run W9 m (by omega)
        go_simp
       refine hK.out _ _ trivial (fun hHeld => ?_)
       clear hK K
       refine norm_ (a' := ?_) ?_ ?_
       rotate_left
       ·show Act.put _ (some 61) _ = _
        simp only [sp_]
        rfl
       refine one_ (i := 5) (N := some 64) #[true, true, true, true, true, true, false, false] rfl rfl (one_of HT_.out (by kernel_rfl)) (by decide) (fun K hK => ?_)
       refine goesV_ hf hname hbody #[.int .i64 pi] (by rfl) rfl rfl (by rfl) (by (try simp only [List.map_toArray, List.map_cons, List.map_nil]); first | done | rfl) ?_
       refine (HOWN.out (W9.alloc (.cells (madeCells #[.int .i64 0] m) 3)) HB9a.out pi hpi0 hpi1).mono ?_
       rintro e w' ⟨rfl, hw'⟩
       rw [hw']
       clear hw'
       refine ⟨_, rfl, ?_⟩
       refine hK.out _ _ trivial (fun hHeld => ?_)
       clear hK K
       refine norm_ (a' := ?_) ?_ ?_
       rotate_left
       ·show Act.put _ (some 64) _ = _
        simp only [sp_]
        rfl
       refine pu_ (i := 6) (N := some 20) (v := ?_) (a' := ?_) HT_.out rfl rfl (Or.inl ⟨by rfl, ?_⟩) ?_ ?_
       rotate_left
       ·intro w'
        go_simp
        with_reducible rfl
       rotate_left
       ·simp only [sp_]
        rfl
       refine pu_ (i := 7) (N := some 21) (v := ?_) (a' := ?_) HT_.out rfl rfl (Or.inl ⟨by rfl, ?_⟩) ?_ ?_
       rotate_left
       ·intro w'
        go_simp
        with_reducible rfl
       rotate_left
       ·simp only [sp_]
        rfl
       refine done_ (done_of HT_.out (by kernel_rfl)) ?_
       clear HT_ HW_ hHeld
       go_wp2_with (fail)
       go_meet
       case rel => exact ⟨W9, rfl, rfl, rfl, HB9, hk9⟩
      ·skip
       refine goesV_ hf hname hbody #[.int .i64 pi] (by rfl) rfl rfl (by rfl) (by (try simp only [List.map_toArray, List.map_cons, List.map_nil]); first | done | rfl) ?_
       refine (HOWN.out W9 HB9.out pi hpi0 hpi1).mono ?_
       rintro e w' ⟨rfl, hw'⟩
       rw [hw']
       clear hw'
       refine ⟨_, rfl, ?_⟩
       refine hK.out _ _ trivial (fun hHeld => ?_)
       clear hK K
       refine norm_ (a' := ?_) ?_ ?_
       rotate_left
       ·show Act.put _ (some 64) _ = _
        simp only [sp_]
        rfl
       refine one_ (i := 2) (N := some 61) #[true, true, true, true, true, true, false, false] rfl rfl (one_of HT_.out (by kernel_rfl)) (by decide) (fun K hK => ?_)
       refine value_ (v := .slice (some ⟨W9.heap.size, 0, none⟩) m m) (w1 := W9.alloc (.cells (madeCells #[.int .i64 0] m) 3)) (by rfl) rfl ?_ ?_
       ·have hmk := make_run W9 m (by omega)
        go_simp
       refine hK.out _ _ trivial (fun hHeld => ?_)
       clear hK K
       refine norm_ (a' := ?_) ?_ ?_
       rotate_left
       ·show Act.put _ (some 61) _ = _
        simp only [sp_]
        rfl
       refine pu_ (i := 6) (N := some 20) (v := ?_) (a' := ?_) HT_.out rfl rfl (Or.inl ⟨by rfl, ?_⟩) ?_ ?_
       rotate_left
       ·intro w'
        go_simp
        with_reducible rfl
       rotate_left
       ·simp only [sp_]
        rfl
       refine pu_ (i := 7) (N := some 21) (v := ?_) (a' := ?_) HT_.out rfl rfl (Or.inl ⟨by rfl, ?_⟩) ?_ ?_
       rotate_left
       ·intro w'
        go_simp
        with_reducible rfl
       rotate_left
       ·simp only [sp_]
        rfl
       refine done_ (done_of HT_.out (by kernel_rfl)) ?_
       clear HT_ HW_ hHeld
       go_wp2_with (fail)
       go_meet
       case rel => exact ⟨W9, rfl, rfl, rfl, HB9, hk9⟩
     case rest =>
      obtain ⟨W9, rfl, rfl, rfl, HB9, HK9⟩ := hcut
      obtain ⟨gr, hgr⟩ : ∃ g, g = W9.heap.size := ⟨_, rfl⟩
      have hg3 : gr = W3.heap.size := by rw [hgr, HK9.out.1]
      have HMK := Aside0.mk (made_D W9 W3.heap.size m (by omega) (by omega))
      have HBM : Aside0 (Below W3.heap.size W3 (W9.alloc (.cells (madeCells #[.int .i64 0] m) 3))) := ⟨HK9.out.2.alloc (by omega) _⟩
      rw [← hgr] at HMK ⊢
      have hgs : W3.heap.size ≤ gr := by omega
      have HJ0 : Aside0 (RowI pl ex 0 (List.replicate m 0)) := ⟨by rw [HM.out]; exact rowI_start pl ex⟩
      have HS0 : Aside0 (sumF own atA atB a b pi ex 0 = own pi) := ⟨sumF_zero _ _ _ _ _ _ _⟩
      clear hg3
      generalize W9.alloc (.cells (madeCells #[.int .i64 0] m) 3) = W10 at *
      clear hgr HK9
      have hxr : W10.cell? (ad.add pi.toNat) = _ := (HBM.out.cell (World.block_lt_of_cell? W3 _ HXr.out)).trans HXr.out
      have hbr : W10.cell? ⟨w.heap.size, 0, none⟩ = _ := (HBM.out.cell (World.block_lt_of_cell? W3 _ HBx.out)).trans HBx.out
      obtain ⟨s0, HS0E⟩ : ∃ s, Aside0 (own pi = s) := ⟨_, ⟨rfl⟩⟩
      rw [HS0E.out] at HS0 ⊢
      go_wp2_with (fail)
      go_loopg [21, 71] dg (fun kq v21 v71 wq => ∃ (x : Nat) (s : Int) (r : List Int), v71 = .int .i64 (x : Int) ∧ v21 = .int .i64 s ∧ Aside0 (x + kq = dg) ∧ Aside0 (sumF own atA atB a b pi ex x = s) ∧ Aside0 (RowI pl ex x r) ∧ Aside0 (ListD wq W3.heap.size (.slice (some ⟨gr, 0, none⟩) m m) r) ∧ Aside0 (Below W3.heap.size W3 wq))
      case atStart => exact ⟨0, s0, _, rfl, rfl, ⟨by omega⟩, HS0, HJ0, HMK, HBM⟩
      case round =>
       clear HMK HBM HJ0 HS0 hxr hbr
       obtain ⟨x, s, r, rfl, rfl, HXI, HSM, HJ, HLR, HB3⟩ := hrel
       cases gk with
       | zero =>
        have e1 : dg = x := by have := HXI.out; omega
        subst e1
        have hxx : ¬ ((dg : Int) < (dg : Int)) := by omega
        have hmi : i < pl.length := by have := HM.out; omega
        have hrl := HJ.out.1
        obtain ⟨_, hcell, hset⟩ := list_cells HLR.out (by have := HM.out; omega)
        have x0 := (hcell i him).1
        have y0 := (hcell i him).2
        have hrv := HJ.out.2 i hmi
        have hcb : cntL (rd pl (i : Int)) (ex.take dg) ≤ dg := Nat.le_trans (cntL_le _ _) (by rw [List.length_take]; omega)
        have hvb : -5 ≤ rd r (i : Int) ∧ rd r (i : Int) ≤ 0 := by rw [hrv]; omega
        have HROW : Aside0 (r.set i (rd r (i : Int) + (dg : Int)) = rowM l pl pi) := ⟨by
         have e := rowI_end (l := l) HND.out hmi (r := r) (by rw [HPI.out, HEXE.out, ← HDG.out]; exact HJ.out)
         rw [HPI.out, HEXE.out, ← HDG.out] at e
         exact e⟩
        have HVV : Aside0 (wrap64 (rd r (i : Int) + (dg : Int)) = rd r (i : Int) + (dg : Int)) := ⟨wrap_id (by omega) (by omega)⟩
        have HS1 := Aside0.mk (hset i (rd r (i : Int) + (dg : Int)))
        have x1 : wr.cell? ⟨w.heap.size, 0, none⟩ = _ := (HB3.out.cell (World.block_lt_of_cell? W3 _ HBx.out)).trans HBx.out
        have x2 : wr.cell? (ad.add pi.toNat) = _ := (HB3.out.cell (World.block_lt_of_cell? W3 _ HXr.out)).trans HXr.out
        clear hcell hset hrv hcb hrl hmi
        generalize rd r (i : Int) = rv at *
        go_upto_region 23 with (fail)
        replace x0 : wr.drew.cell? ⟨gr, i, none⟩ = some (.int .i64 rv) := x0
        replace x1 : wr.drew.cell? ⟨w.heap.size, 0, none⟩ = some (.slice (some ad) l.length c) := x1
        replace x2 : wr.drew.cell? (ad.add pi.toNat) = some (.slice A0 dg c0) := x2
        replace y0 : wr.drew.frozen? ⟨gr, i, none⟩ = false := y0
        replace HS1 : Aside0 (ListD (wr.drew.setCell ⟨gr, i, none⟩ (.int .i64 (rv + (dg : Int)))) W3.heap.size (.slice (some ⟨gr, 0, none⟩) m m) (r.set i (rv + (dg : Int)))) := ⟨own_move HS1.out fun k hk => rfl⟩
        have HBS : Aside0 (Below W3.heap.size W3 (wr.drew.setCell ⟨gr, i, none⟩ (.int .i64 (rv + (dg : Int))))) := ⟨(bN_ HB3.out 1).setCell (p := ⟨gr, i, none⟩) hgs _⟩
        clear HLR HB3 HJ
        refine start_ (n := 14) (S := fun w' => w'.cell? ⟨gr, i, none⟩ = some (.int .i64 rv) ∧ w'.cell? ⟨w.heap.size, 0, none⟩ = some (.slice (some ad) l.length c) ∧ w'.cell? (ad.add pi.toNat) = some (.slice A0 dg c0)) (ds := [13]) #[false, false, false, false, false, false, false, false, false, false, false, false, false, false] (by kernel_rfl) rfl rfl ⟨x0, x1, x2⟩ (fun hHeld => ?_)
        refine with_tabW otab23 obits23 (fun HT_ HW_ => ?_)
        generalize wr.drew = W9 at *
        refine pu_ (i := 0) (N := some 97) (v := ?_) (a' := ?_) HT_.out rfl rfl (Or.inl ⟨by rfl, ?_⟩) ?_ ?_
        rotate_left
        ·intro w'
         go_simp
         with_reducible rfl
        rotate_left
        ·simp only [sp_]
         rfl
        refine pu_ (i := 1) (N := some 98) (v := ?_) (a' := ?_) HT_.out rfl rfl (Or.inl ⟨by rfl, ?_⟩) ?_ ?_
        rotate_left
        ·intro w'
         go_simp
         with_reducible rfl
        rotate_left
        ·simp only [sp_]
         rfl
        refine pu_ (i := 2) (N := some 99) (v := ?_) (a' := ?_) HT_.out rfl rfl (Or.inl ⟨by rfl, ?_⟩) ?_ ?_
        rotate_left
        ·intro w'
         go_simp
         with_reducible rfl
        rotate_left
        ·simp only [sp_]
         rfl
        refine pu_ (i := 3) (N := some 100) (v := ?_) (a' := ?_) HT_.out rfl rfl (Or.inl ⟨by rfl, ?_⟩) ?_ ?_
        rotate_left
        ·intro w'
         go_simp
         with_reducible rfl
        rotate_left
        ·simp only [sp_]
         rfl
        refine tk_ (i := 4) (N := some 101) (v := ?_) (a' := ?_) HT_.out HW_.out rfl rfl (Or.inl ⟨by rfl, ?_⟩) hHeld ?_ ?_
        rotate_left
        ·rintro w' ⟨s0, s1, s2⟩
         go_simp
         with_reducible rfl
        rotate_left
        ·simp only [sp_]
         rfl
        refine pu_ (i := 5) (N := some 102) (v := ?_) (a' := ?_) HT_.out rfl rfl (Or.inl ⟨by rfl, ?_⟩) ?_ ?_
        rotate_left
        ·intro w'
         go_simp
         with_reducible rfl
        rotate_left
        ·simp only [sp_]
         rfl
        refine tk_ (i := 6) (N := some 103) (v := ?_) (a' := ?_) HT_.out HW_.out rfl rfl (Or.inl ⟨by rfl, ?_⟩) hHeld ?_ ?_
        rotate_left
        ·rintro w' ⟨s0, s1, s2⟩
         go_simp
         with_reducible rfl
        rotate_left
        ·simp only [sp_]
         rfl
        refine pu_ (i := 7) (N := some 104) (v := ?_) (a' := ?_) HT_.out rfl rfl (Or.inl ⟨by rfl, ?_⟩) ?_ ?_
        rotate_left
        ·intro w'
         go_simp
         with_reducible rfl
        rotate_left
        ·simp only [sp_]
         rfl
        refine pu_ (i := 8) (N := some 105) (v := ?_) (a' := ?_) HT_.out rfl rfl (Or.inl ⟨by rfl, ?_⟩) ?_ ?_
        rotate_left
        ·intro w'
         go_simp
         with_reducible rfl
        rotate_left
        ·simp only [sp_]
         rfl
        refine tk_ (i := 9) (N := some 106) (v := ?_) (a' := ?_) HT_.out HW_.out rfl rfl (Or.inl ⟨by rfl, ?_⟩) hHeld ?_ ?_
        rotate_left
        ·rintro w' ⟨s0, s1, s2⟩
         go_simp
         with_reducible rfl
        rotate_left
        ·simp only [sp_]
         rfl
        refine pu_ (i := 10) (N := some 107) (v := ?_) (a' := ?_) HT_.out rfl rfl (Or.inl ⟨by rfl, ?_⟩) ?_ ?_
        rotate_left
        ·intro w'
         go_simp
         with_reducible rfl
        rotate_left
        ·simp only [sp_]
         rfl
        refine pu_ (i := 11) (N := some 108) (v := ?_) (a' := ?_) HT_.out rfl rfl (Or.inl ⟨by rfl, ?_⟩) ?_ ?_
        rotate_left
        ·intro w'
         go_simp
         with_reducible rfl
        rotate_left
        ·simp only [sp_]
         rfl
        refine pu_ (i := 12) (N := some 109) (v := ?_) (a' := ?_) HT_.out rfl rfl (Or.inl ⟨by rfl, ?_⟩) ?_ ?_
        rotate_left
        ·intro w'
         go_simp
         with_reducible rfl
        rotate_left
        ·simp only [sp_]
         rfl
        refine lastS_ (i := 13) (w1 := W9.setCell ⟨gr, i, none⟩ (.int .i64 (wrap64 (rv + (dg : Int))))) #[true, true, true, true, true, true, true, true, true, true, true, true, true, true] rfl rfl (one_of HT_.out (by kernel_rfl)) (by decide) (by rfl) ?_ ?_
        ·go_simp
        (try simp only [Act.put, List.setIfInBounds_toArray, List.set_cons_zero, List.set_cons_succ])
        refine done_ (done_of HT_.out (by kernel_rfl)) ?_
        clear HT_ HW_ hHeld x0 x1 x2 y0
        rw [HVV.out]
        generalize W9.setCell ⟨gr, i, none⟩ (.int .i64 (rv + (dg : Int))) = Y2 at *
        obtain ⟨L, o1, o2, o3, o4⟩ := HSD.out
        have O1 := Aside0.mk o1
        have O2 := Aside0.mk o2
        have O3 := Aside0.mk o3
        have O4 := Aside0.mk o4
        have hLn : L.length = i := by have := own_len o1; have := HM.out; simp at *; omega
        have HO5 := Aside0.mk (own_move O1.out fun k hk => HBS.out.block k (own_lt O1.out k hk))
        have HBel := Aside0.mk (HB2.out.trans (HBS.out.mono hsW))
        have hs3 := HBS.out.size
        have hrs : ((pl.take i).map fun p => sumF own atA atB a b p (rd_L1 l p) (rd_L1 l p).length).length = i := by have := HM.out; simp; omega
        have HRS := Aside0.mk hrs
        clear o1 o2 o3 o4 hrs
        go_wp2_with (first | (at_builtin; refine print_append (w0 := W2) W2.heap.size rfl (.tmp 110) (.tmp 112) 22 37 (.slice none 0 0) 24 rfl Try.underlying22 GA.info37 rfl (by decide) (.slice A16 i c16) L (.slice (some ⟨gr, 0, none⟩) m m) rfl rfl rfl (by have := HO5.out; simp only [List.length_map, List.length_take] at this; rw [hLn]; rw [Nat.min_eq_left (by have := HM.out; omega)] at this; exact this) HBel.out (by omega) (by rw [hLn]; omega) ?_; intro v6 w6 hown6 hbel6 hg6 hat6; have HRN := Aside0.mk (rowsD_more O1.out O2.out hsW HBS.out HS1.out hown6 hg6); obtain ⟨A20, c20, hv6, _⟩ := HRN.out.slice; rw [show ((pl.take i).map (rowM l pl) ++ [r.set i (rv + (dg : Int))]).length = i + 1 by have := HM.out; simp; omega] at hv6; subst hv6; have HW6 := Aside0.mk hown6; have HG6 := Aside0.mk hg6; have HB6 := Aside0.mk hbel6; have hs6 := hbel6.size; clear hown6 hg6 hbel6 hat6) | (at_builtin; go_loud (refine print_append_num (w0 := W2) W2.heap.size rfl (.tmp 114) (.tmp 116) 37 3 .i64 8 rfl Try.underlying37 GA.info3 (by decide) (.slice A17 i c17) ((pl.take i).map fun p => sumF own atA atB a b p (rd_L1 l p) (rd_L1 l p).length) s rfl rfl (list_after O1.out O3.out HBS.out HG6.out) HB6.out hs6 (by rw [HRS.out]; omega) ?_; intro v7 w7 hown7 hbel7 hg7 hat7; have HSN := Aside0.mk (side_more O1.out O2.out O3.out O4.out hsW HBS.out HS1.out HW6.out HG6.out hown7 hg7 hat7); obtain ⟨A21, c21, hv7⟩ := own_slice hown7; rw [show ((pl.take i).map (fun p => sumF own atA atB a b p (rd_L1 l p) (rd_L1 l p).length) ++ [s]).length = i + 1 by rw [List.length_append, HRS.out]; rfl] at hv7; subst hv7; have HB7 := Aside0.mk hbel7; clear hown7 hbel7 hg7 hat7)))
        have hil : i < pl.length := by have := HM.out; omega
        have hpe : pl[i] = pi := by rw [← HPI.out, rd_at pl i hil]
        have e1 : (pl.take i).map (rowM l pl) ++ [r.set i (rv + (dg : Int))] = (pl.take (i + 1)).map (rowM l pl) := by
         rw [List.take_succ_eq_append_getElem hil, List.map_append, HROW.out, List.map_cons, List.map_nil, hpe]
        have e2 : (pl.take i).map (fun p => sumF own atA atB a b p (rd_L1 l p) (rd_L1 l p).length) ++ [s] = (pl.take (i + 1)).map fun p => sumF own atA atB a b p (rd_L1 l p) (rd_L1 l p).length := by
         rw [List.take_succ_eq_append_getElem hil, List.map_append, List.map_cons, List.map_nil, hpe, HEXE.out, ← HDG.out, HSM.out]
        rw [e1, e2] at HSN
        go_roundg m1
        case measure => omega
        case rel => exact ⟨i + 1, A20, A21, c20, c21, by first | rfl | go_num, rfl, rfl, ⟨by have := HI.out; omega⟩, HSN, HB7⟩
       | succ m3 =>
        have hxd : x < dg := by have := HXI.out; omega
        have hx1 : (x : Int) < (dg : Int) := by omega
        obtain ⟨adx, hadx, hy0⟩ := Kd.at_int HEXr.out (x : Int) (by omega) (by omega)
        subst hadx
        rw [Int.toNat_natCast] at hy0
        rw [rd_at _ x (by have := HDG.out; omega)] at hy0
        have hxe : x < ex.length := by have := HDG.out; omega
        obtain ⟨y, HY⟩ : ∃ y, Aside0 (ex[x] = y) := ⟨_, ⟨rfl⟩⟩
        rw [HY.out] at hy0
        have hy1 := HQS.out y (by rw [← HY.out]; exact List.getElem_mem _)
        have HXE := Aside0.mk hxe
        have hs1 := HSS.out x (by omega)
        have hs2 := HSS.out (x + 1) (by omega)
        rw [HSM.out] at hs1
        replace hy0 : wr.cell? (adx.add x) = _ := (HB3.out.cell (World.block_lt_of_cell? W3 _ hy0)).trans hy0
        by_cases hya : y = a
        ·have q1 : (y == a) = true := beq_iff_eq.mpr hya
         have q2 : (y != a) = false := bne_eq_false_iff_eq.mpr hya
         have hst : sumF own atA atB a b pi ex (x + 1) = s + atA := by rw [sumF_a HAB.out HXE.out (by rw [HY.out]; exact hya), HSM.out]
         have hww : IntKind.i64.wrap (s + atA) = s + atA := IntWalk.i64_in _ (by omega)
         have HST := Aside0.mk hst
         have HJN := Aside0.mk (rowI_skip HJ.out HXE.out (by rw [HY.out]; exact fun h => (HMEM.out y h).2.2.1 hya))
         clear hst hs2 hya
         go_wp2_with (fail)
         go_roundg m3
         case measure => omega
         case rel => exact ⟨x + 1, s + atA, r, by first | rfl | go_num, by first | rfl | go_num, ⟨by have := HXI.out; omega⟩, HST, HJN, HLR, HB3⟩
        ·have q1 : (y == a) = false := beq_eq_false_iff_ne.mpr hya
         have q2 : (y != a) = true := bne_iff_ne.mpr hya
         by_cases hyb : y = b
         ·have q3 : (y == b) = true := beq_iff_eq.mpr hyb
          have q4 : (y != b) = false := bne_eq_false_iff_eq.mpr hyb
          have hst : sumF own atA atB a b pi ex (x + 1) = s + atB := by rw [sumF_b HAB.out HXE.out (by rw [HY.out]; exact hyb), HSM.out]
          have hww : IntKind.i64.wrap (s + atB) = s + atB := IntWalk.i64_in _ (by omega)
          have HST := Aside0.mk hst
          have HJN := Aside0.mk (rowI_skip HJ.out HXE.out (by rw [HY.out]; exact fun h => (HMEM.out y h).2.2.2 hyb))
          clear hst hs2 hya hyb
          go_wp2_with (fail)
          go_roundg m3
          case measure => omega
          case rel => exact ⟨x + 1, s + atB, r, by first | rfl | go_num, by first | rfl | go_num, ⟨by have := HXI.out; omega⟩, HST, HJN, HLR, HB3⟩
         ·have q3 : (y == b) = false := beq_eq_false_iff_ne.mpr hyb
          have q4 : (y != b) = true := bne_iff_ne.mpr hyb
          have hst : sumF own atA atB a b pi ex (x + 1) = s := by rw [sumF_no HXE.out (by rw [HY.out]; exact hya) (by rw [HY.out]; exact hyb), HSM.out]
          have HST := Aside0.mk hst
          obtain ⟨d, hd1, hd2, hidx⟩ := index_c pl y (by have := HM.out; omega) (HIN.out y hy1.1 hy1.2 hya hyb) wr (.slice (some adp) m c8) ⟨some adp, c8, by rw [← HM.out], by rw [← HM.out]; exact HPLc.out, by rw [← HM.out]; exact Kd.C_below HPLr.out HB3.out⟩
          have HIDX := Aside0.mk hidx
          have HJN := Aside0.mk (rowI_hit HND.out HJ.out HXE.out hd1 (by rw [HY.out]; exact hd2))
          have hrl := HJ.out.1
          obtain ⟨_, hcell, hset⟩ := list_cells HLR.out (by have := HM.out; omega)
          have hdm : d < m := by have := HM.out; omega
          have x0 := (hcell d hdm).1
          have y0 := (hcell d hdm).2
          have hrv := HJ.out.2 d hd1
          have hcb : cntL (rd pl (d : Int)) (ex.take x) ≤ x := Nat.le_trans (cntL_le _ _) (by rw [List.length_take]; omega)
          have hvb : -5 ≤ rd r (d : Int) ∧ rd r (d : Int) ≤ 0 := by rw [hrv]; omega
          have HS1 := Aside0.mk (hset d (rd r (d : Int) - 1))
          have HBS : Aside0 (Below W3.heap.size W3 (wr.setCell ⟨gr, d, none⟩ (.int .i64 (rd r (d : Int) - 1)))) := ⟨HB3.out.setCell (p := ⟨gr, d, none⟩) hgs _⟩
          have hdi : (d : Int) < (m : Int) := by omega
          clear hst hs2 hya hyb hidx hd1 hd2 hcell hset hrv hcb hrl
          generalize rd r (d : Int) = rv at *
          have hww : IntKind.i64.wrap (rv - 1) = rv - 1 := IntWalk.i64_in _ (by omega)
          go_wp2_with (go_at_call 117; refine HIDX.out.mono ?_; rintro e w' ⟨rfl, ⟨nd, rfl⟩⟩)
          go_roundg m3
          case measure => omega
          case rel => exact ⟨x + 1, s, r.set d (rv - 1), by first | rfl | go_num, rfl, ⟨by have := HXI.out; omega⟩, HST, HJN, ⟨own_move HS1.out fun k hk => rfl⟩, ⟨(bN_ HB3.out nd).setCell (p := ⟨gr, d, none⟩) hgs _⟩⟩
  | succ m =>
   have hi : (i : Int) < (l.length : Int) := by have := HI.out; omega
   have hml := innerT_len a b i
   have hbs := HB.out.size
   by_cases hia : (i : Int) = a
   ·have q1 : ((i : Int) == a) = true := beq_iff_eq.mpr hia
    have q2 : ((i : Int) != a) = false := bne_eq_false_iff_eq.mpr hia
    have hin := Aside0.mk (innerT_succ_out (a := a) (b := b) (i := i) (fun h => h.1 hia))
    clear hia
    go_wp2_with (fail)
    go_roundg m
    case measure => omega
    case rel => exact ⟨i + 1, A8, c8, by first | rfl | go_num, by rw [hin.out], ⟨by have := HI.out; omega⟩, by rw [hin.out]; exact HL, HB⟩
   ·have q1 : ((i : Int) == a) = false := beq_eq_false_iff_ne.mpr hia
    have q2 : ((i : Int) != a) = true := bne_iff_ne.mpr hia
    by_cases hib : (i : Int) = b
    ·have q3 : ((i : Int) == b) = true := beq_iff_eq.mpr hib
     have q4 : ((i : Int) != b) = false := bne_eq_false_iff_eq.mpr hib
     have hin := Aside0.mk (innerT_succ_out (a := a) (b := b) (i := i) (fun h => h.2 hib))
     clear hia hib
     go_wp2_with (fail)
     go_roundg m
     case measure => omega
     case rel => exact ⟨i + 1, A8, c8, by first | rfl | go_num, by rw [hin.out], ⟨by have := HI.out; omega⟩, by rw [hin.out]; exact HL, HB⟩
    ·have q3 : ((i : Int) == b) = false := beq_eq_false_iff_ne.mpr hib
     have q4 : ((i : Int) != b) = true := bne_iff_ne.mpr hib
     have hin := Aside0.mk (innerT_succ_in (a := a) (b := b) (i := i) ⟨hia, hib⟩)
     clear hia hib
     have HO7 : wr.ownsRow W1.heap.size 3 1 (.slice A8 (innerT a b i).length c8) (innerT a b i).length (nums .i64 (innerT a b i)) := HL.out
     go_wp2_with (at_builtin; go_loud (refine print_append_num (w0 := W1) W1.heap.size rfl (.tmp 46) (.tmp 48) 37 3 .i64 8 rfl Try.underlying37 GA.info3 (by decide) (.slice A8 (innerT a b i).length c8) (innerT a b i) (i : Int) rfl rfl HO7 HB.out hbs (by omega) ?_; intro v9 w9 hown hbel hg hat; obtain ⟨A9, m9, hv9⟩ := own_slice hown; subst hv9; have HL9 := Aside0.mk hown; have HB9 := Aside0.mk hbel; clear hown hbel hg hat))
     go_roundg m
     case measure => omega
     case rel => exact ⟨i + 1, A9, m9, by first | rfl | go_num, by rw [hin.out, List.length_append]; rfl, ⟨by have := HI.out; omega⟩, ⟨by rw [hin.out]; exact HL9.out⟩, HB9⟩
end Go.Proofs.Ytnbnalbomflafaa.DT
namespace Go.Proofs.Ytnbnalbomflafaa.DT
open Go.RowKit YtnbnalbomflafaaW.PrintWords YtnbnalbomflafaaW.PrintLast YtnbnalbomflafaaW.PrintMore
open GA hiding info37
open RA
def lsum : List Int → Int
 | [] => 0
 | x :: t => x + lsum t
theorem sumN_list (f : Int → Int) : ∀ pl : List Int, sumN pl.length (fun j => f (rd pl (j : Int))) = lsum (pl.map f)
 | [] => rfl
 | x :: t => by
  have ih := sumN_list f t
  rw [List.length_cons, sumN_first, List.map_cons, lsum, ← ih]
  congr 1
theorem lsum_sub (f g : Int → Int) : ∀ pl : List Int, lsum (pl.map fun q => f q - g q) = lsum (pl.map f) - lsum (pl.map g)
 | [] => rfl
 | x :: t => by
  have ih := lsum_sub f g t
  simp only [List.map_cons, lsum, ih]
  omega
theorem lsum_add (f g : Int → Int) : ∀ pl : List Int, lsum (pl.map fun q => f q + g q) = lsum (pl.map f) + lsum (pl.map g)
 | [] => rfl
 | x :: t => by
  have ih := lsum_add f g t
  simp only [List.map_cons, lsum, ih]
  omega
theorem lsum_none (c p : Int) : ∀ pl : List Int, p ∉ pl → lsum (pl.map fun q => if q = p then c else 0) = 0
 | [], _ => rfl
 | x :: t, h => by
  simp only [List.mem_cons, not_or] at h
  simp only [List.map_cons, lsum]
  rw [lsum_none c p t h.2, if_neg (fun e => h.1 e.symm)]
  rfl
theorem lsum_one (c p : Int) : ∀ pl : List Int, pl.Nodup → p ∈ pl → lsum (pl.map fun q => if q = p then c else 0) = c
 | [], _, h => by simp at h
 | x :: t, hn, h => by
  rw [List.nodup_cons] at hn
  simp only [List.map_cons, lsum]
  by_cases hx : x = p
  ·rw [if_pos hx, lsum_none c p t (by rw [← hx]; exact hn.1)]
   omega
  ·rw [if_neg hx, lsum_one c p t hn.2 (by simpa [Ne.symm hx] using h)]
   omega
theorem cntL_cons (q x : Int) (ex : List Int) : (cntL q (x :: ex) : Int) = (if q = x then 1 else 0) + (cntL q ex : Int) := by
 unfold cntL
 rw [List.filter_cons]
 by_cases h : x = q
 ·rw [if_pos (by simpa using h), if_pos h.symm, List.length_cons]
  omega
 ·rw [if_neg (by simpa using h), if_neg (fun e => h e.symm)]
  omega
def outs (pl ex : List Int) : Nat := (ex.filter fun x => decide (x ∉ pl)).length
theorem lsum_cnt (pl : List Int) (hn : pl.Nodup) : ∀ ex : List Int, lsum (pl.map fun q => (cntL q ex : Int)) + (outs pl ex : Int) = (ex.length : Int)
 | [] => by
  have : ∀ l : List Int, lsum (l.map fun q => (cntL q [] : Int)) = 0 := fun l => by
   induction l with
   | nil => rfl
   | cons y t ih => simp only [List.map_cons, lsum, ih]; rfl
  rw [this]
  rfl
 | x :: ex => by
  have ih := lsum_cnt pl hn ex
  have e : (fun q => (cntL q (x :: ex) : Int)) = fun q => (if q = x then (1 : Int) else 0) + (cntL q ex : Int) := by
   funext q
   exact cntL_cons q x ex
  rw [e, lsum_add]
  unfold outs at ih ⊢
  rw [List.filter_cons, List.length_cons]
  by_cases hx : x ∈ pl
  ·rw [lsum_one 1 x pl hn hx, if_neg (by simpa using hx)]
   omega
  ·rw [lsum_none 1 x pl hx, if_pos (by simpa using hx), List.length_cons]
   omega
theorem good_facts {l : List (List Int)} {a b : Int} (h : goodB l a b = true) : a ≠ b ∧ 0 ≤ a ∧ a < l.length ∧ 0 ≤ b ∧ b < l.length ∧ l.length ≤ 8 ∧ (∀ v : Int, 0 ≤ v → v < l.length → (rd_L1 l v).length ≤ 5) ∧ (∀ v : Int, 0 ≤ v → v < l.length → ∀ q ∈ rd_L1 l v, 0 ≤ q ∧ q < l.length) ∧ ∀ v : Int, 0 ≤ v → v < l.length → RA.Ends l a b v := by
 obtain ⟨h1, h2, h3, h4⟩ := (goodB_is l a b).2 h
 obtain ⟨hg, _, h8, a0, a1⟩ := KA.place_is h1
 obtain ⟨_, _, _, b0, b1⟩ := KA.place_is h2
 have hrow : ∀ v : Int, 0 ≤ v → v < l.length → rd_L1 l v ∈ l := fun v h0 h1 => by
  obtain ⟨i, rfl⟩ := Int.eq_ofNat_of_zero_le h0
  rw [rdL_at l i (by omega)]
  exact List.getElem_mem _
 exact ⟨h3, a0, a1, b0, b1, h8, fun v h0 h1 => (KA.graph_row hg (hrow v h0 h1)).1, fun v h0 h1 => (KA.graph_row hg (hrow v h0 h1)).2, h4⟩
theorem row_sum (l : List (List Int)) (a b : Int) {i : Nat} (hi : i < (innerL l a b).length) : sumN (innerL l a b).length (matF (matM l a b) i) = (outs (innerL l a b) (rd_L1 l (rd (innerL l a b) (i : Int))) : Int) := by
 have hn := inner_nodup l a b
 rw [sumN_congr (g := fun j => elM l (rd (innerL l a b) (i : Int)) (rd (innerL l a b) (j : Int))) (fun j hj => matM_at l a b hi hj), sumN_list]
 have hm : rd (innerL l a b) (i : Int) ∈ innerL l a b := by rw [rd_at _ i hi]; exact List.getElem_mem _
 generalize rd (innerL l a b) (i : Int) = p at hm ⊢
 have e : elM l p = fun q => (if q = p then ((rd_L1 l p).length : Int) else 0) - (cntL q (rd_L1 l p) : Int) := rfl
 rw [e, lsum_sub, lsum_one _ p _ hn hm]
 have := lsum_cnt (innerL l a b) hn (rd_L1 l p)
 omega
theorem den_pos {l : List (List Int)} {a b : Int} (h : goodB l a b = true) : 0 < denOf l a b := by
 obtain ⟨hab, a0, a1, b0, b1, h8, h5, hq, hE⟩ := good_facts h
 obtain ⟨d, hd⟩ := dist_fun l a b l.length (fun v h0 h1 => dist_ends (hE v h0 h1)) hq
 unfold denOf
 have hmem : ∀ i : Nat, i < (innerL l a b).length → rd (innerL l a b) (i : Int) ∈ innerL l a b := fun i hi => by rw [rd_at _ i hi]; exact List.getElem_mem _
 refine dom_pos (d := fun i => d (rd (innerL l a b) (i : Int))) ⟨fun i j hi hj hij => ?_, fun i hi => ?_, fun i hi hz => ?_⟩
 ·rw [matM_at l a b hi hj]
  unfold elM
  rw [if_neg (fun e => hij (rd_inj (inner_nodup l a b) hj hi e).symm)]
  omega
 ·rw [row_sum l a b hi]
  omega
 ·rw [row_sum l a b hi] at hz
  have hp := inner_mem (hmem i hi)
  obtain ⟨q, hqm, hlt⟩ := hd _ hp.1 hp.2.1 hp.2.2.1 hp.2.2.2
  have hqin : q ∈ innerL l a b := by
   by_cases c : q ∈ innerL l a b
   ·exact c
   ·have h0 : outs (innerL l a b) (rd_L1 l (rd (innerL l a b) (i : Int))) = 0 := by omega
    unfold outs at h0
    have := List.eq_nil_of_length_eq_zero h0
    rw [List.filter_eq_nil_iff] at this
    exact absurd (by simpa using c) (this q hqm)
  obtain ⟨j, hj, hje⟩ := List.mem_iff_getElem.1 hqin
  have hrj : rd (innerL l a b) (j : Int) = q := by rw [rd_at _ j hj, hje]
  refine ⟨j, hj, fun c => ?_, ?_, ?_⟩
  ·subst c
   rw [hrj] at hlt
   omega
  ·rw [matM_at l a b hi hj, hrj]
   unfold elM
   rw [if_neg (fun e => by rw [← e] at hlt; omega)]
   have : 0 < cntL q (rd_L1 l (rd (innerL l a b) (i : Int))) := by
    unfold cntL
    exact List.length_pos_of_mem (List.mem_filter.2 ⟨hqm, by simp⟩)
   omega
  ·show d (rd (innerL l a b) (j : Int)) < d (rd (innerL l a b) (i : Int))
   rw [hrj]
   exact hlt
end Go.Proofs.Ytnbnalbomflafaa.DT
namespace Go.Proofs.Ytnbnalbomflafaa.DT
open Go.RowKit YtnbnalbomflafaaW.PrintWords YtnbnalbomflafaaW.PrintLast YtnbnalbomflafaaW.PrintMore
open GA hiding info37
open RA
open Classical in
theorem S_of_rowsD {w : World} {base : Nat} {ok : Nat → Prop} {v : Value} {rows : List (List Int)} (h : RowsD w base v rows) (hok : ∀ k, base ≤ k → ok k) : Kd.S (Kd.slice 3 (Kd.int .i64)) 37 w base ok v rows := by
 obtain ⟨L, ho, hL⟩ := h
 have hLn : L.length = rows.length := by have := own_len ho; omega
 let f : Nat → Nat := fun k => if h : ∃ i, ∃ u : Value, L[i]? = some u ∧ u.ownBlock = some k then h.choose else 0
 refine ⟨f, fun k hk => hok k (own_base ho k hk), L, by rw [List.length_zipIdx]; exact ho, ?_⟩
 refine ⟨by show L.length = _ * 1; rw [List.length_zipIdx]; omega, fun j p hp => ?_⟩
 obtain ⟨r, i⟩ := p
 rw [List.getElem?_zipIdx] at hp
 obtain ⟨r2, hr2, he⟩ := Option.map_eq_some_iff.1 hp
 simp only [Prod.mk.injEq] at he
 obtain ⟨rfl, hj⟩ := he
 obtain ⟨u, hu, hou⟩ := hL.1 j r2 hr2
 have hjl : j < L.length := (List.getElem?_eq_some_iff.1 hu).1
 have e : L[j] = u := by rw [List.getElem?_eq_getElem hjl] at hu; exact Option.some.inj hu
 have hf : ∀ k, u.ownBlock = some k → f k = j := fun k hk => by
  have hex : ∃ i, ∃ u : Value, L[i]? = some u ∧ u.ownBlock = some k := ⟨j, u, hu, hk⟩
  have hc := hex.choose_spec
  have : f k = hex.choose := dif_pos hex
  rw [this]
  obtain ⟨u2, q1, q2⟩ := hc
  by_cases q : hex.choose = j
  ·exact q
  ·exact absurd hk (hL.2 _ j u2 u k q1 hu q q2)
 refine ⟨u, ?_, ?_⟩
 ·show (L.drop (j * 1)).take 1 = [u]
  rw [Nat.mul_one, List.drop_eq_getElem_cons hjl, e]
  rfl
 ·refine Kd.R_of_own (ok := fun k => (ok k ∧ some k ≠ v.ownBlock) ∧ f k = i) hou fun k hk => ⟨⟨hok k (own_base hou k hk), fun c => ?_⟩, by rw [hf k hk]; omega⟩
  obtain ⟨c1, e1⟩ := own_typed hou k hk
  obtain ⟨c2, e2⟩ := own_typed ho k c.symm
  rw [e1] at e2
  simp at e2
def spec_hiMatrix.f (l0_0 : List (List Int)) (a1 : Int) (a2 : Int) : Option (List Int × List (List Int)) := if KA.isGraphB l0_0 = true then some (innerL l0_0 a1 a2, matM l0_0 a1 a2) else none
theorem graph_facts {l : List (List Int)} (hg : KA.isGraphB l = true) : l.length ≤ 8 ∧ (∀ v : Int, 0 ≤ v → v < l.length → (rd_L1 l v).length ≤ 5) := by
 refine ⟨(KA.graph_len hg).2, fun v h0 h1 => ?_⟩
 obtain ⟨i, rfl⟩ := Int.eq_ofNat_of_zero_le h0
 refine (KA.graph_row hg ?_).1
 rw [rdL_at l i (by omega)]
 exact List.getElem_mem _
theorem spec_hiMatrix.calls (A0_0 : Option Addr) (c0_0 : Nat) (l0_0 : List (List Int)) (a1 : Int) (a2 : Int) (r1 : List Int) (r2 : List (List Int)) (w : World) (hr0_0 : Kd.C (Kd.slice 3 (Kd.int .i64)) w A0_0 l0_0.length l0_0) (hc0_0 : l0_0.length ≤ c0_0) (h : spec_hiMatrix.f l0_0 a1 a2 = some (r1, r2)) :
  Calls Try.prog 88 #[.agg #[.slice A0_0 l0_0.length c0_0], .int .i64 a1, .int .i64 a2] w fun e w' => ∃ v0_ v1_ : Value, e = .returned (.tuple #[v0_, v1_]) ∧ Kd.R (Kd.int .i64) 3 w' w.heap.size (fun _ => True) v0_ r1 ∧ Kd.S (Kd.slice 3 (Kd.int .i64)) 37 w' w.heap.size (fun k_ => some k_ ≠ (v0_ : Value).ownBlock) v1_ r2 ∧ Below w.heap.size w w' := by
 unfold spec_hiMatrix.f at h
 by_cases hg : KA.isGraphB l0_0 = true
 ·rw [if_pos hg] at h
  cases h
  obtain ⟨h8, h5⟩ := graph_facts hg
  refine (hiMatrix_c l0_0 a1 a2 h8 h5 w _ ⟨A0_0, c0_0, rfl, hc0_0, hr0_0⟩).mono ?_
  rintro e w' ⟨v1, v2, rfl, hB, h1, h2⟩
  obtain ⟨B, q1, q2, q3⟩ := h2.out
  exact ⟨v1, v2, rfl, Kd.R_of_own h1.out (fun _ _ => trivial), Kd.S_lower (S_of_rowsD q2 (fun k hk c => by have := q3 k c.symm; omega)) q1, hB⟩
 ·rw [if_neg hg] at h
  cases h
def outL (l : List (List Int)) (own : Int → Int) (atA atB a b : Int) : List Int := (List.range l.length).map fun (i : Nat) => if (i : Int) = a then atA * denOf l a b else if (i : Int) = b then atB * denOf l a b else numOf l own atA atB a b ((innerL l a b).idxOf (i : Int))
theorem out_is {l : List (List Int)} {own : Int → Int} {atA atB a b : Int} {out : List Int} (h : OutK l own atA atB a b (innerL l a b).length out) : out = outL l own atA atB a b := by
 obtain ⟨h1, h2, h3, h4⟩ := h
 refine List.ext_getElem (by simp [outL, h1]) fun i q1 q2 => ?_
 have e : (outL l own atA atB a b)[i] = if (i : Int) = a then atA * denOf l a b else if (i : Int) = b then atB * denOf l a b else numOf l own atA atB a b ((innerL l a b).idxOf (i : Int)) := by simp [outL]
 rw [e]
 by_cases ha : (i : Int) = a
 ·rw [if_pos ha, ← h2, ← ha, rd_at out i q1]
 ·rw [if_neg ha]
  by_cases hb : (i : Int) = b
  ·rw [if_pos hb, ← h3, ← hb, rd_at out i q1]
  ·rw [if_neg hb]
   have hm := mem_inner (l := l) (a := a) (b := b) (p := (i : Int)) (by omega) (by omega) ha hb
   have hlt := List.idxOf_lt_length_iff.2 hm
   rw [← h4 _ hlt, rd_at _ _ hlt]
   have e2 : (innerL l a b)[(innerL l a b).idxOf (i : Int)] = (i : Int) := List.getElem_idxOf hlt
   rw [e2, rd_at out i q1]
set_option maxHeartbeats 1000000 in
theorem own0_c (W : World) (p : Int) : Calls Try.prog 119 #[.int .i64 p] W fun e w' => e = .returned (.int .i64 0) ∧ w' = W := by
 go_enter Try.func119, Try.ntmps119
 go_wp2_with (fail)
 go_ret
 exact ⟨rfl, rfl⟩
end Go.Proofs.Ytnbnalbomflafaa.DT
namespace Go.Proofs.Ytnbnalbomflafaa.DT
open Go.RowKit YtnbnalbomflafaaW.PrintWords YtnbnalbomflafaaW.PrintLast YtnbnalbomflafaaW.PrintMore
open GA hiding info37
open RA
theorem sum_chances {l : List (List Int)} {a b : Int} (h5 : ∀ v : Int, 0 ≤ v → v < l.length → (rd_L1 l v).length ≤ 5) : ∀ p : Int, 0 ≤ p → p < l.length → ∀ x, x ≤ (rd_L1 l p).length → -5 ≤ sumF (fun _ => 0) 1 0 a b p (rd_L1 l p) x ∧ sumF (fun _ => 0) 1 0 a b p (rd_L1 l p) x ≤ 5 := fun p h0 h1 x hx => by
 have hd := h5 p h0 h1
 have h2 : cntL a ((rd_L1 l p).take x) ≤ x := Nat.le_trans (cntL_le _ _) (by rw [List.length_take]; omega)
 simp only [sumF]
 omega
def chL (l : List (List Int)) (a b : Int) : List Int := outL l (fun _ => 0) 1 0 a b
set_option maxHeartbeats 4000000 in
set_option maxRecDepth 100000 in
theorem chances_c (l : List (List Int)) (a b : Int) (h : goodB l a b = true) (w : World) (v : Value) (hv : RowsC w v l) : Calls Try.prog 93 #[.agg #[v], .int .i64 a, .int .i64 b] w fun e w' => ∃ v0, e = .returned (.tuple #[v0, .int .i64 (denOf l a b)]) ∧ Below w.heap.size w w' ∧ Aside0 (ListD w' w.heap.size v0 (chL l a b)) := by
 obtain ⟨hab, a0, a1, b0, b1, h8, h5, hq, _⟩ := good_facts h
 have HV := Aside0.mk hv
 obtain ⟨A, c, rfl, _, _⟩ := hv
 have HF := Aside0.mk (And.intro hab (And.intro h5 hq))
 have HAL : Aside0 (Below w.heap.size w (w.alloc (.cells #[.slice A l.length c] 30))) := ⟨(Below.refl _ _).alloc (Nat.le_refl _) _⟩
 clear hab h5 hq
 go_enter Try.func93, Try.ntmps93
 go_wp2_with (go_at_call 90; refine (solved_c l (fun _ => 0) 1 0 a b HF.out.1 a0 a1 b0 b1 h8 HF.out.2.1 HF.out.2.2 (by omega) (by omega) (sum_chances HF.out.2.1) 119 Try.f119 #[] Try.func119 (by kernel_rfl) rfl _ _ (HV.out.below HAL.out) (fun W _ p _ _ => own0_c W p)).mono ?_; rintro e w1 ⟨v1, out, rfl, hB, hL, hO⟩; have HB := Aside0.mk (HAL.out.trans (hB.mono (by simp))); have HL : Aside0 (ListD w1 w.heap.size v1 (chL l a b)) := ⟨by have e := out_is hO.out; unfold chL; rw [← e]; exact hL.out.lower' (by simp)⟩; clear hB hL hO)
 refine bodyPost_ret (v := .tuple #[v1, .int .i64 (denOf l a b)]) (by simp [results, Try.results93, go_sem]) rfl ?_
 exact ⟨v1, rfl, HB.out, HL⟩
noncomputable def impl_chances.f (l0_0 : List (List Int)) (a1 : Int) (a2 : Int) : Option (List Int × Int) := if goodB l0_0 a1 a2 = true then some (chL l0_0 a1 a2, denOf l0_0 a1 a2) else none
theorem impl_chances.calls (A0_0 : Option Addr) (c0_0 : Nat) (l0_0 : List (List Int)) (a1 : Int) (a2 : Int) (r1 : List Int) (r2 : Int) (w : World) (hr0_0 : Kd.C (Kd.slice 3 (Kd.int .i64)) w A0_0 l0_0.length l0_0) (hc0_0 : l0_0.length ≤ c0_0) (h : impl_chances.f l0_0 a1 a2 = some (r1, r2)) :
  Calls Try.prog 93 #[.agg #[.slice A0_0 l0_0.length c0_0], .int .i64 a1, .int .i64 a2] w fun e w' => ∃ v0_ : Value, e = .returned (.tuple #[v0_, .int .i64 r2]) ∧ Kd.R (Kd.int .i64) 3 w' w.heap.size (fun _ => True) v0_ r1 ∧ Below w.heap.size w w' := by
 unfold impl_chances.f at h
 by_cases hg : goodB l0_0 a1 a2 = true
 ·rw [if_pos hg] at h
  cases h
  refine (chances_c l0_0 a1 a2 hg w _ ⟨A0_0, c0_0, rfl, hc0_0, hr0_0⟩).mono ?_
  rintro e w' ⟨v1, rfl, hB, hL⟩
  exact ⟨v1, rfl, Kd.R_of_own hL.out (fun _ _ => trivial), hB⟩
 ·rw [if_neg hg] at h
  cases h
noncomputable def impl_goodEnd.f (l0_0 : List (List Int)) (a1 : Int) (a2 : Int) : Option Bool := some (goodB l0_0 a1 a2)
theorem impl_goodEnd.calls (A0_0 : Option Addr) (c0_0 : Nat) (l0_0 : List (List Int)) (a1 : Int) (a2 : Int) (r : Bool) (w : World) (hr0_0 : Kd.C (Kd.slice 3 (Kd.int .i64)) w A0_0 l0_0.length l0_0) (hc0_0 : l0_0.length ≤ c0_0) (h : impl_goodEnd.f l0_0 a1 a2 = some r) :
  Calls Try.prog 81 #[.agg #[.slice A0_0 l0_0.length c0_0], .int .i64 a1, .int .i64 a2] w fun e w' => e = .returned (.bool r) ∧ Below w.heap.size w w' := by
 obtain rfl := Option.some.inj h
 exact canEnd_c l0_0 a1 a2 w _ ⟨A0_0, c0_0, rfl, hc0_0, hr0_0⟩
end Go.Proofs.Ytnbnalbomflafaa.DT
namespace Go.Proofs.Ytnbnalbomflafaa.DT
open Go.RowKit YtnbnalbomflafaaW.PrintWords YtnbnalbomflafaaW.PrintLast YtnbnalbomflafaaW.PrintMore
open GA hiding info37
open RA
def ratV (x d : Int) : Int × Int := (Int.tdiv x (Nat.gcd x.natAbs d.natAbs : Nat), Int.tdiv d (Nat.gcd x.natAbs d.natAbs : Nat))
theorem gcd_loop (Y : Nat) : ∀ (k X : Nat), Y < k → GA.impl_gcd.l0 k (X : Int) (Y : Int) = some ((Nat.gcd X Y : Nat) : Int) := by
 induction Y using Nat.strongRecOn with
 | ind Y ih =>
  intro k X hk
  obtain ⟨k, rfl⟩ := KA.succ_of (show 0 < k by omega)
  unfold GA.impl_gcd.l0
  by_cases h : Y = 0
  ·subst h
   rw [if_pos (show ((0 : Nat) : Int) = 0 from rfl), Nat.gcd_zero_right]
  ·rw [if_neg (by omega), show Int.tmod (X : Int) (Y : Int) = ((X % Y : Nat) : Int) from rfl]
   have hlt := Nat.mod_lt X (Nat.pos_of_ne_zero h)
   rw [ih (X % Y) hlt k Y (by omega)]
   congr 2
   rw [Nat.gcd_comm, ← Nat.gcd_rec, Nat.gcd_comm]
theorem hiRatio_loop (x0 x1 : Int) (Y : Nat) : ∀ (k X : Nat), Y < k → 0 < Nat.gcd X Y → spec_hiRatio.l0 k x0 x1 (X : Int) (Y : Int) = some (wrap64 (Int.tdiv x0 ((Nat.gcd X Y : Nat) : Int)), wrap64 (Int.tdiv x1 ((Nat.gcd X Y : Nat) : Int))) := by
 induction Y using Nat.strongRecOn with
 | ind Y ih =>
  intro k X hk hg
  obtain ⟨k, rfl⟩ := KA.succ_of (show 0 < k by omega)
  unfold spec_hiRatio.l0
  by_cases h : Y = 0
  ·subst h
   rw [Nat.gcd_zero_right] at hg ⊢
   rw [if_neg (by omega), if_neg (by omega)]
  ·have hlt := Nat.mod_lt X (Nat.pos_of_ne_zero h)
   have e : Nat.gcd Y (X % Y) = Nat.gcd X Y := by rw [Nat.gcd_comm, ← Nat.gcd_rec, Nat.gcd_comm]
   rw [if_pos (by omega), if_neg (by omega), show Int.tmod (X : Int) (Y : Int) = ((X % Y : Nat) : Int) from rfl]
   rw [ih (X % Y) hlt k Y (by omega) (by rw [e]; exact hg), e]
theorem tdiv_small {x : Int} {g : Nat} (h : x.natAbs ≤ 1000000000000000) : wrap64 (Int.tdiv x (g : Int)) = Int.tdiv x (g : Int) := by
 have h1 : (Int.tdiv x (g : Int)).natAbs ≤ x.natAbs := by
  rw [Int.natAbs_tdiv]
  exact Nat.div_le_self _ _
 exact wrap_id (by omega) (by omega)
theorem abs_max (x : Int) (h : x.natAbs ≤ 1000000000000000) : mx x (wrap64 (-x)) = (x.natAbs : Int) := by
 rw [wrap_id (by omega) (by omega)]
 unfold mx
 split <;> omega
theorem spec_ratio {x d : Int} (hx : x.natAbs ≤ 1000000000000000) (hd : 0 < d) (hd2 : d ≤ 50000000) (k : Nat) (hk : 100000000 ≤ k) : spec_hiRatio.f k x d = some (ratV x d) := by
 obtain ⟨k, rfl⟩ := KA.succ_of (show 0 < k by omega)
 have hg : 0 < Nat.gcd x.natAbs d.natAbs := Nat.gcd_pos_of_pos_right _ (by omega)
 have e1 : (if x > -x then some x else some (-x)) = some ((x.natAbs : Nat) : Int) := by
  split
  ·rw [show ((x.natAbs : Nat) : Int) = x by omega]
  ·rw [show ((x.natAbs : Nat) : Int) = -x by omega]
 unfold spec_hiRatio.f
 rw [if_neg (by omega)]
 show ((spec_l1Abs.f x).bind fun t => spec_hiRatio.l0 k x d t d) = _
 unfold spec_l1Abs.f spec_l1Most.f
 rw [show wrap64 (-x) = -x from wrap_id (by omega) (by omega), e1]
 simp only [Option.bind_some]
 have e2 : d = ((d.natAbs : Nat) : Int) := by omega
 have := hiRatio_loop x d d.natAbs k x.natAbs (by omega) hg
 rw [← e2] at this
 rw [this, tdiv_small hx, tdiv_small (by omega)]
 rfl
theorem impl_ratio_f {x d : Int} (hx : x.natAbs ≤ 1000000000000000) (hd : 0 < d) (hd2 : d ≤ 50000000) (k : Nat) (hk : 100000000 ≤ k) : GA.impl_ratio.f k x d = some (ratV x d) := by
 have hg : 0 < Nat.gcd x.natAbs d.natAbs := Nat.gcd_pos_of_pos_right _ (by omega)
 unfold GA.impl_ratio.f GA.impl_gcd.f
 rw [abs_max x hx, abs_max d (by omega), gcd_loop _ _ _ (by omega), Option.bind_some, if_neg (by omega), if_neg (by omega), tdiv_small hx, tdiv_small (by omega)]
 rfl
theorem ratV_same {d : Int} (hd : 0 < d) : ratV d d = (1, 1) := by
 have e2 : ((d.natAbs : Nat) : Int) = d := by omega
 unfold ratV
 rw [Nat.gcd_self, e2, Int.tdiv_self (by omega)]
theorem ratV_zero {d : Int} (hd : 0 < d) : ratV 0 d = (0, 1) := by
 have e2 : ((d.natAbs : Nat) : Int) = d := by omega
 unfold ratV
 rw [show (0 : Int).natAbs = 0 from rfl, Nat.gcd_zero_left, e2, Int.tdiv_self (by omega), Int.zero_tdiv]
end Go.Proofs.Ytnbnalbomflafaa.DT
namespace Go.Proofs.Ytnbnalbomflafaa.DT
open Go.RowKit YtnbnalbomflafaaW.PrintWords YtnbnalbomflafaaW.PrintLast YtnbnalbomflafaaW.PrintMore
open GA hiding info37
open GR hiding rd_L1 at_L1 S27 z27 rd_T27
open RA
theorem kt_le {m : Nat} (hm : m ≤ 6) : KT m ≤ 152 := by
 have : m = 0 ∨ m = 1 ∨ m = 2 ∨ m = 3 ∨ m = 4 ∨ m = 5 ∨ m = 6 := by omega
 rcases this with h | h | h | h | h | h | h <;> rw [h] <;> decide
theorem trDet_five {m : Nat} {M : List (List Int)} (hm : m ≤ 6) (h : Sq m M) (hb : ∀ r c, r < m → c < m → (matF M r c).natAbs ≤ 5) (k : Nat) (hk : 152 ≤ k) : spec_trDet.f k M = some (D m (matF M)) :=
 trDet_is m 5 M (by omega) h (by omega) hb (Nat.le_trans (fe_le hm) (by omega)) k (Nat.le_trans (kt_le hm) hk)
theorem solve_l1 {m : Nat} {M : List (List Int)} {R : List Int} (hm : m ≤ 6) (h : Sq m M) (hR : R.length = m) (den : Int) (x7 : List Int) (jj : Int) {j : Nat} (hj : j < m) (d : Nat) : ∀ (k i : Nat), i + d = m →
  spec_hiSolve.l1 (k + d + 1) M R den x7 (j : Int) ((colL M R j).take i) (m : Int) jj M (m : Int) (i : Int) = (spec_trDet.f k (colL M R j)).bind fun t => if x7.length < 17592186044416 then spec_hiSolve.l0 k M R den (x7 ++ [t]) (m : Int) (wrap64 (jj + 1)) else none := by
 have hl := h.len
 have hc := (sq_colL h R j).len
 induction d with
 | zero =>
  intro k i hi
  unfold spec_hiSolve.l1
  rw [if_neg (by omega), List.take_of_length_le (by omega)]
 | succ d ih =>
  intro k i hi
  have him : i < m := by omega
  have hrow := (h.at him).2
  have hget := colL_get h R j him
  have e1 : (colL M R j).take i ++ [(GA.rd_L1 M (i : Int)).set j (rd R (i : Int))] = (colL M R j).take (i + 1) := by
   rw [List.take_add_one, hget]
   rfl
  rw [show k + (d + 1) + 1 = (k + d + 1) + 1 by omega]
  unfold spec_hiSolve.l1
  show (if (i : Int) < (m : Int) then (if 0 ≤ (i : Int) then (if (i : Int) < (M.length : Int) then ((spec_l1Own.f (GA.rd_L1 M (i : Int))).bind _) else none) else none) else _) = _
  rw [if_pos (by omega), if_pos (by omega), if_pos (by omega), own_is _ (by omega), Option.bind_some, if_pos (by omega), if_pos (by omega), if_pos (by omega), if_pos (by simp; omega), Int.toNat_natCast, e1, KA.wrap_up him (by omega)]
  exact ih k (i + 1) (by omega)
def numsL (m : Nat) (M : List (List Int)) (R : List Int) : List Int := (List.range m).map fun j => D m (matF (colL M R j))
theorem solve_l0 {m : Nat} {M : List (List Int)} {R : List Int} (hm : m ≤ 6) (h : Sq m M) (hR : R.length = m) (hb : ∀ r c, r < m → c < m → (matF M r c).natAbs ≤ 5) (hRb : ∀ r : Nat, r < m → (rd R (r : Int)).natAbs ≤ 5) (den : Int) (d : Nat) : ∀ (k j : Nat), j + d = m → 200 + d * 10 ≤ k →
  spec_hiSolve.l0 k M R den ((numsL m M R).take j) (m : Int) (j : Int) = some (numsL m M R, den) := by
 have hn : (numsL m M R).length = m := by simp [numsL]
 induction d with
 | zero =>
  intro k j hj hk
  obtain ⟨k, rfl⟩ := KA.succ_of (show 0 < k by omega)
  unfold spec_hiSolve.l0
  rw [if_neg (by omega), List.take_of_length_le (by omega)]
 | succ d ih =>
  intro k j hj hk
  have hjm : j < m := by omega
  obtain ⟨k2, rfl⟩ : ∃ k2, k = k2 + m + 1 + 1 := ⟨k - m - 2, by omega⟩
  have hl := h.len
  unfold spec_hiSolve.l0
  rw [if_pos (by omega)]
  have e := solve_l1 hm h hR den ((numsL m M R).take j) (j : Int) hjm m k2 0 (by omega)
  rw [List.take_zero] at e
  have e0 : (M.length : Int) = (m : Int) := by omega
  rw [e0]
  have hcb : ∀ r c, r < m → c < m → (matF (colL M R j) r c).natAbs ≤ 5 := fun r c hr hc => by
   rw [colL_at h R hr hc]
   split
   ·exact hRb r hr
   ·exact hb r c hr hc
  refine e.trans ?_
  rw [trDet_five hm (sq_colL h R j) hcb k2 (by omega), Option.bind_some, if_pos (by simp; omega), KA.wrap_up hjm (by omega)]
  have e2 : (numsL m M R).take j ++ [D m (matF (colL M R j))] = (numsL m M R).take (j + 1) := by
   rw [List.take_succ_eq_append_getElem (by omega)]
   congr 2
   simp [numsL]
  rw [e2]
  exact ih k2 (j + 1) (by omega) (by omega)
theorem solve_f {m : Nat} {M : List (List Int)} {R : List Int} (hm : m ≤ 6) (h : Sq m M) (hR : R.length = m) (hb : ∀ r c, r < m → c < m → (matF M r c).natAbs ≤ 5) (hRb : ∀ r : Nat, r < m → (rd R (r : Int)).natAbs ≤ 5) (k : Nat) (hk : 300 ≤ k) : spec_hiSolve.f k M R = some (numsL m M R, D m (matF M)) := by
 unfold spec_hiSolve.f
 rw [trDet_five hm h hb k (by omega), Option.bind_some]
 have hl := h.len
 have e0 : (M.length : Int) = (m : Int) := by omega
 rw [e0]
 exact solve_l0 hm h hR hb hRb _ m k 0 (by omega) (by omega)
end Go.Proofs.Ytnbnalbomflafaa.DT
namespace Go.Proofs.Ytnbnalbomflafaa.GT
open Go.RowKit YtnbnalbomflafaaW.PrintWords YtnbnalbomflafaaW.PrintLast YtnbnalbomflafaaW.PrintMore
open GA GB GD KA GR GQ DT
attribute [local go_sem] RA.field80_0 RA.field80_1 RA.field80_2 max2_int min2_int max_two min_two max_three min_three max_four min_four
def errW : Option Int → Value
 | none => .nilIface
 | some c => .iface 0 (.int .i64 c)
theorem errW_none : errW none = .nilIface := rfl
theorem errW_some (c : Int) : errW (some c) = .iface 0 (.int .i64 c) := rfl
theorem info3 : (Try.prog.info? 3).map (fun i => (i.zero, i.size, i.bytes)) = some (some (.int .i64 0), 1, 8) := by kernel_rfl
theorem info27 : (Try.prog.info? 27).map (fun i => (i.zero, i.size, i.bytes)) = some (some (.agg #[(.int .i64 0), (.int .i64 0)]), 2, 16) := by kernel_rfl
def rd_L1 (xs : List (List Int)) (i : Int) : (List Int) := xs.getD i.toNat ([] : List Int)
theorem at_L1 {w : World} {A : Option Addr} {n : Nat} {xs : List (List Int)} (h : Kd.C (Kd.slice 3 (Kd.int .i64)) w A n xs) (i : Int) (h0 : 0 ≤ i) (h1 : i < n) : ∃ ad A0 c0, A = some ad ∧ w.cell? (ad.add i.toNat) = some (.slice A0 (rd_L1 xs i).length c0) ∧ (rd_L1 xs i).length ≤ c0 ∧ (Kd.int .i64).C w A0 (rd_L1 xs i).length (rd_L1 xs i) := by
 obtain ⟨ad, c, e, _, hK, hc0⟩ := Kd.C_get h ([] : List Int) i h0 h1
 have hc : ∀ j u, c[j]? = some u → w.cell? (ad.add (i.toNat * 1 + j)) = some u := hc0
 obtain ⟨A0, c0, rfl, l0, g0⟩ := hK
 exact ⟨ad, A0, c0, e, by have hq := hc 0 _ rfl; rwa [Nat.mul_one, Nat.add_zero] at hq, l0, g0⟩
structure S27 where
 f0 : Int
 f1 : Int
def z27 : S27 := ⟨(0 : Int), (0 : Int)⟩
def k27 : Kd S27 := Kd.iso (Kd.pair (Kd.int .i64) (Kd.int .i64)) (fun x : S27 => (x.f0, x.f1))
theorem k27_openM {w : World} {base : Nat} {ok : Nat → Prop} {x : S27} {cs : List Value} (h : k27.M w base ok x cs) : cs = [.int .i64 x.f0, .int .i64 x.f1] := by
 obtain ⟨_, _, rfl, rfl, rfl⟩ := h
 exact rfl
theorem k27_mkM (w : World) (base : Nat) (ok : Nat → Prop) (x : S27)  : k27.M w base ok x [.int .i64 x.f0, .int .i64 x.f1] := ⟨[.int .i64 x.f0], [.int .i64 x.f1], rfl, rfl, rfl⟩
def rd_T27 (xs : List S27) (i : Int) : S27 := xs.getD i.toNat z27
end Go.Proofs.Ytnbnalbomflafaa.GT
