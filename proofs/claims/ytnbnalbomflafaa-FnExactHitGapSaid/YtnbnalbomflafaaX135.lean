/-
  Texts of the seat, merged (part 5).
-/
import Derived.Deep.AppendLies
import Derived.Test.YtnbnalbomflafaaProg
import Derived.Below
import Derived.Deep.Draws
import Derived.Maps.AppendAt
import Derived.OwnWalk
import Derived.Laws.BytesArg
import Derived.Laws.MakeOwn
import Derived.Laws.OwnMore
import Derived.Deep.OwnRows
import Derived.Tactics
import Derived.Lib.ConvBytes
import Derived.Laws.Slices
import Derived.WalkKit
import Derived.KernelRfl
import Derived.RowKit3
import Derived.Deep.LoopGhost
import Derived.Deep.QuietTactic
import Derived.BigQuiet
import Derived.WideLaws
import Derived.Deep.DeepCutAuto
import Derived.Deep.CutBlock
import Derived.Deep.RegionHeld3
import Derived.Laws.Rows
import Derived.Lib.AppendStr
import Derived.ArgAppend
import Derived.Laws.IdiomCopy
import Derived.OrdersHeld
import Derived.Laws.BitsLemmas
import Derived.RowKit
import Derived.Test.YtnbnalbomflafaaX13WWords
import Derived.Test.YtnbnalbomflafaaX13WLast
import Derived.Test.YtnbnalbomflafaaX13WTab
import Derived.Test.YtnbnalbomflafaaX13WFour
import Derived.Test.YtnbnalbomflafaaX13WQPut
import Derived.Test.YtnbnalbomflafaaX13WApart
import Derived.Test.YtnbnalbomflafaaX13WArr
import Derived.Test.YtnbnalbomflafaaX13WZeros
import Derived.Test.YtnbnalbomflafaaX13WFoot
import Derived.Test.YtnbnalbomflafaaX13WKept
import Derived.Test.YtnbnalbomflafaaX13WShare
import Derived.Test.YtnbnalbomflafaaX13WN
import Derived.Test.YtnbnalbomflafaaX13WFootNe
import Derived.Test.YtnbnalbomflafaaX13WAt
import Derived.Test.YtnbnalbomflafaaX13WEqStruct
import Derived.Test.YtnbnalbomflafaaX13WRepsOne
import Derived.Test.YtnbnalbomflafaaX13WInv
import Derived.Test.YtnbnalbomflafaaX13WInvWords
import Derived.Test.YtnbnalbomflafaaX13WGuard
import Derived.Test.YtnbnalbomflafaaX13WNEv
import Derived.Test.YtnbnalbomflafaaX13WMore
import Derived.Test.YtnbnalbomflafaaX134
set_option linter.unusedVariables false
set_option linter.unusedSimpArgs false
namespace Go.Proofs.Ytnbnalbomflafaa.RA
open Go.RowKit YtnbnalbomflafaaW.PrintWords YtnbnalbomflafaaW.PrintLast YtnbnalbomflafaaW.PrintMore
open GA
open GB hiding rd_L1 at_L1
open GD hiding rd_L1 at_L1
open GR hiding rd_L1 at_L1
open GQ hiding rd_L1 at_L1
open HB hiding rd_L1 at_L1
open KA
theorem rdQ (l : List (List Int)) (i : Int) : GQ.rd_L1 l i = GA.rd_L1 l i := rfl
def hitOf (v a : Int) : Int := if v = a then 1 else 0
theorem spec_run {l : List (List Int)} {a b : Int} {s : Nat} {v : Int} {rot : List Int} {st v1 : Int} {rot1 : List Int} {st1 : Int} (h : Run l a b s v rot st v1 rot1 st1) (hab : a ≠ b) :
  ∀ (k : Nat) (p n : Int) (hits : List Int), hits.length ≤ 1000 → spec_hiRun.l1 (k + s + 1) p a b n v l hits rot st = spec_hiRun.l0 k p a b (wrap64 (n - 1)) l (hits ++ [hitOf v1 a]) rot1 st1 := by
 induction h with
 | stop v rot st h =>
  intro k p n hits hh
  show spec_hiRun.l1 (k + 1) _ _ _ _ _ _ _ _ _ = _
  unfold spec_hiRun.l1 hitOf
  by_cases ha : v = a
  ·rw [if_pos ha, if_pos (by omega), if_pos ha]
  ·rw [if_neg ha, if_pos (h.resolve_left ha), if_pos (by omega), if_neg ha]
 | go s v rot st v1 rot1 st1 ha hb h0 h1 hr k hk hkr h ih =>
  intro k2 p n hits hh
  have := ih k2 p n hits hh
  unfold spec_hiRun.l1
  rw [if_neg ha, if_neg hb, if_pos h0, if_pos h1, if_pos hr, rdQ, if_neg (by omega), hkr, if_pos (by omega), if_pos (by omega)]
  exact this
inductive Chips (l : List (List Int)) (a b p : Int) : Nat → List Int → List Int → Int → List Int → List Int → Int → Prop
 | none (hits rot : List Int) (st : Int) : Chips l a b p 0 hits rot st hits rot st
 | more (n s : Nat) (hits rot : List Int) (st v1 : Int) (rot1 : List Int) (st1 : Int) (hits2 rot2 : List Int) (st2 : Int) (h : Run l a b s p rot st v1 rot1 st1) (h2 : Chips l a b p n (hits ++ [hitOf v1 a]) rot1 st1 hits2 rot2 st2) : Chips l a b p (n + 1) hits rot st hits2 rot2 st2
theorem chips_len {l : List (List Int)} {a b p : Int} {n : Nat} {hits rot : List Int} {st : Int} {hits2 rot2 : List Int} {st2 : Int} (h : Chips l a b p n hits rot st hits2 rot2 st2) : hits2.length = hits.length + n := by
 induction h with
 | none => rfl
 | more n s hits rot st v1 rot1 st1 hits2 rot2 st2 h h2 ih => rw [ih]; simp; omega
theorem chips_ex (l : List (List Int)) (a b p : Int) (h5 : ∀ v : Int, 0 ≤ v → v < l.length → (GA.rd_L1 l v).length ≤ 5) (hrow : ∀ v : Int, 0 ≤ v → v < l.length → ∀ q ∈ GA.rd_L1 l v, 0 ≤ q ∧ q < l.length)
  (hE : ∀ v : Int, 0 ≤ v → v < l.length → Ends l a b v) (hp0 : 0 ≤ p) (hp1 : p < l.length) : ∀ (n : Nat) (hits rot : List Int) (st : Int), Rots l rot → ∃ hits2 rot2 st2, Chips l a b p n hits rot st hits2 rot2 st2 ∧ Rots l rot2
 | 0, hits, rot, st, hR => ⟨hits, rot, st, Chips.none _ _ _, hR⟩
 | n + 1, hits, rot, st, hR => by
  obtain ⟨s, v1, rot1, st1, hrun, hR1⟩ := run_ex l a b h5 hrow hE rot p st hR hp0 hp1
  obtain ⟨hits2, rot2, st2, hc, hR2⟩ := chips_ex l a b p h5 hrow hE hp0 hp1 n (hits ++ [hitOf v1 a]) rot1 st1 hR1
  exact ⟨hits2, rot2, st2, Chips.more n s hits rot st v1 rot1 st1 hits2 rot2 st2 hrun hc, hR2⟩
theorem spec_chips {l : List (List Int)} {a b p : Int} (hab : a ≠ b) {n : Nat} {hits rot : List Int} {st : Int} {hits2 rot2 : List Int} {st2 : Int} (h : Chips l a b p n hits rot st hits2 rot2 st2) (hh : hits.length + n ≤ 1000) :
  ∃ K, ∀ k, K ≤ k → spec_hiRun.l0 k p a b (n : Int) l hits rot st = some (hits2, rot2, st2) := by
 induction h with
 | none hits rot st =>
  refine ⟨1, fun k hk => ?_⟩
  obtain ⟨k, rfl⟩ := succ_of (show 0 < k by omega)
  unfold spec_hiRun.l0
  rw [if_neg (by omega)]
 | more n s hits rot st v1 rot1 st1 hits2 rot2 st2 h h2 ih =>
  obtain ⟨K, hK⟩ := ih (by simp; omega)
  refine ⟨K + s + 2, fun k hk => ?_⟩
  obtain ⟨k2, rfl⟩ : ∃ k2, k = k2 + s + 1 + 1 := ⟨k - s - 2, by omega⟩
  unfold spec_hiRun.l0
  rw [if_pos (by omega), spec_run h hab k2 p _ hits (by omega), show wrap64 (((n + 1 : Nat) : Int) - 1) = (n : Int) by rw [wrap_id (by omega) (by omega)]; omega]
  exact hK k2 (by omega)
end Go.Proofs.Ytnbnalbomflafaa.RA
namespace Go.Proofs.Ytnbnalbomflafaa.RA
open Go.RowKit YtnbnalbomflafaaW.PrintWords YtnbnalbomflafaaW.PrintLast YtnbnalbomflafaaW.PrintMore
open GA
open GB hiding rd_L1 at_L1
open GD hiding rd_L1 at_L1
open GR hiding rd_L1 at_L1
open GQ hiding rd_L1 at_L1
open HB hiding rd_L1 at_L1
open KA
theorem good_both (l : List (List Int)) (a b : Int) : ∃ u, (∀ k, 400 ≤ k → spec_hiGood.f k l a b = some u ∧ impl_canEnd.f k l a b = some u) ∧ (u = true → placeB l a = true ∧ placeB l b = true ∧ a ≠ b ∧ ∀ v : Int, 0 ≤ v → v < l.length → Ends l a b v) := by
 cases h : placeB l a && placeB l b && (a != b) with
 | false =>
  refine ⟨false, fun k hk => ⟨?_, can_none l a b h k (by omega)⟩, fun h => by cases h⟩
  unfold spec_hiGood.f
  rw [goals_eq l a b k (by omega), h]
  rfl
 | true =>
  obtain ⟨u, hu⟩ := can_both l a b h
  refine ⟨u, fun k hk => ⟨?_, (hu k (by omega)).2⟩, fun hut => ?_⟩
  ·unfold spec_hiGood.f
   rw [goals_eq l a b k (by omega), h, Option.bind_some, if_pos rfl, (hu k (by omega)).1]
   rfl
  ·simp only [Bool.and_eq_true, bne_iff_ne] at h
   obtain ⟨⟨h1, h2⟩, h3⟩ := h
   obtain ⟨hg, _, h8, _, _⟩ := place_is h1
   refine ⟨h1, h2, h3, fun v h0 hv => ?_⟩
   have hc := (hu 300 (Nat.le_refl _)).1
   rw [hut] at hc
   exact can_told l a b (by omega) 300 0 (Int.le_refl _) hc v h0 hv
open Classical in
noncomputable def goodB (l : List (List Int)) (a b : Int) : Bool := (good_both l a b).choose
theorem goodB_is (l : List (List Int)) (a b : Int) : (∀ k, 400 ≤ k → spec_hiGood.f k l a b = some (goodB l a b) ∧ impl_canEnd.f k l a b = some (goodB l a b)) ∧ (goodB l a b = true → placeB l a = true ∧ placeB l b = true ∧ a ≠ b ∧ ∀ v : Int, 0 ≤ v → v < l.length → Ends l a b v) := (good_both l a b).choose_spec
noncomputable def askedB (l : List (List Int)) (x : List Int) (p a b n : Int) : Bool := goodB l a b && walkB l x p && inB n 0 100
theorem asked_eq (l : List (List Int)) (x : List Int) (p a b n : Int) (k : Nat) (hk : 400 ≤ k) : spec_hiAsked.f k l x p a b n = some (askedB l x p a b n) := by
 unfold spec_hiAsked.f askedB
 rw [((goodB_is l a b).1 k hk).1, Option.bind_some]
 cases goodB l a b with
 | false => rfl
 | true =>
  rw [if_pos rfl, waGood_eq l x p k (by omega), Option.bind_some]
  cases walkB l x p with
  | false => rfl
  | true =>
   rw [if_pos rfl, l1In_eq]
   rfl
theorem okWalk_at : ∀ (l : List (List Int)) (x : List Int), okWalk l x = true → ∀ (i : Nat) (h1 : i < l.length) (h2 : i < x.length), inB x[i] 0 (max ((l[i].length : Int) - 1) 0) = true
 | [], _, _, i, h1, _ => by simp at h1
 | _ :: _, [], _, i, _, h2 => by simp at h2
 | e :: l, r :: s, h, i, h1, h2 => by
  unfold okWalk at h
  rw [Bool.and_eq_true] at h
  cases i with
  | zero => exact h.1
  | succ i => exact okWalk_at l s h.2 i (by simpa using h1) (by simpa using h2)
theorem rots_of {l : List (List Int)} {x : List Int} {p : Int} (h : walkB l x p = true) : Rots l x := by
 obtain ⟨_, hl, hk⟩ := walk_is h
 refine ⟨hl, fun v h0 h1 hd => ?_⟩
 obtain ⟨i, rfl⟩ := Int.eq_ofNat_of_zero_le h0
 have hi : i < l.length := by omega
 have hx : i < x.length := by omega
 have := okWalk_at l x hk i hi hx
 unfold inB at this
 rw [decide_eq_true_eq] at this
 rw [rdL_at l i hi] at hd ⊢
 rw [rd_at x i hx]
 omega
theorem asked_ends {l : List (List Int)} {x : List Int} {p a b n : Int} (h : askedB l x p a b n = true) : a ≠ b ∧ 0 ≤ p ∧ p < l.length ∧ l.length ≤ 8 ∧ Rots l x ∧ 0 ≤ n ∧ n ≤ 100 ∧ ∃ hits2 rot2 st2, Chips l a b p n.toNat [] x 0 hits2 rot2 st2 ∧ Rots l rot2 := by
 unfold askedB at h
 simp only [Bool.and_eq_true] at h
 obtain ⟨⟨h1, h2⟩, h3⟩ := h
 obtain ⟨hpa, hpb, hab, hE⟩ := (goodB_is l a b).2 h1
 obtain ⟨hp, hl, hk⟩ := walk_is h2
 obtain ⟨hg, h11, h8, hp0, hp1⟩ := place_is hp
 unfold inB at h3
 rw [decide_eq_true_eq] at h3
 have hrow : ∀ v : Int, 0 ≤ v → v < l.length → GA.rd_L1 l v ∈ l := fun v h0 h1 => by
  obtain ⟨i, rfl⟩ := Int.eq_ofNat_of_zero_le h0
  rw [rdL_at l i (by omega)]
  exact List.getElem_mem _
 refine ⟨hab, hp0, hp1, h8, rots_of h2, h3.1, h3.2, chips_ex l a b p (fun v h0 h1 => (graph_row hg (hrow v h0 h1)).1) (fun v h0 h1 => (graph_row hg (hrow v h0 h1)).2) hE hp0 hp1 n.toNat [] x 0 (rots_of h2)⟩
open Classical in
noncomputable def chipsA (l : List (List Int)) (x : List Int) (p a b n : Int) : List Int × List Int × Int :=
 if h : askedB l x p a b n = true then ((asked_ends h).2.2.2.2.2.2.2.choose, (asked_ends h).2.2.2.2.2.2.2.choose_spec.choose, (asked_ends h).2.2.2.2.2.2.2.choose_spec.choose_spec.choose) else ([], [], 0)
theorem chipsA_is {l : List (List Int)} {x : List Int} {p a b n : Int} (h : askedB l x p a b n = true) : Chips l a b p n.toNat [] x 0 (chipsA l x p a b n).1 (chipsA l x p a b n).2.1 (chipsA l x p a b n).2.2 ∧ Rots l (chipsA l x p a b n).2.1 := by
 unfold chipsA
 rw [dif_pos h]
 exact (asked_ends h).2.2.2.2.2.2.2.choose_spec.choose_spec.choose_spec
end Go.Proofs.Ytnbnalbomflafaa.RA
namespace Go.Proofs.Ytnbnalbomflafaa.RA
open Go.RowKit YtnbnalbomflafaaW.PrintWords YtnbnalbomflafaaW.PrintLast YtnbnalbomflafaaW.PrintMore
open GA
open GR hiding rd_L1 at_L1
open GQ hiding rd_L1 at_L1
open KA
theorem hiRun_f {l : List (List Int)} {x : List Int} {p a b n : Int} (h : askedB l x p a b n = true) : ∃ K, ∀ k, K ≤ k → spec_hiRun.f k l x p a b n = some (chipsA l x p a b n) := by
 obtain ⟨hab, hp0, hp1, h8, hR, hn0, hn1, _⟩ := asked_ends h
 obtain ⟨hc, _⟩ := chipsA_is h
 obtain ⟨K, hK⟩ := spec_chips hab hc (by simp; omega)
 refine ⟨K, fun k hk => ?_⟩
 unfold spec_hiRun.f spec_l1Own.f
 have hl := hR.1
 simp only [Option.bind_some, List.nil_append, List.length_nil, Nat.zero_add]
 rw [if_pos (by omega), Option.bind_some]
 have := hK k hk
 rw [Int.toNat_of_nonneg hn0] at this
 exact this
noncomputable def stepsA (l : List (List Int)) (x : List Int) (p a b n : Int) : Int × Bool := if askedB l x p a b n = true then ((chipsA l x p a b n).2.2, true) else (0, false)
noncomputable def hitListA (l : List (List Int)) (x : List Int) (p a b n : Int) : List Int × Bool := if askedB l x p a b n = true then ((chipsA l x p a b n).1, true) else ([], false)
noncomputable def behindA (l : List (List Int)) (x : List Int) (p a b n : Int) : List Int × Bool := if askedB l x p a b n = true then ((chipsA l x p a b n).2.1, true) else ([], false)
theorem hitListA_fits (l : List (List Int)) (x : List Int) (p a b n : Int) : FitsL (hitListA l x p a b n).1 := by
 unfold FitsL hitListA
 cases h : askedB l x p a b n with
 | false => simp
 | true =>
  obtain ⟨_, _, _, _, _, hn0, hn1, _⟩ := asked_ends h
  have := chips_len (chipsA_is h).1
  rw [if_pos rfl]
  simp at this
  show (chipsA l x p a b n).1.length ≤ 1000000
  omega
end Go.Proofs.Ytnbnalbomflafaa.RA
namespace Go.Proofs.Ytnbnalbomflafaa.RA
open Go.RowKit YtnbnalbomflafaaW.PrintWords YtnbnalbomflafaaW.PrintLast YtnbnalbomflafaaW.PrintMore
open GA
def ST1 : Bool × List (List Nat × List Nat) := (true, [([], []), ([0], [0]), ([], []), ([2], [2]), ([3], [3]), ([4], [4]), ([1, 5], [1, 5]), ([6], [6]), ([7, 0, 1, 2, 3, 4, 5, 6, 7], [7])])
def SB1 : List Nat := [0, 1, 0, 4, 12, 28, 63, 127, 255]
theorem stab1 : rtab .any (opsOf Try.f115 1) = ST1 := by kernel_rfl
theorem sbits1 : waitsOk ST1.2 SB1 = true := by kernel_rfl
def ST4 : Bool × List (List Nat × List Nat) := (true, [([], []), ([0], [0]), ([1], [1]), ([2], [2]), ([], []), ([4], [4]), ([5], [5]), ([6], [6]), ([], []), ([8], [8]), ([9], [9]), ([10], [10]), ([], []), ([12], [12]), ([13], [13]), ([14], [14]), ([11, 15], [11, 15]), ([16], [16]), ([17], [17]), ([], []), ([19], [19]), ([18, 20], [18, 20]), ([3, 7, 0, 1, 2, 3, 4, 5, 6, 7, 8, 9, 10, 11, 12, 13, 14, 15, 16, 17, 18, 19, 20, 21], [3, 7]), ([22, 21, 0, 1, 2, 3, 4, 5, 6, 7, 8, 9, 10, 11, 12, 13, 14, 15, 16, 17, 18, 19, 20, 21], [21, 22])])
def SB4 : List Nat := [0, 1, 3, 7, 0, 16, 48, 112, 0, 256, 768, 1792, 0, 4096, 12288, 28672, 65280, 130816, 261888, 0, 524288, 2096896, 4194303, 8388607]
theorem stab4 : rtab .any (opsOf Try.f115 4) = ST4 := by kernel_rfl
theorem sbits4 : waitsOk ST4.2 SB4 = true := by kernel_rfl
def ST5 : Bool × List (List Nat × List Nat) := (true, [([], []), ([], []), ([], []), ([2], [2]), ([3], [3]), ([4], [4]), ([], []), ([6], [6]), ([7], [7]), ([8], [8]), ([5, 9], [5, 9]), ([10], [10]), ([1, 11], [1, 11]), ([12], [12]), ([0, 0, 1, 2, 3, 4, 5, 6, 7, 8, 9, 10, 11, 12, 13], [0]), ([14, 0, 1, 2, 3, 4, 5, 6, 7, 8, 9, 10, 11, 12, 13], [14]), ([15, 13, 0, 1, 2, 3, 4, 5, 6, 7, 8, 9, 10, 11, 12, 13], [13, 15])])
def SB5 : List Nat := [0, 0, 0, 4, 12, 28, 0, 64, 192, 448, 1020, 2044, 4094, 8190, 16383, 32767, 65535]
theorem stab5 : rtab .any (opsOf Try.f115 5) = ST5 := by kernel_rfl
theorem sbits5 : waitsOk ST5.2 SB5 = true := by kernel_rfl
theorem lastS_ {P : Program} {md : Region.Mode} {ops : Array Oper} {Q : Exit → Act → World → Prop} {S : World → Prop} {ds : List Nat} {i : Nat} {oi : Oper} {fuel : Nat} {l : Array Bool} {a : Act} {w w1 : World} (l' : Array Bool) (hi : ops[i]? = some oi) (hN : oi.dst = none) (hc : readyB md ops l l' i = true) (hd : i ∈ ds)
  (hw : Region.wanted oi (yielded ops a.tmps) = true) (hrun : (execOp a.eval oi).run P w = .ok .skip w1) (h : wpAnyLast P md ops Q S ds fuel l' a w1) : wpAnyLast P md ops Q S ds (fuel + 1) l a w :=
 last_ l' hi hN hc hd fun _ hK => skip_ hw hN hrun (hK.out _ _ h)
theorem setCell_heap {w w1 : World} (h : w1.heap = w.heap) (p : Addr) (v : Value) : (w1.setCell p v).heap = (w.setCell p v).heap := by
 unfold World.setCell
 rw [h]
theorem cell_heap {w w1 : World} (h : w1.heap = w.heap) (p : Addr) : w1.cell? p = w.cell? p := by
 unfold World.cell?
 rw [h]
theorem cell_of {w w1 : World} {p : Addr} (h : w1.heap[p.block]? = w.heap[p.block]?) : w1.cell? p = w.cell? p := by
 unfold World.cell?
 rw [h]
theorem add_block (a : Addr) (n : Nat) : (a.add n).block = a.block := by unfold Addr.add; split <;> rfl
set_option maxHeartbeats 4000000 in
set_option maxRecDepth 100000 in
theorem step_raw (ad : Addr) (c n N : Nat) (B G cap : Nat) (at_ r nxt : Int) (k len cr : Nat) (adr : Addr) (cur : Array Value) (w : World) (hn : N ≤ w.heap.size)
  (h0 : 0 ≤ at_) (h1 : at_ < (n : Int)) (f1 : w.cell? (ad.add at_.toNat) = some (.slice (some adr) len cr)) (bB : w.heap[B]? = some (.cells #[.slice (some ⟨G, 0, none⟩) n cap, .int .i64 at_] 98 (0, 0)))
  (bG : w.heap[G]? = some (.cells cur 3 (0, 0))) (hcur : cur[at_.toNat]? = some (.int .i64 r)) (f5 : w.cell? (adr.add k) = some (.int .i64 nxt)) (hk : k < len) (hkr : Int.tmod (wrap64 (r + 1)) (len : Int) = (k : Int))
  (hBG : B ≠ G) (hr : adr.block ≠ G) (hNB : N ≤ B) (hNG : N ≤ G) :
  Calls Try.prog 115 #[.agg #[.slice (some ad) n c], .pointer (some ⟨B, 0, none⟩)] w fun e w' => e = .returned (.bool true) ∧ Below N w w' ∧ w'.heap = (((w.alloc (.cells #[.slice (some ad) n c] 30)).setCell ⟨G, at_.toNat, none⟩ (.int .i64 k)).setCell ⟨B, 1, none⟩ (.int .i64 nxt)).heap := by
 have kept : ∀ (p : Addr) (v : Value), w.cell? p = some v → (w.alloc (.cells #[.slice (some ad) n c] 30)).cell? p = some v := fun p v h => (World.cell?_alloc_lt _ _ _ (World.block_lt_of_cell? w _ h)).trans h
 have k0 : (w.alloc (.cells #[.slice (some ad) n c] 30)).cell? ⟨w.heap.size, 0, none⟩ = some (.slice (some ad) n c) := (blk_cell (blk_new _ _) 0).trans rfl
 have k1 := kept _ _ f1
 have k5 := kept _ _ f5
 have qB := kA_ bB (.cells #[.slice (some ad) n c] 30)
 have qG := kA_ bG (.cells #[.slice (some ad) n c] 30)
 have k2 := (blk_cell qB 0).trans rfl
 have k3 := (blk_cell qB 1).trans rfl
 have k4 := (blk_cell qG at_.toNat).trans hcur
 have y1 := kF_ qG at_.toNat
 have HQ := Aside0.mk (And.intro qB qG)
 have HB0 := Aside0.mk ((Below.refl N w).alloc hn (.cells #[.slice (some ad) n c] 30))
 clear f1 f5 kept bB bG qB qG
 go_enter Try.func115, Try.ntmps115
 have hl0 : ¬ ((len : Int) = 0) := by omega
 have hl1 : ¬ (len = 0) := by omega
 have HW : Aside0 ((w.alloc (.cells #[.slice (some ad) n c] 30)).heap = (w.alloc (.cells #[.slice (some ad) n c] 30)).heap) := ⟨rfl⟩
 go_upto_region 1 with (fail)
 replace y1 : (w.alloc (.cells #[.slice (some ad) n c] 30)).drew.frozen? ⟨G, at_.toNat, none⟩ = false := y1
 replace k0 : (w.alloc (.cells #[.slice (some ad) n c] 30)).drew.cell? ⟨w.heap.size, 0, none⟩ = some (.slice (some ad) n c) := k0
 replace k1 : (w.alloc (.cells #[.slice (some ad) n c] 30)).drew.cell? (ad.add at_.toNat) = some (.slice (some adr) len cr) := k1
 replace k2 : (w.alloc (.cells #[.slice (some ad) n c] 30)).drew.cell? ⟨B, 0, none⟩ = some (.slice (some ⟨G, 0, none⟩) n cap) := k2
 replace k3 : (w.alloc (.cells #[.slice (some ad) n c] 30)).drew.cell? ⟨B, 1, none⟩ = some (.int .i64 at_) := k3
 replace k4 : (w.alloc (.cells #[.slice (some ad) n c] 30)).drew.cell? ⟨G, at_.toNat, none⟩ = some (.int .i64 r) := k4
 replace k5 : (w.alloc (.cells #[.slice (some ad) n c] 30)).drew.cell? (adr.add k) = some (.int .i64 nxt) := k5
 replace HB0 : Aside0 (Below N w (w.alloc (.cells #[.slice (some ad) n c] 30)).drew) := ⟨bN_ HB0.out 1⟩
 replace HQ : Aside0 ((w.alloc (.cells #[.slice (some ad) n c] 30)).drew.heap[B]? = some (.cells #[.slice (some ⟨G, 0, none⟩) n cap, .int .i64 at_] 98 (0, 0)) ∧ (w.alloc (.cells #[.slice (some ad) n c] 30)).drew.heap[G]? = some (.cells cur 3 (0, 0))) := ⟨HQ.out⟩
 replace HW : Aside0 ((w.alloc (.cells #[.slice (some ad) n c] 30)).drew.heap = (w.alloc (.cells #[.slice (some ad) n c] 30)).heap) := ⟨HW.out⟩
 refine start_ (n := 9) (S := fun w' => w'.cell? ⟨w.heap.size, 0, none⟩ = some (.slice (some ad) n c) ∧ w'.cell? ⟨B, 1, none⟩ = some (.int .i64 at_) ∧ w'.cell? (ad.add at_.toNat) = some (.slice (some adr) len cr)) (ds := []) #[false, false, false, false, false, false, false, false, false] (by kernel_rfl) rfl rfl ⟨k0, k3, k1⟩ (fun hHeld => ?_)
 refine with_tabW stab1 sbits1 (fun HT_ HW_ => ?_)
 generalize (w.alloc (.cells #[.slice (some ad) n c] 30)).drew = W1 at *
 refine pu_ (i := 0) (N := some 6) (v := ?_) (a' := ?_) HT_.out rfl rfl (Or.inl ⟨by rfl, ?_⟩) ?_ ?_
 rotate_left
 ·intro w'
  go_simp
  with_reducible rfl
 rotate_left
 ·simp only [sp_]
  rfl
 refine tk_ (i := 1) (N := some 7) (v := ?_) (a' := ?_) HT_.out HW_.out rfl rfl (Or.inl ⟨by rfl, ?_⟩) hHeld ?_ ?_
 rotate_left
 ·rintro w' ⟨s0, s1, s2⟩
  go_simp
  with_reducible rfl
 rotate_left
 ·simp only [sp_]
  rfl
 refine pu_ (i := 2) (N := some 8) (v := ?_) (a' := ?_) HT_.out rfl rfl (Or.inl ⟨by rfl, ?_⟩) ?_ ?_
 rotate_left
 ·intro w'
  go_simp
  with_reducible rfl
 rotate_left
 ·simp only [sp_]
  rfl
 refine pu_ (i := 3) (N := some 9) (v := ?_) (a' := ?_) HT_.out rfl rfl (Or.inl ⟨by rfl, ?_⟩) ?_ ?_
 rotate_left
 ·intro w'
  go_simp
  with_reducible rfl
 rotate_left
 ·simp only [sp_]
  rfl
 refine pu_ (i := 4) (N := some 10) (v := ?_) (a' := ?_) HT_.out rfl rfl (Or.inl ⟨by rfl, ?_⟩) ?_ ?_
 rotate_left
 ·intro w'
  go_simp
  with_reducible rfl
 rotate_left
 ·simp only [sp_]
  rfl
 refine tk_ (i := 5) (N := some 11) (v := ?_) (a' := ?_) HT_.out HW_.out rfl rfl (Or.inl ⟨by rfl, ?_⟩) hHeld ?_ ?_
 rotate_left
 ·rintro w' ⟨s0, s1, s2⟩
  go_simp
  with_reducible rfl
 rotate_left
 ·simp only [sp_]
  rfl
 refine pu_ (i := 6) (N := some 12) (v := ?_) (a' := ?_) HT_.out rfl rfl (Or.inl ⟨by rfl, ?_⟩) ?_ ?_
 rotate_left
 ·intro w'
  go_simp
  with_reducible rfl
 rotate_left
 ·simp only [sp_]
  rfl
 refine tk_ (i := 7) (N := some 13) (v := ?_) (a' := ?_) HT_.out HW_.out rfl rfl (Or.inl ⟨by rfl, ?_⟩) hHeld ?_ ?_
 rotate_left
 ·rintro w' ⟨s0, s1, s2⟩
  go_simp
  with_reducible rfl
 rotate_left
 ·simp only [sp_]
  rfl
 refine pu_ (i := 8) (N := some 5) (v := ?_) (a' := ?_) HT_.out rfl rfl (Or.inl ⟨by rfl, ?_⟩) ?_ ?_
 rotate_left
 ·intro w'
  go_simp
  with_reducible rfl
 rotate_left
 ·simp only [sp_]
  rfl
 refine done_ (done_of HT_.out (by kernel_rfl)) ?_
 clear HT_ HW_ hHeld
 go_upto_region 4 with (fail)
 replace y1 : W1.drew.frozen? ⟨G, at_.toNat, none⟩ = false := y1
 replace k0 : W1.drew.cell? ⟨w.heap.size, 0, none⟩ = some (.slice (some ad) n c) := k0
 replace k1 : W1.drew.cell? (ad.add at_.toNat) = some (.slice (some adr) len cr) := k1
 replace k2 : W1.drew.cell? ⟨B, 0, none⟩ = some (.slice (some ⟨G, 0, none⟩) n cap) := k2
 replace k3 : W1.drew.cell? ⟨B, 1, none⟩ = some (.int .i64 at_) := k3
 replace k4 : W1.drew.cell? ⟨G, at_.toNat, none⟩ = some (.int .i64 r) := k4
 replace k5 : W1.drew.cell? (adr.add k) = some (.int .i64 nxt) := k5
 replace HB0 : Aside0 (Below N w W1.drew) := ⟨bN_ HB0.out 1⟩
 replace HQ : Aside0 (W1.drew.heap[B]? = some (.cells #[.slice (some ⟨G, 0, none⟩) n cap, .int .i64 at_] 98 (0, 0)) ∧ W1.drew.heap[G]? = some (.cells cur 3 (0, 0))) := ⟨HQ.out⟩
 replace HW : Aside0 (W1.drew.heap = (w.alloc (.cells #[.slice (some ad) n c] 30)).heap) := ⟨HW.out⟩
 refine start_ (n := 24) (S := fun w' => w'.cell? ⟨B, 0, none⟩ = some (.slice (some ⟨G, 0, none⟩) n cap) ∧ w'.cell? ⟨B, 1, none⟩ = some (.int .i64 at_) ∧ w'.cell? ⟨G, at_.toNat, none⟩ = some (.int .i64 r)) (ds := [23]) #[false, false, false, false, false, false, false, false, false, false, false, false, false, false, false, false, false, false, false, false, false, false, false, false] (by kernel_rfl) rfl rfl ⟨k2, k3, k4⟩ (fun hHeld => ?_)
 refine with_tabW stab4 sbits4 (fun HT_ HW_ => ?_)
 generalize W1.drew = W2 at *
 refine pu_ (i := 0) (N := some 17) (v := ?_) (a' := ?_) HT_.out rfl rfl (Or.inl ⟨by rfl, ?_⟩) ?_ ?_
 rotate_left
 ·intro w'
  go_simp
  with_reducible rfl
 rotate_left
 ·simp only [sp_]
  rfl
 refine pu_ (i := 1) (N := some 18) (v := ?_) (a' := ?_) HT_.out rfl rfl (Or.inl ⟨by rfl, ?_⟩) ?_ ?_
 rotate_left
 ·intro w'
  go_simp
  with_reducible rfl
 rotate_left
 ·simp only [sp_]
  rfl
 refine pu_ (i := 2) (N := some 19) (v := ?_) (a' := ?_) HT_.out rfl rfl (Or.inl ⟨by rfl, ?_⟩) ?_ ?_
 rotate_left
 ·intro w'
  go_simp
  with_reducible rfl
 rotate_left
 ·simp only [sp_]
  rfl
 refine tk_ (i := 3) (N := some 20) (v := ?_) (a' := ?_) HT_.out HW_.out rfl rfl (Or.inl ⟨by rfl, ?_⟩) hHeld ?_ ?_
 rotate_left
 ·rintro w' ⟨s0, s1, s2⟩
  go_simp
  with_reducible rfl
 rotate_left
 ·simp only [sp_]
  rfl
 refine pu_ (i := 4) (N := some 21) (v := ?_) (a' := ?_) HT_.out rfl rfl (Or.inl ⟨by rfl, ?_⟩) ?_ ?_
 rotate_left
 ·intro w'
  go_simp
  with_reducible rfl
 rotate_left
 ·simp only [sp_]
  rfl
 refine pu_ (i := 5) (N := some 22) (v := ?_) (a' := ?_) HT_.out rfl rfl (Or.inl ⟨by rfl, ?_⟩) ?_ ?_
 rotate_left
 ·intro w'
  go_simp
  with_reducible rfl
 rotate_left
 ·simp only [sp_]
  rfl
 refine pu_ (i := 6) (N := some 23) (v := ?_) (a' := ?_) HT_.out rfl rfl (Or.inl ⟨by rfl, ?_⟩) ?_ ?_
 rotate_left
 ·intro w'
  go_simp
  with_reducible rfl
 rotate_left
 ·simp only [sp_]
  rfl
 refine tk_ (i := 7) (N := some 24) (v := ?_) (a' := ?_) HT_.out HW_.out rfl rfl (Or.inl ⟨by rfl, ?_⟩) hHeld ?_ ?_
 rotate_left
 ·rintro w' ⟨s0, s1, s2⟩
  go_simp
  with_reducible rfl
 rotate_left
 ·simp only [sp_]
  rfl
 refine pu_ (i := 8) (N := some 25) (v := ?_) (a' := ?_) HT_.out rfl rfl (Or.inl ⟨by rfl, ?_⟩) ?_ ?_
 rotate_left
 ·intro w'
  go_simp
  with_reducible rfl
 rotate_left
 ·simp only [sp_]
  rfl
 refine pu_ (i := 9) (N := some 26) (v := ?_) (a' := ?_) HT_.out rfl rfl (Or.inl ⟨by rfl, ?_⟩) ?_ ?_
 rotate_left
 ·intro w'
  go_simp
  with_reducible rfl
 rotate_left
 ·simp only [sp_]
  rfl
 refine pu_ (i := 10) (N := some 27) (v := ?_) (a' := ?_) HT_.out rfl rfl (Or.inl ⟨by rfl, ?_⟩) ?_ ?_
 rotate_left
 ·intro w'
  go_simp
  with_reducible rfl
 rotate_left
 ·simp only [sp_]
  rfl
 refine tk_ (i := 11) (N := some 28) (v := ?_) (a' := ?_) HT_.out HW_.out rfl rfl (Or.inl ⟨by rfl, ?_⟩) hHeld ?_ ?_
 rotate_left
 ·rintro w' ⟨s0, s1, s2⟩
  go_simp
  with_reducible rfl
 rotate_left
 ·simp only [sp_]
  rfl
 refine pu_ (i := 12) (N := some 29) (v := ?_) (a' := ?_) HT_.out rfl rfl (Or.inl ⟨by rfl, ?_⟩) ?_ ?_
 rotate_left
 ·intro w'
  go_simp
  with_reducible rfl
 rotate_left
 ·simp only [sp_]
  rfl
 refine pu_ (i := 13) (N := some 30) (v := ?_) (a' := ?_) HT_.out rfl rfl (Or.inl ⟨by rfl, ?_⟩) ?_ ?_
 rotate_left
 ·intro w'
  go_simp
  with_reducible rfl
 rotate_left
 ·simp only [sp_]
  rfl
 refine pu_ (i := 14) (N := some 31) (v := ?_) (a' := ?_) HT_.out rfl rfl (Or.inl ⟨by rfl, ?_⟩) ?_ ?_
 rotate_left
 ·intro w'
  go_simp
  with_reducible rfl
 rotate_left
 ·simp only [sp_]
  rfl
 refine tk_ (i := 15) (N := some 32) (v := ?_) (a' := ?_) HT_.out HW_.out rfl rfl (Or.inl ⟨by rfl, ?_⟩) hHeld ?_ ?_
 rotate_left
 ·rintro w' ⟨s0, s1, s2⟩
  go_simp
  with_reducible rfl
 rotate_left
 ·simp only [sp_]
  rfl
 refine pu_ (i := 16) (N := some 33) (v := ?_) (a' := ?_) HT_.out rfl rfl (Or.inl ⟨by rfl, ?_⟩) ?_ ?_
 rotate_left
 ·intro w'
  go_simp
  with_reducible rfl
 rotate_left
 ·simp only [sp_]
  rfl
 refine tk_ (i := 17) (N := some 34) (v := ?_) (a' := ?_) HT_.out HW_.out rfl rfl (Or.inl ⟨by rfl, ?_⟩) hHeld ?_ ?_
 rotate_left
 ·rintro w' ⟨s0, s1, s2⟩
  go_simp
  with_reducible rfl
 rotate_left
 ·simp only [sp_]
  rfl
 refine pu_ (i := 18) (N := some 35) (v := ?_) (a' := ?_) HT_.out rfl rfl (Or.inl ⟨by rfl, ?_⟩) ?_ ?_
 rotate_left
 ·intro w'
  go_simp
  with_reducible rfl
 rotate_left
 ·simp only [sp_]
  rfl
 refine pu_ (i := 19) (N := some 36) (v := ?_) (a' := ?_) HT_.out rfl rfl (Or.inl ⟨by rfl, ?_⟩) ?_ ?_
 rotate_left
 ·intro w'
  go_simp
  with_reducible rfl
 rotate_left
 ·simp only [sp_]
  rfl
 refine pu_ (i := 20) (N := some 37) (v := ?_) (a' := ?_) HT_.out rfl rfl (Or.inl ⟨by rfl, ?_⟩) ?_ ?_
 rotate_left
 ·intro w'
  go_simp
  with_reducible rfl
 rotate_left
 ·simp only [sp_]
  rfl
 refine pu_ (i := 21) (N := some 38) (v := ?_) (a' := ?_) HT_.out rfl rfl (Or.inl ⟨by rfl, ?_⟩) ?_ ?_
 rotate_left
 ·intro w'
  go_simp
  with_reducible rfl
 rotate_left
 ·simp only [sp_]
  rfl
 refine pu_ (i := 22) (N := some 39) (v := ?_) (a' := ?_) HT_.out rfl rfl (Or.inl ⟨by rfl, ?_⟩) ?_ ?_
 rotate_left
 ·intro w'
  go_simp
  with_reducible rfl
 rotate_left
 ·simp only [sp_]
  rfl
 refine lastS_ (i := 23) (w1 := W2.setCell ⟨G, at_.toNat, none⟩ (.int .i64 (Int.tmod (wrap64 (r + 1)) (len : Int)))) #[true, true, true, true, true, true, true, true, true, true, true, true, true, true, true, true, true, true, true, true, true, true, true, true] rfl rfl (one_of HT_.out (by kernel_rfl)) (by decide) (by rfl) ?_ ?_
 ·go_simp
 (try simp only [Act.put, List.setIfInBounds_toArray, List.set_cons_zero, List.set_cons_succ])
 rw [hkr]
 refine done_ (done_of HT_.out (by kernel_rfl)) ?_
 have pB : (W2.setCell ⟨G, at_.toNat, none⟩ (.int .i64 k)).heap[B]? = _ := blk_far HQ.out.1 (p := ⟨G, at_.toNat, none⟩) hBG (.int .i64 k)
 have pG : (W2.setCell ⟨G, at_.toNat, none⟩ (.int .i64 k)).heap[G]? = _ := blk_set HQ.out.2 at_.toNat (.int .i64 k)
 have hlt : at_.toNat < cur.size := (Array.getElem?_eq_some_iff.1 hcur).1
 have c6 : (W2.setCell ⟨G, at_.toNat, none⟩ (.int .i64 k)).cell? ⟨G, at_.toNat, none⟩ = some (.int .i64 k) := (blk_cell pG at_.toNat).trans (Array.getElem?_setIfInBounds_self_of_lt hlt)
 have c2 := (blk_cell pB 0).trans rfl
 have c3 := (blk_cell pB 1).trans rfl
 have c5 : (W2.setCell ⟨G, at_.toNat, none⟩ (.int .i64 k)).cell? (adr.add k) = some (.int .i64 nxt) := (cell_of (Below.heap_setCell _ _ _ _ (by rw [add_block]; exact hr))).trans k5
 have y2 := kF_ pB 1
 have HB2 : Aside0 (Below N w (W2.setCell ⟨G, at_.toNat, none⟩ (.int .i64 k))) := ⟨HB0.out.setCell hNG _⟩
 have HW2 : Aside0 ((W2.setCell ⟨G, at_.toNat, none⟩ (.int .i64 k)).heap = ((w.alloc (.cells #[.slice (some ad) n c] 30)).setCell ⟨G, at_.toNat, none⟩ (.int .i64 k)).heap) := ⟨setCell_heap HW.out _ _⟩
 clear k0 k1 k2 k3 k4 k5 y1 HB0 HW HQ pB pG hHeld HT_ HW_
 have k2 := c2
 have k3 := c3
 have k5 := c5
 have k6 := c6
 have HB0 := HB2
 have HW := HW2
 clear c2 c3 c5 c6 HB2 HW2
 generalize W2.setCell ⟨G, at_.toNat, none⟩ (.int .i64 k) = W3 at *
 go_upto_region 5 with (fail)
 replace k2 : W3.drew.cell? ⟨B, 0, none⟩ = some (.slice (some ⟨G, 0, none⟩) n cap) := k2
 replace k3 : W3.drew.cell? ⟨B, 1, none⟩ = some (.int .i64 at_) := k3
 replace k5 : W3.drew.cell? (adr.add k) = some (.int .i64 nxt) := k5
 replace k6 : W3.drew.cell? ⟨G, at_.toNat, none⟩ = some (.int .i64 k) := k6
 replace y2 : W3.drew.frozen? ⟨B, 1, none⟩ = false := y2
 replace HB0 : Aside0 (Below N w W3.drew) := ⟨bN_ HB0.out 1⟩
 replace HW : Aside0 (W3.drew.heap = ((w.alloc (.cells #[.slice (some ad) n c] 30)).setCell ⟨G, at_.toNat, none⟩ (.int .i64 k)).heap) := ⟨HW.out⟩
 refine start_ (n := 17) (S := fun w' => w'.cell? ⟨B, 0, none⟩ = some (.slice (some ⟨G, 0, none⟩) n cap) ∧ w'.cell? ⟨B, 1, none⟩ = some (.int .i64 at_) ∧ w'.cell? (adr.add k) = some (.int .i64 nxt) ∧ w'.cell? ⟨G, at_.toNat, none⟩ = some (.int .i64 k)) (ds := [16]) #[false, false, false, false, false, false, false, false, false, false, false, false, false, false, false, false, false] (by kernel_rfl) rfl rfl ⟨k2, k3, k5, k6⟩ (fun hHeld => ?_)
 refine with_tabW stab5 sbits5 (fun HT_ HW_ => ?_)
 generalize W3.drew = W4 at *
 refine pu_ (i := 0) (N := some 40) (v := ?_) (a' := ?_) HT_.out rfl rfl (Or.inl ⟨by rfl, ?_⟩) ?_ ?_
 rotate_left
 ·intro w'
  go_simp
  with_reducible rfl
 rotate_left
 ·simp only [sp_]
  rfl
 refine pu_ (i := 1) (N := some 41) (v := ?_) (a' := ?_) HT_.out rfl rfl (Or.inl ⟨by rfl, ?_⟩) ?_ ?_
 rotate_left
 ·intro w'
  go_simp
  with_reducible rfl
 rotate_left
 ·simp only [sp_]
  rfl
 refine pu_ (i := 2) (N := some 42) (v := ?_) (a' := ?_) HT_.out rfl rfl (Or.inl ⟨by rfl, ?_⟩) ?_ ?_
 rotate_left
 ·intro w'
  go_simp
  with_reducible rfl
 rotate_left
 ·simp only [sp_]
  rfl
 refine pu_ (i := 3) (N := some 43) (v := ?_) (a' := ?_) HT_.out rfl rfl (Or.inl ⟨by rfl, ?_⟩) ?_ ?_
 rotate_left
 ·intro w'
  go_simp
  with_reducible rfl
 rotate_left
 ·simp only [sp_]
  rfl
 refine pu_ (i := 4) (N := some 44) (v := ?_) (a' := ?_) HT_.out rfl rfl (Or.inl ⟨by rfl, ?_⟩) ?_ ?_
 rotate_left
 ·intro w'
  go_simp
  with_reducible rfl
 rotate_left
 ·simp only [sp_]
  rfl
 refine tk_ (i := 5) (N := some 45) (v := ?_) (a' := ?_) HT_.out HW_.out rfl rfl (Or.inl ⟨by rfl, ?_⟩) hHeld ?_ ?_
 rotate_left
 ·rintro w' ⟨s0, s1, s2, s3⟩
  go_simp
  with_reducible rfl
 rotate_left
 ·simp only [sp_]
  rfl
 refine pu_ (i := 6) (N := some 46) (v := ?_) (a' := ?_) HT_.out rfl rfl (Or.inl ⟨by rfl, ?_⟩) ?_ ?_
 rotate_left
 ·intro w'
  go_simp
  with_reducible rfl
 rotate_left
 ·simp only [sp_]
  rfl
 refine pu_ (i := 7) (N := some 47) (v := ?_) (a' := ?_) HT_.out rfl rfl (Or.inl ⟨by rfl, ?_⟩) ?_ ?_
 rotate_left
 ·intro w'
  go_simp
  with_reducible rfl
 rotate_left
 ·simp only [sp_]
  rfl
 refine pu_ (i := 8) (N := some 48) (v := ?_) (a' := ?_) HT_.out rfl rfl (Or.inl ⟨by rfl, ?_⟩) ?_ ?_
 rotate_left
 ·intro w'
  go_simp
  with_reducible rfl
 rotate_left
 ·simp only [sp_]
  rfl
 refine tk_ (i := 9) (N := some 49) (v := ?_) (a' := ?_) HT_.out HW_.out rfl rfl (Or.inl ⟨by rfl, ?_⟩) hHeld ?_ ?_
 rotate_left
 ·rintro w' ⟨s0, s1, s2, s3⟩
  go_simp
  with_reducible rfl
 rotate_left
 ·simp only [sp_]
  rfl
 refine pu_ (i := 10) (N := some 50) (v := ?_) (a' := ?_) HT_.out rfl rfl (Or.inl ⟨by rfl, ?_⟩) ?_ ?_
 rotate_left
 ·intro w'
  go_simp
  with_reducible rfl
 rotate_left
 ·simp only [sp_]
  rfl
 refine tk_ (i := 11) (N := some 51) (v := ?_) (a' := ?_) HT_.out HW_.out rfl rfl (Or.inl ⟨by rfl, ?_⟩) hHeld ?_ ?_
 rotate_left
 ·rintro w' ⟨s0, s1, s2, s3⟩
  go_simp
  with_reducible rfl
 rotate_left
 ·simp only [sp_]
  rfl
 refine pu_ (i := 12) (N := some 52) (v := ?_) (a' := ?_) HT_.out rfl rfl (Or.inl ⟨by rfl, ?_⟩) ?_ ?_
 rotate_left
 ·intro w'
  go_simp
  with_reducible rfl
 rotate_left
 ·simp only [sp_]
  rfl
 refine tk_ (i := 13) (N := some 53) (v := ?_) (a' := ?_) HT_.out HW_.out rfl rfl (Or.inl ⟨by rfl, ?_⟩) hHeld ?_ ?_
 rotate_left
 ·rintro w' ⟨s0, s1, s2, s3⟩
  go_simp
  with_reducible rfl
 rotate_left
 ·simp only [sp_]
  rfl
 refine pu_ (i := 14) (N := some 54) (v := ?_) (a' := ?_) HT_.out rfl rfl (Or.inl ⟨by rfl, ?_⟩) ?_ ?_
 rotate_left
 ·intro w'
  go_simp
  with_reducible rfl
 rotate_left
 ·simp only [sp_]
  rfl
 refine pu_ (i := 15) (N := some 55) (v := ?_) (a' := ?_) HT_.out rfl rfl (Or.inl ⟨by rfl, ?_⟩) ?_ ?_
 rotate_left
 ·intro w'
  go_simp
  with_reducible rfl
 rotate_left
 ·simp only [sp_]
  rfl
 refine lastS_ (i := 16) (w1 := W4.setCell ⟨B, 1, none⟩ (.int .i64 nxt)) #[true, true, true, true, true, true, true, true, true, true, true, true, true, true, true, true, true] rfl rfl (one_of HT_.out (by kernel_rfl)) (by decide) (by rfl) ?_ ?_
 ·go_simp
 (try simp only [Act.put, List.setIfInBounds_toArray, List.set_cons_zero, List.set_cons_succ])
 refine done_ (done_of HT_.out (by kernel_rfl)) ?_
 have HB5 : Aside0 (Below N w (W4.setCell ⟨B, 1, none⟩ (.int .i64 nxt))) := ⟨HB0.out.setCell hNB _⟩
 have HW5 := Aside0.mk (setCell_heap HW.out ⟨B, 1, none⟩ (.int .i64 nxt))
 clear HB0 HW hHeld HT_ HW_ k2 k3 k5 k6 y2
 go_wp2_with (fail)
 go_ret
 exact ⟨by first | rfl | trivial, HB5.out, HW5.out⟩
end Go.Proofs.Ytnbnalbomflafaa.RA
namespace Go.Proofs.Ytnbnalbomflafaa.RA
open Go.RowKit YtnbnalbomflafaaW.PrintWords YtnbnalbomflafaaW.PrintLast YtnbnalbomflafaaW.PrintMore
open GA
open GR hiding rd_L1 at_L1
open HB hiding rd_L1 at_L1
open KA
def HT14 : Bool × List (List Nat × List Nat) := (true, [([], []), ([], []), ([1], [1]), ([], []), ([0, 0], [0]), ([2, 4, 0, 1, 2, 4], [2]), ([3, 5, 0, 1, 2, 3, 4, 5], [3]), ([6, 0, 1, 2, 3, 4, 5, 6], [])])
def HB14 : List Nat := [0, 0, 2, 0, 1, 23, 63, 127]
theorem htab14 : rtab .any (opsOf Try.f84 14) = HT14 := by kernel_rfl
theorem hbits14 : waitsOk HT14.2 HB14 = true := by kernel_rfl
theorem canEnd_c (l : List (List Int)) (a b : Int) (W : World) (v : Value) (hv : RowsC W v l) : Calls Try.prog 81 #[.agg #[v], .int .i64 a, .int .i64 b] W fun e w' => e = .returned (.bool (goodB l a b)) ∧ Below W.heap.size W w' := by
 obtain ⟨A, c, rfl, hc, hC⟩ := hv
 exact impl_canEnd.calls 400 A c l a b _ W hC hc ((goodB_is l a b).1 400 (Nat.le_refl _)).2
theorem oneI_D (w : World) (N : Nat) (x : Int) (hN : N ≤ w.heap.size) : ListD (w.alloc (.cells #[.int .i64 x] 3)) N (.slice (some ⟨w.heap.size, 0, none⟩) 1 1) [x] :=
 ⟨rfl, .inr ⟨w.heap.size, 1, #[.int .i64 x], rfl, hN, blk_new w _, Nat.le_refl _, by unfold maxLen; simp, rfl, rfl⟩⟩
theorem noI_D (w : World) (N : Nat) (hN : N ≤ w.heap.size) : ListD (w.alloc (.cells #[] 3)) N (.slice (some ⟨w.heap.size, 0, none⟩) 0 0) [] :=
 ⟨rfl, .inr ⟨w.heap.size, 0, #[], rfl, hN, blk_new w _, Nat.le_refl _, by unfold maxLen; simp, rfl, rfl⟩⟩
theorem has_c (l : List (List Int)) (p : Int) (W : World) (v u : Value) (hv : RowsC W v l) (hu : ListC W u [p]) : Calls Try.prog 76 #[.agg #[v], u] W fun e w' => e = .returned (.bool (placeB l p)) ∧ Below W.heap.size W w' := by
 obtain ⟨A, c, rfl, hc, hC⟩ := hv
 obtain ⟨A2, c2, rfl, hc2, hC2⟩ := hu
 refine impl_has.calls A c l A2 c2 [p] (placeB l p) W hC hc hC2 hc2 ?_
 unfold impl_has.f hasB placeB
 simp
theorem areRotors_c (l : List (List Int)) (x : List Int) (p : Int) (hp : placeB l p = true) (W : World) (v u : Value) (hv : RowsC W v l) (hu : ListC W u x) : Calls Try.prog 102 #[.agg #[v], u] W fun e w' => e = .returned (.bool (walkB l x p)) ∧ Below W.heap.size W w' := by
 obtain ⟨A, c, rfl, hc, hC⟩ := hv
 obtain ⟨A2, c2, rfl, hc2, hC2⟩ := hu
 exact impl_areRotors.calls 100 A c l A2 c2 x _ W hC hc hC2 hc2 (areRotors_eq l x p hp 100 (Nat.le_refl _))
theorem in_c (x lo hi : Int) (W : World) : Calls Try.prog 77 #[.int .i64 x, .int .i64 lo, .int .i64 hi] W fun e w' => e = .returned (.bool (inB x lo hi)) ∧ Drawn0 W w' := by
 refine (impl_in.calls x lo hi _ W (in_eq x lo hi)).mono ?_
 rintro e w' ⟨rfl, nd, rfl⟩
 exact ⟨rfl, nd, rfl⟩
theorem clone_c (x : List Int) (W : World) (u : Value) (hu : ListC W u x) (hl : x.length ≤ 100) : Calls Try.prog 114 #[u] W fun e w' => ∃ v, e = .returned v ∧ Below W.heap.size W w' ∧ Aside0 (ListD w' W.heap.size v x) := by
 obtain ⟨A2, c2, rfl, hc2, hC2⟩ := hu
 refine (clone_calls A2 c2 x W (by omega) hC2).mono ?_
 rintro e w' ⟨v, rfl, hR, hB⟩
 exact ⟨v, rfl, hB, ⟨Kd.own_of_R hR⟩⟩
theorem listD_form {w : World} {N : Nat} {v : Value} {r : List Int} (h : ListD w N v r) (hp : 0 < r.length) : ∃ G cap, v = .slice (some ⟨G, 0, none⟩) r.length cap := by
 rcases h.2 with ⟨h1, h2⟩ | ⟨g, cap, cur, h1, _⟩
 ·omega
 ·exact ⟨g, cap, h1⟩
theorem ListD.lower' {w : World} {base base' : Nat} {v : Value} {l : List Int} (h : ListD w base v l) (hb : base' ≤ base) : ListD w base' v l := own_weaken h hb
structure HitAt (w : World) (N B : Nat) (gv vr lv : Value) (at_ : Int) (rot hl : List Int) : Prop where
 bx : w.heap[N]? = some (.cells #[gv] 30 (0, 0))
 blk : w.heap[B]? = some (.cells #[vr, .int .i64 at_] 98 (0, 0))
 hB : N ≤ B
 r : ListD w N vr rot
 l : ListD w N lv hl
 rl : ∀ k, vr.ownBlock = some k → lv.ownBlock ≠ some k
theorem HitAt.heap {w w1 : World} {N B : Nat} {gv vr lv : Value} {at_ : Int} {rot hl : List Int} (h : HitAt w N B gv vr lv at_ rot hl) (e : ∀ b, b < w.heap.size → w1.heap[b]? = w.heap[b]?) : HitAt w1 N B gv vr lv at_ rot hl :=
 ⟨(e N (blk_lt h.bx)).trans h.bx, (e B (blk_lt h.blk)).trans h.blk, h.hB, own_move h.r fun k hk => e k (own_lt h.r k hk), own_move h.l fun k hk => e k (own_lt h.l k hk), h.rl⟩
theorem HitAt.drewN {w : World} {N B : Nat} {gv vr lv : Value} {at_ : Int} {rot hl : List Int} (h : HitAt w N B gv vr lv at_ rot hl) (n : Nat) : HitAt (w.drewN n) N B gv vr lv at_ rot hl := h.heap fun _ _ => by simp
theorem HitAt.alloc {w : World} {N B : Nat} {gv vr lv : Value} {at_ : Int} {rot hl : List Int} (h : HitAt w N B gv vr lv at_ rot hl) (o : Obj) : HitAt (w.alloc o) N B gv vr lv at_ rot hl := h.heap fun b hb => Below.heap_alloc w o b hb
theorem HitAt.setAt {w : World} {N B : Nat} {gv vr lv : Value} {at_ : Int} {rot hl : List Int} (h : HitAt w N B gv vr lv at_ rot hl) (x : Int) : HitAt (w.setCell ⟨B, 1, none⟩ (.int .i64 x)) N B gv vr lv x rot hl :=
 ⟨blk_far h.bx (p := ⟨B, 1, none⟩) (fun c => by have e := h.bx; have e2 := h.blk; rw [c] at e; rw [e] at e2; simp at e2) _, blk_set h.blk 1 _, h.hB, own_setCell h.r (fun c => by obtain ⟨cells, hc⟩ := own_typed h.r B c.symm; rw [h.blk] at hc; simp at hc) _, own_setCell h.l (fun c => by obtain ⟨cells, hc⟩ := own_typed h.l B c.symm; rw [h.blk] at hc; simp at hc) _, h.rl⟩
theorem HitAt.setRot {w : World} {N B G cap n : Nat} {gv lv : Value} {at_ : Int} {rot hl : List Int} (h : HitAt w N B gv (.slice (some ⟨G, 0, none⟩) n cap) lv at_ rot hl) (hn : n = rot.length) (i : Nat) (x : Int) : HitAt (w.setCell ⟨G, i, none⟩ (.int .i64 x)) N B gv (.slice (some ⟨G, 0, none⟩) n cap) lv at_ (rot.set i x) hl := by
 subst hn
 have hGB : B ≠ G := fun c => by
  obtain ⟨cells, hc⟩ := own_typed h.r G rfl
  rw [← c, h.blk] at hc
  simp at hc
 refine ⟨blk_far h.bx (p := ⟨G, i, none⟩) (fun c => by have c1 : N = G := c; obtain ⟨cells, hc⟩ := own_typed h.r G rfl; have e := h.bx; rw [c1, hc] at e; simp at e) _, blk_far h.blk (p := ⟨G, i, none⟩) hGB _, h.hB, ?_, own_setCell h.l (fun c => h.rl G rfl c.symm) _, h.rl⟩
 have := (own_store h.r (i : Int) x).1
 rw [Int.toNat_natCast] at this
 show World.ownsRow _ N 3 1 _ (rot.set i x).length _
 rw [List.length_set]
 exact this
theorem HitAt.form {w : World} {N B : Nat} {gv vr lv : Value} {at_ : Int} {rot hl : List Int} (h : HitAt w N B gv vr lv at_ rot hl) (hp : 0 < rot.length) : ∃ G cap cur, vr = .slice (some ⟨G, 0, none⟩) rot.length cap ∧ N ≤ G ∧ w.heap[G]? = some (.cells cur 3 (0, 0)) ∧ B ≠ G ∧ ∀ i (hi : i < rot.length), cur[i]? = some (.int .i64 rot[i]) := by
 rcases h.r.2 with ⟨h1, h2⟩ | ⟨g, cap, cur, h1, hb, hh, h3, h4, h5, h6⟩
 ·omega
 ·refine ⟨g, cap, cur, h1, hb, hh, fun c => ?_, fun i hi => ?_⟩
  ·rw [← c, h.blk] at hh
   simp at hh
  ·have h7 := congrArg (fun x : List Value => x[i]?) h6
   simp only [encI, List.getElem?_map, List.getElem?_eq_getElem hi, Option.map_some] at h7
   rw [Nat.mul_one, List.getElem?_take_of_lt hi, Array.getElem?_toList] at h7
   exact h7
theorem HitAt.app {W w1 : World} {N B : Nat} {gv vr lv v1 : Value} {at_ y : Int} {rot hl : List Int} (h : HitAt W N B gv vr lv at_ rot hl) (hown : w1.ownsRow N 3 1 v1 (hl ++ [y]).length (nums .i64 (hl ++ [y]))) (hg : W.grownBy w1 lv.ownBlock) (hat : v1.ownBlock = lv.ownBlock ∨ ∃ b, v1.ownBlock = some b ∧ W.heap.size ≤ b) : HitAt w1 N B gv vr v1 at_ rot (hl ++ [y]) := by
 refine ⟨(hg.block _ (blk_lt h.bx) (fun c => ?_)).trans h.bx, (hg.block _ (blk_lt h.blk) (fun c => ?_)).trans h.blk, h.hB, own_move h.r (fun k hk => hg.block k (own_lt h.r k hk) (fun c => ?_)), hown, fun k hk c => ?_⟩
 ·obtain ⟨cells, hc⟩ := own_typed h.l N (by first | exact c | exact c.symm)
  have e := h.bx
  rw [hc] at e
  simp at e
 ·obtain ⟨cells, hc⟩ := own_typed h.l B (by first | exact c | exact c.symm)
  have e := h.blk
  rw [hc] at e
  simp at e
 ·exact h.rl k hk (by first | exact c | exact c.symm)
 ·rcases hat with q | ⟨b, q1, q2⟩
  ·exact h.rl k hk (by rw [← q]; exact c)
  ·rw [q1] at c
   have := own_lt h.r k hk
   have c2 : b = k := Option.some.inj c
   omega
theorem HitAt.start {w5 : World} {N G n cap : Nat} {x : List Int} {gv : Value} (hbx : w5.heap[N]? = some (.cells #[gv] 30 (0, 0))) (hR : ListD w5 N (.slice (some ⟨G, 0, none⟩) n cap) x) (hN : N ≤ w5.heap.size) (p : Int) : HitAt ((w5.alloc (.cells #[] 3)).alloc (.cells #[.slice (some ⟨G, 0, none⟩) n cap, .int .i64 p] 98)) N (w5.heap.size + 1) gv (.slice (some ⟨G, 0, none⟩) n cap) (.slice (some ⟨w5.heap.size, 0, none⟩) 0 0) p x [] := by
 have h1 := noI_D w5 N hN
 refine ⟨(kA_ (kA_ hbx _) _), ?_, by omega, own_move hR (fun k hk => ?_), own_move h1 (fun k hk => Below.heap_alloc _ _ k (own_lt h1 k hk)), fun k hk c => ?_⟩
 ·have := blk_new (w5.alloc (.cells #[] 3)) (.cells #[.slice (some ⟨G, 0, none⟩) n cap, .int .i64 p] 98)
  simpa using this
 ·have hlt := own_lt hR k hk
  exact (Below.heap_alloc _ _ k (by simp; omega)).trans (Below.heap_alloc _ _ k hlt)
 ·have hlt := own_lt hR k hk
  have : w5.heap.size = k := by simpa [Value.ownBlock] using c
  omega
def HitsOut (w : World) (l : List (List Int)) (x : List Int) (p a b n : Int) (e : Ending) (w' : World) : Prop :=
 ∃ v1 v2, e = .returned (.tuple #[v1, v2, .int .i64 (stepsA l x p a b n).1, .bool (askedB l x p a b n)]) ∧ Below w.heap.size w w' ∧ Aside0 (ListD w' w.heap.size v1 (hitListA l x p a b n).1) ∧ Aside0 (ListD w' w.heap.size v2 (behindA l x p a b n).1)
theorem no_ans {l : List (List Int)} {x : List Int} {p a b n : Int} (h : askedB l x p a b n = false) (w w' : World) (hB : Below w.heap.size w w') : HitsOut w l x p a b n (.returned (.tuple #[.slice none 0 0, .slice none 0 0, .int .i64 0, .bool false])) w' := by
 refine ⟨.slice none 0 0, .slice none 0 0, ?_, hB, ?_, ?_⟩
 ·unfold stepsA; rw [h]; rfl
 ·unfold hitListA; rw [h]; exact ⟨own_nil _ _ _ _⟩
 ·unfold behindA; rw [h]; exact ⟨own_nil _ _ _ _⟩
set_option maxHeartbeats 4000000 in
set_option maxRecDepth 100000 in
theorem hits_c (l : List (List Int)) (x : List Int) (p a b n : Int) (w : World) (v u : Value) (hv : RowsC w v l) (hu : ListC w u x) :
  Calls Try.prog 84 #[.agg #[v], u, .int .i64 p, .int .i64 a, .int .i64 b, .int .i64 n] w (HitsOut w l x p a b n) := by
 have HV := Aside0.mk hv
 have HU := Aside0.mk hu
 obtain ⟨A, c, rfl, hc_, hC_⟩ := hv
 clear hc_ hC_ hu
 cases h1 : goodB l a b with
 | false =>
  have hno : askedB l x p a b n = false := by unfold askedB; rw [h1]; rfl
  have H1 := Aside0.mk h1
  clear h1
  go_enter Try.func84, Try.ntmps84
  go_wp2_with (go_at_call 81; refine (canEnd_c l a b _ _ (HV.out.below ((Below.refl _ _).alloc (Nat.le_refl _) _))).mono ?_; rw [H1.out]; rintro e w1 ⟨rfl, hB⟩)
  refine bodyPost_ret (v := .tuple #[.slice none 0 0, .slice none 0 0, .int .i64 0, .bool false]) (by simp [results, Try.results84, go_sem]) rfl ?_
  exact no_ans hno _ _ (((Below.refl _ _).alloc (Nat.le_refl _) _).trans (hB.mono (by simp)))
 | true =>
  have H1 := Aside0.mk h1
  cases h2 : placeB l p with
  | false =>
   have hno : askedB l x p a b n = false := by unfold askedB walkB; rw [h2]; simp
   have H2 := Aside0.mk h2
   clear h1 h2
   go_enter Try.func84, Try.ntmps84
   go_wp2_with (first | (go_at_call 81; refine (canEnd_c l a b _ _ (HV.out.below ((Below.refl _ _).alloc (Nat.le_refl _) _))).mono ?_; rw [H1.out]; rintro e w1 ⟨rfl, hB⟩; have hbx : w1.cell? ⟨w.heap.size, 0, none⟩ = some (.slice A l.length c) := (hB.cell (p := ⟨w.heap.size, 0, none⟩) (by simp)).trans ((blk_cell (blk_new _ _) 0).trans rfl); have HB := Aside0.mk (((Below.refl w.heap.size w).alloc (Nat.le_refl _) _).trans (hB.mono (by simp))); clear hB) | (go_at_call 76; refine (has_c l p _ _ _ (HV.out.below ((HB.out.alloc HB.out.size _))) (oneI_D _ w.heap.size p HB.out.size).reads).mono ?_; rw [H2.out]; rintro e w2 ⟨rfl, hB⟩))
   refine bodyPost_ret (v := .tuple #[.slice none 0 0, .slice none 0 0, .int .i64 0, .bool false]) (by simp [results, Try.results84, go_sem]) rfl ?_
   exact no_ans hno _ _ (HB.out.trans (((Below.refl _ _).alloc HB.out.size _).trans (hB.mono (by have := HB.out.size; simp; omega))))
  | true =>
   cases h3 : walkB l x p with
   | false =>
    have hno : askedB l x p a b n = false := by unfold askedB; rw [h3]; simp
    have H2 := Aside0.mk h2
    have H3 := Aside0.mk h3
    clear h1 h2 h3
    go_enter Try.func84, Try.ntmps84
    go_wp2_with (first | (go_at_call 81; refine (canEnd_c l a b _ _ (HV.out.below ((Below.refl _ _).alloc (Nat.le_refl _) _))).mono ?_; rw [H1.out]; rintro e w1 ⟨rfl, hB⟩; have hbx : w1.cell? ⟨w.heap.size, 0, none⟩ = some (.slice A l.length c) := (hB.cell (p := ⟨w.heap.size, 0, none⟩) (by simp)).trans ((blk_cell (blk_new _ _) 0).trans rfl); have HB := Aside0.mk (((Below.refl w.heap.size w).alloc (Nat.le_refl _) _).trans (hB.mono (by simp))); have hsz : w.heap.size < w1.heap.size := (by have := hB.size; simp at this; omega); have HX1 : Aside0 (w1.heap[w.heap.size]? = some (.cells #[.slice A l.length c] 30 (0, 0))) := ⟨(hB.block _ (by simp)).trans (blk_new _ _)⟩; clear hB) | (go_at_call 76; refine (has_c l p _ _ _ (HV.out.below ((HB.out.alloc HB.out.size _))) (oneI_D _ w.heap.size p HB.out.size).reads).mono ?_; rw [H2.out]; rintro e w2 ⟨rfl, hB⟩; have hbx2 : w2.cell? ⟨w.heap.size, 0, none⟩ = some (.slice A l.length c) := (hB.cell (p := ⟨w.heap.size, 0, none⟩) (by simp; omega)).trans ((World.cell?_alloc_lt _ _ _ hsz).trans hbx); have HB2 := Aside0.mk ((HB.out.alloc HB.out.size _).trans (hB.mono (by have := HB.out.size; simp; omega))); have hsz2 : w.heap.size < w2.heap.size := (by have := hB.size; simp at this; omega); have HX2 : Aside0 (w2.heap[w.heap.size]? = some (.cells #[.slice A l.length c] 30 (0, 0))) := ⟨(hB.block _ (by simp; omega)).trans (kA_ HX1.out _)⟩; clear hB hbx) | (go_at_call 102; refine (areRotors_c l x p H2.out _ _ _ (HV.out.below HB2.out) (HU.out.below HB2.out)).mono ?_; rw [H3.out]; rintro e w3 ⟨rfl, hB⟩))
    refine bodyPost_ret (v := .tuple #[.slice none 0 0, .slice none 0 0, .int .i64 0, .bool false]) (by simp [results, Try.results84, go_sem]) rfl ?_
    exact no_ans hno _ _ (HB2.out.trans (hB.mono HB2.out.size))
   | true =>
    cases h4 : inB n 0 100 with
    | false =>
     have hno : askedB l x p a b n = false := by unfold askedB; rw [h4]; simp
     have H2 := Aside0.mk h2
     have H3 := Aside0.mk h3
     have H4 := Aside0.mk h4
     clear h1 h2 h3 h4
     go_enter Try.func84, Try.ntmps84
     go_wp2_with (first | (go_at_call 81; refine (canEnd_c l a b _ _ (HV.out.below ((Below.refl _ _).alloc (Nat.le_refl _) _))).mono ?_; rw [H1.out]; rintro e w1 ⟨rfl, hB⟩; have hbx : w1.cell? ⟨w.heap.size, 0, none⟩ = some (.slice A l.length c) := (hB.cell (p := ⟨w.heap.size, 0, none⟩) (by simp)).trans ((blk_cell (blk_new _ _) 0).trans rfl); have HB := Aside0.mk (((Below.refl w.heap.size w).alloc (Nat.le_refl _) _).trans (hB.mono (by simp))); have hsz : w.heap.size < w1.heap.size := (by have := hB.size; simp at this; omega); have HX1 : Aside0 (w1.heap[w.heap.size]? = some (.cells #[.slice A l.length c] 30 (0, 0))) := ⟨(hB.block _ (by simp)).trans (blk_new _ _)⟩; clear hB) | (go_at_call 76; refine (has_c l p _ _ _ (HV.out.below ((HB.out.alloc HB.out.size _))) (oneI_D _ w.heap.size p HB.out.size).reads).mono ?_; rw [H2.out]; rintro e w2 ⟨rfl, hB⟩; have hbx2 : w2.cell? ⟨w.heap.size, 0, none⟩ = some (.slice A l.length c) := (hB.cell (p := ⟨w.heap.size, 0, none⟩) (by simp; omega)).trans ((World.cell?_alloc_lt _ _ _ hsz).trans hbx); have HB2 := Aside0.mk ((HB.out.alloc HB.out.size _).trans (hB.mono (by have := HB.out.size; simp; omega))); have hsz2 : w.heap.size < w2.heap.size := (by have := hB.size; simp at this; omega); have HX2 : Aside0 (w2.heap[w.heap.size]? = some (.cells #[.slice A l.length c] 30 (0, 0))) := ⟨(hB.block _ (by simp; omega)).trans (kA_ HX1.out _)⟩; clear hB hbx) | (go_at_call 102; refine (areRotors_c l x p H2.out _ _ _ (HV.out.below HB2.out) (HU.out.below HB2.out)).mono ?_; rw [H3.out]; rintro e w3 ⟨rfl, hB⟩; have hbx3 : w3.cell? ⟨w.heap.size, 0, none⟩ = some (.slice A l.length c) := (hB.cell (p := ⟨w.heap.size, 0, none⟩) hsz2).trans hbx2; have HB3 := Aside0.mk (HB2.out.trans (hB.mono HB2.out.size)); have hsz3 : w.heap.size < w3.heap.size := (by have := hB.size; omega); have HX3 : Aside0 (w3.heap[w.heap.size]? = some (.cells #[.slice A l.length c] 30 (0, 0))) := ⟨(hB.block _ hsz2).trans HX2.out⟩; clear hB hbx2) | (go_at_call 77; refine (in_c n 0 100 _).mono ?_; rw [H4.out]; rintro e w' ⟨rfl, nd, rfl⟩))
     refine bodyPost_ret (v := .tuple #[.slice none 0 0, .slice none 0 0, .int .i64 0, .bool false]) (by simp [results, Try.results84, go_sem]) rfl ?_
     exact no_ans hno _ _ (bN_ HB3.out nd)
    | true =>
     have hA : askedB l x p a b n = true := by unfold askedB; rw [h1, h3, h4]; rfl
     have H2 := Aside0.mk h2
     have H3 := Aside0.mk h3
     have H4 := Aside0.mk h4
     have hx8 : x.length = l.length ∧ l.length ≤ 8 := ⟨(walk_is h3).2.1, (place_is h2).2.2.1⟩
     have hx1 : 0 < x.length := by have := (place_is h2).2.1; omega
     clear h1 h2 h3 h4
     go_enter Try.func84, Try.ntmps84
     go_upto_region 4 with (first | (go_at_call 81; refine (canEnd_c l a b _ _ (HV.out.below ((Below.refl _ _).alloc (Nat.le_refl _) _))).mono ?_; rw [H1.out]; rintro e w1 ⟨rfl, hB⟩; have hbx : w1.cell? ⟨w.heap.size, 0, none⟩ = some (.slice A l.length c) := (hB.cell (p := ⟨w.heap.size, 0, none⟩) (by simp)).trans ((blk_cell (blk_new _ _) 0).trans rfl); have HB := Aside0.mk (((Below.refl w.heap.size w).alloc (Nat.le_refl _) _).trans (hB.mono (by simp))); have hsz : w.heap.size < w1.heap.size := (by have := hB.size; simp at this; omega); have HX1 : Aside0 (w1.heap[w.heap.size]? = some (.cells #[.slice A l.length c] 30 (0, 0))) := ⟨(hB.block _ (by simp)).trans (blk_new _ _)⟩; clear hB) | (go_at_call 76; refine (has_c l p _ _ _ (HV.out.below ((HB.out.alloc HB.out.size _))) (oneI_D _ w.heap.size p HB.out.size).reads).mono ?_; rw [H2.out]; rintro e w2 ⟨rfl, hB⟩; have hbx2 : w2.cell? ⟨w.heap.size, 0, none⟩ = some (.slice A l.length c) := (hB.cell (p := ⟨w.heap.size, 0, none⟩) (by simp; omega)).trans ((World.cell?_alloc_lt _ _ _ hsz).trans hbx); have HB2 := Aside0.mk ((HB.out.alloc HB.out.size _).trans (hB.mono (by have := HB.out.size; simp; omega))); have hsz2 : w.heap.size < w2.heap.size := (by have := hB.size; simp at this; omega); have HX2 : Aside0 (w2.heap[w.heap.size]? = some (.cells #[.slice A l.length c] 30 (0, 0))) := ⟨(hB.block _ (by simp; omega)).trans (kA_ HX1.out _)⟩; clear hB hbx) | (go_at_call 102; refine (areRotors_c l x p H2.out _ _ _ (HV.out.below HB2.out) (HU.out.below HB2.out)).mono ?_; rw [H3.out]; rintro e w3 ⟨rfl, hB⟩; have hbx3 : w3.cell? ⟨w.heap.size, 0, none⟩ = some (.slice A l.length c) := (hB.cell (p := ⟨w.heap.size, 0, none⟩) hsz2).trans hbx2; have HB3 := Aside0.mk (HB2.out.trans (hB.mono HB2.out.size)); have hsz3 : w.heap.size < w3.heap.size := (by have := hB.size; omega); have HX3 : Aside0 (w3.heap[w.heap.size]? = some (.cells #[.slice A l.length c] 30 (0, 0))) := ⟨(hB.block _ hsz2).trans HX2.out⟩; clear hB hbx2) | (go_at_call 77; refine (in_c n 0 100 _).mono ?_; rw [H4.out]; rintro e w' ⟨rfl, nd, rfl⟩) | (go_at_call 114; refine (clone_c x _ u (HU.out.below (bN_ HB3.out nd)) (by omega)).mono ?_; rintro e w5 ⟨vr, rfl, hB, hR⟩; obtain ⟨G, cap, hvr⟩ := listD_form hR.out hx1; subst hvr))
     have HH := Aside0.mk (HitAt.start ((hB.block _ (by simpa using hsz3)).trans HX3.out) (hR.out.lower' (by have := HB3.out.size; simpa using this)) (by have := HB3.out.size; have := hB.size; simp at this; omega) p)
     have hsz5 := hB.size
     simp at hsz5
     have HB5 : Aside0 (Below w.heap.size w ((w5.alloc (.cells #[] 3)).alloc (.cells #[.slice (some ⟨G, 0, none⟩) x.length cap, .int .i64 p] 98))) := ⟨(((bN_ HB3.out nd).trans (hB.mono (by simpa using HB3.out.size))).alloc (by omega) _).alloc (by simp; omega) _⟩
     have hBn : w.heap.size < w5.heap.size + 1 := by omega
     clear hbx3 HB3 HB2 HB hR hB HX1 HX2 HX3
     rw [hx8.1] at HH HB5
     generalize (w5.alloc (.cells #[] 3)).alloc (.cells #[.slice (some ⟨G, 0, none⟩) l.length cap, .int .i64 p] 98) = W6 at *
     generalize w5.heap.size + 1 = B at *
     go_wp2_with (fail)
     obtain ⟨hC, hRR⟩ := chipsA_is hA
     obtain ⟨_, hp0, hp1, _, _, hn0, hn1, _⟩ := asked_ends hA
     have hout : ∀ w' v1 v2, Below w.heap.size w w' → ListD w' w.heap.size v1 (chipsA l x p a b n).1 → ListD w' w.heap.size v2 (chipsA l x p a b n).2.1 → HitsOut w l x p a b n (.returned (.tuple #[v1, v2, .int .i64 (chipsA l x p a b n).2.2, .bool true])) w' := fun w' v1 v2 q1 q2 q3 => by
      refine ⟨v1, v2, ?_, q1, ?_, ?_⟩
      ·unfold stepsA; rw [hA]; rfl
      ·unfold hitListA; rw [hA]; exact ⟨q2⟩
      ·unfold behindA; rw [hA]; exact ⟨q3⟩
     have hlx : x.length = l.length := hx8.1
     generalize chipsA l x p a b n = Z at *
     obtain ⟨H2z, R2z, S2z⟩ := Z
     have HC := Aside0.mk hC
     have HO := Aside0.mk hout
     clear hC hRR hout hA
     go_loopg [17, 18, 48] n.toNat (fun kq v17 v18 v48 wr => ∃ (i : Nat) (at_ : Int) (rot hl : List Int) (st : Int) (L7 : Option Addr) (c7 : Nat), v48 = .int .i64 (i : Int) ∧ v18 = .int .i64 st ∧ v17 = .slice L7 hl.length c7 ∧ Aside0 ((i : Int) + kq = n ∧ hl.length = i) ∧ Aside0 (Chips l a b p kq hl rot st H2z R2z S2z) ∧ Aside0 (rot.length = l.length) ∧ Aside0 (HitAt wr w.heap.size B (.slice A l.length c) (.slice (some ⟨G, 0, none⟩) l.length cap) (.slice L7 hl.length c7) at_ rot hl) ∧ Aside0 (Below w.heap.size w wr))
     case atStart => exact ⟨0, p, x, [], 0, _, _, rfl, rfl, rfl, ⟨by omega, rfl⟩, HC, ⟨hlx⟩, HH, HB5⟩
     case round =>
      clear HC HH HB5
      obtain ⟨i, at_, rot, hl, st, L7, c7, rfl, rfl, rfl, HI, HC, HL, HH, HB⟩ := hrel
      cases gk with
      | zero =>
       have hi : ¬ ((i : Int) < n) := by have := HI.out.1; omega
       have hc := HC.out
       cases hc
       have hcB : wr.drew.cell? ⟨B, 0, none⟩ = some (.slice (some ⟨G, 0, none⟩) l.length cap) := (blk_cell HH.out.blk 0).trans rfl
       have HB7 := Aside0.mk (bN_ HB.out 1)
       have HH7 := Aside0.mk (HH.out.drewN 1)
       replace HB7 : Aside0 (Below w.heap.size w wr.drew) := HB7
       replace HH7 : Aside0 (HitAt wr.drew w.heap.size B (.slice A l.length c) (.slice (some ⟨G, 0, none⟩) l.length cap) (.slice L7 H2z.length c7) at_ R2z H2z) := HH7
       clear HH HB
       go_upto_region 14 with (fail)
       refine start_ (n := 8) (S := fun w' => w'.cell? ⟨B, 0, none⟩ = some (.slice (some ⟨G, 0, none⟩) l.length cap)) (ds := []) #[false, false, false, false, false, false, false, false] (by kernel_rfl) rfl rfl hcB (fun hHeld => ?_)
       refine with_tabW htab14 hbits14 (fun HT_ HW_ => ?_)
       generalize wr.drew = W9 at *
       refine pu_ (i := 0) (N := some 77) (v := ?_) (a' := ?_) HT_.out rfl rfl (Or.inl ⟨by rfl, ?_⟩) ?_ ?_
       rotate_left
       ·intro w'
        go_simp
        with_reducible rfl
       rotate_left
       ·simp only [sp_]
        rfl
       refine pu_ (i := 1) (N := some 78) (v := ?_) (a' := ?_) HT_.out rfl rfl (Or.inl ⟨by rfl, ?_⟩) ?_ ?_
       rotate_left
       ·intro w'
        go_simp
        with_reducible rfl
       rotate_left
       ·simp only [sp_]
        rfl
       refine tk_ (i := 2) (N := some 79) (v := ?_) (a' := ?_) HT_.out HW_.out rfl rfl (Or.inl ⟨by rfl, ?_⟩) hHeld ?_ ?_
       rotate_left
       ·intro w' s0
        go_simp
        with_reducible rfl
       rotate_left
       ·simp only [sp_]
        rfl
       refine pu_ (i := 3) (N := some 80) (v := ?_) (a' := ?_) HT_.out rfl rfl (Or.inl ⟨by rfl, ?_⟩) ?_ ?_
       rotate_left
       ·intro w'
        go_simp
        with_reducible rfl
       rotate_left
       ·simp only [sp_]
        rfl
       refine pu_ (i := 4) (N := some 12) (v := ?_) (a' := ?_) HT_.out rfl rfl (Or.inl ⟨by rfl, ?_⟩) ?_ ?_
       rotate_left
       ·intro w'
        go_simp
        with_reducible rfl
       rotate_left
       ·simp only [sp_]
        rfl
       refine pu_ (i := 5) (N := some 13) (v := ?_) (a' := ?_) HT_.out rfl rfl (Or.inl ⟨by rfl, ?_⟩) ?_ ?_
       rotate_left
       ·intro w'
        go_simp
        with_reducible rfl
       rotate_left
       ·simp only [sp_]
        rfl
       refine pu_ (i := 6) (N := some 14) (v := ?_) (a' := ?_) HT_.out rfl rfl (Or.inl ⟨by rfl, ?_⟩) ?_ ?_
       rotate_left
       ·intro w'
        go_simp
        with_reducible rfl
       rotate_left
       ·simp only [sp_]
        rfl
       refine pu_ (i := 7) (N := some 15) (v := ?_) (a' := ?_) HT_.out rfl rfl (Or.inl ⟨by rfl, ?_⟩) ?_ ?_
       rotate_left
       ·intro w'
        go_simp
        with_reducible rfl
       rotate_left
       ·simp only [sp_]
        rfl
       refine done_ (done_of HT_.out (by kernel_rfl)) ?_
       clear HT_ HW_ hHeld
       go_wp2_with (fail)
       refine bodyPost_ret (v := .tuple #[.slice L7 H2z.length c7, .slice (some ⟨G, 0, none⟩) l.length cap, .int .i64 S2z, .bool true]) (by simp [results, Try.results84, go_sem]) rfl ?_
       exact HO.out _ _ _ HB7.out HH7.out.l HH7.out.r
      | succ m =>
       have hi : (i : Int) < n := by have := HI.out.1; omega
       have hc := HC.out
       obtain ⟨s, v1, rot1, st1, hrun, hrest⟩ : ∃ s v1 rot1 st1, Run l a b s p rot st v1 rot1 st1 ∧ Chips l a b p m (hl ++ [hitOf v1 a]) rot1 st1 H2z R2z S2z := by
        cases hc with
        | more _ s _ _ _ v1 rot1 st1 _ _ _ h h2 => exact ⟨s, v1, rot1, st1, h, h2⟩
       have HR := Aside0.mk hrun
       have HC2 := Aside0.mk hrest
       clear hc hrun hrest HC
       have k1 := (blk_cell HH.out.blk 1).trans rfl
       have y1 := kF_ HH.out.blk 1
       go_upto_region 7 with (fail)
       have H7 := Aside0.mk (HH.out.setAt p)
       have B7 : Aside0 (Below w.heap.size w (wr.setCell ⟨B, 1, none⟩ (.int .i64 p))) := ⟨HB.out.setCell HH.out.hB _⟩
       clear HH HB k1 y1
       generalize wr.setCell ⟨B, 1, none⟩ (.int .i64 p) = W7 at *
       go_loopg [18] s (fun kq v18 wq => ∃ (v : Int) (rot2 : List Int) (st2 : Int), v18 = .int .i64 st2 ∧ Aside0 (Run l a b kq v rot2 st2 v1 rot1 st1) ∧ Aside0 (rot2.length = l.length) ∧ Aside0 (HitAt wq w.heap.size B (.slice A l.length c) (.slice (some ⟨G, 0, none⟩) l.length cap) (.slice L7 hl.length c7) v rot2 hl) ∧ Aside0 (Below w.heap.size w wq))
       case atStart => exact ⟨p, rot, st, rfl, HR, HL, H7, B7⟩
       case round =>
        clear HR H7 B7 HL
        obtain ⟨v, rot2, st2, rfl, HR, HL, HH, HB⟩ := hrel
        have k0 := (blk_cell HH.out.bx 0).trans rfl
        have k1 := (blk_cell HH.out.blk 1).trans rfl
        cases gk with
        | zero =>
         have hr := HR.out
         have hstop : (v = a ∨ v = b) ∧ v1 = v ∧ rot1 = rot2 ∧ st1 = st2 := by
          cases hr with
          | stop _ _ _ h => exact ⟨h, rfl, rfl, rfl⟩
         obtain ⟨hab, rfl, rfl, rfl⟩ := hstop
         clear hr HR
         by_cases hva : v1 = a
         ·have q1 : (v1 == a) = true := beq_iff_eq.mpr hva
          have q2 : (v1 != a) = false := bne_eq_false_iff_eq.mpr hva
          have hh : hitOf v1 a = 1 := by unfold hitOf; rw [if_pos hva]
          rw [hh] at HC2
          clear hva hab hh
          have ws : w.heap.size ≤ wr.heap.size := HB.out.size
          have HO7 : wr.ownsRow w.heap.size 3 1 (.slice L7 hl.length c7) hl.length (nums .i64 hl) := HH.out.l
          go_wp2_with (at_builtin; go_loud (refine print_append_num (w0 := w) w.heap.size rfl (.tmp 70) (.tmp 71) 37 3 .i64 8 rfl Try.underlying37 GA.info3 (by decide) (.slice L7 hl.length c7) hl (1 : Int) rfl rfl HO7 HB.out ws (by have := HI.out; omega) ?_; intro v9 w9 hown hbel hg hat; obtain ⟨A9, m9, hv9⟩ := own_slice hown; subst hv9; have HH9 := Aside0.mk (HH.out.app hown hg hat); have HB9 := Aside0.mk hbel; clear hown hbel hg hat))
          go_roundg m
          case measure => omega
          case rel => exact ⟨i + 1, v1, rot1, hl ++ [1], st1, A9, m9, by first | rfl | go_num, rfl, by rw [List.length_append]; rfl, ⟨by have := HI.out; simp; omega⟩, HC2, HL, HH9, HB9⟩
         ·have q1 : (v1 == a) = false := beq_eq_false_iff_ne.mpr hva
          have q2 : (v1 != a) = true := bne_iff_ne.mpr hva
          have q3 : (v1 == b) = true := beq_iff_eq.mpr (hab.resolve_left hva)
          have q4 : (v1 != b) = false := bne_eq_false_iff_eq.mpr (hab.resolve_left hva)
          have hh : hitOf v1 a = 0 := by unfold hitOf; rw [if_neg hva]
          rw [hh] at HC2
          clear hva hab hh
          have ws : w.heap.size ≤ wr.heap.size := HB.out.size
          have HO7 : wr.ownsRow w.heap.size 3 1 (.slice L7 hl.length c7) hl.length (nums .i64 hl) := HH.out.l
          go_wp2_with (at_builtin; go_loud (refine print_append_num (w0 := w) w.heap.size rfl (.tmp 73) (.tmp 74) 37 3 .i64 8 rfl Try.underlying37 GA.info3 (by decide) (.slice L7 hl.length c7) hl (0 : Int) rfl rfl HO7 HB.out ws (by have := HI.out; omega) ?_; intro v9 w9 hown hbel hg hat; obtain ⟨A9, m9, hv9⟩ := own_slice hown; subst hv9; have HH9 := Aside0.mk (HH.out.app hown hg hat); have HB9 := Aside0.mk hbel; clear hown hbel hg hat))
          go_roundg m
          case measure => omega
          case rel => exact ⟨i + 1, v1, rot1, hl ++ [0], st1, A9, m9, by first | rfl | go_num, rfl, by rw [List.length_append]; rfl, ⟨by have := HI.out; simp; omega⟩, HC2, HL, HH9, HB9⟩
        | succ q =>
         have hr := HR.out
         cases hr with
         | go _ _ _ _ _ _ _ ha hb h0 h1 hvr k hk hkr h =>
          have HR2 := Aside0.mk h
          clear h HR
          obtain ⟨A_, c_, he_, hc_, hC_⟩ := HV.out
          injection he_ with e1 e2 e3
          subst e1 e3
          obtain ⟨ad, A0, c0, rfl, hx, hl0, hi0⟩ := at_L1 hC_ v h0 h1
          obtain ⟨adr, rfl, hx2⟩ := Kd.at_int hi0 (k : Int) (by omega) (by omega)
          rw [Int.toNat_natCast] at hx2
          obtain ⟨G_, cap_, cur, hf_, hNG, bG, hBG, hcur⟩ := HH.out.form (by omega)
          rw [HL.out] at hf_
          injection hf_ with e4 _ e5
          injection e4 with e4
          injection e4 with e4
          subst e4 e5
          have hcur := hcur v.toNat (by omega)
          have hlt := World.block_lt_of_cell? w _ hx2
          rw [add_block] at hlt
          have q1 : (v == a) = false := beq_eq_false_iff_ne.mpr ha
          have q2 : (v != a) = true := bne_iff_ne.mpr ha
          have q3 : (v == b) = false := beq_eq_false_iff_ne.mpr hb
          have q4 : (v != b) = true := bne_iff_ne.mpr hb
          have hrd : rot2[v.toNat]'(by omega) = rd rot2 v := by
           have := rd_at rot2 v.toNat (by omega)
           rw [Int.toNat_of_nonneg h0] at this
           exact this.symm
          rw [hrd] at hcur
          have hx := (HB.out.cell (World.block_lt_of_cell? w _ hx)).trans hx
          have hx2 := (HB.out.cell (World.block_lt_of_cell? w _ hx2)).trans hx2
          have ST := Aside0.mk (step_raw ad c l.length w.heap.size B G cap v (rd rot2 v) (rd (rd_L1 l v) k) k (rd_L1 l v).length c0 adr cur wr HB.out.size h0 h1 hx HH.out.blk bG hcur hx2 hk hkr hBG (by omega) HH.out.hB hNG)
          clear hx hx2 bG hcur hi0 hl0 hC_ hc_
          go_wp2_with (go_at_call 115; refine ST.out.mono ?_; rintro e W8 ⟨rfl, hB8, hheap⟩)
          go_roundg q
          case measure => omega
          case rel =>
           refine ⟨rd (rd_L1 l v) k, rot2.set v.toNat k, wrap64 (st2 + 1), by first | rfl | go_num, HR2, ⟨by rw [List.length_set]; exact HL.out⟩, ⟨?_⟩, ⟨HB.out.trans hB8⟩⟩
           refine HitAt.heap (((HH.out.alloc (.cells #[.slice (some ad) l.length c] 30)).setRot HL.out.symm v.toNat k).setAt (rd (rd_L1 l v) k)) (fun b hb => by rw [hheap])
end Go.Proofs.Ytnbnalbomflafaa.RA
namespace Go.Proofs.Ytnbnalbomflafaa.DT
open Go.RowKit YtnbnalbomflafaaW.PrintWords YtnbnalbomflafaaW.PrintLast YtnbnalbomflafaaW.PrintMore
open GA
open RA
def DT17 : Bool × List (List Nat × List Nat) := (true, [([], []), ([], []), ([], []), ([], []), ([], []), ([], []), ([4, 5], [4, 5]), ([6], [6]), ([], []), ([], []), ([8, 9], [8, 9]), ([10], [10]), ([0, 1, 0, 1, 4, 5, 6, 7, 11], [0, 1]), ([12, 7, 0, 1, 4, 5, 6, 7, 11], [7, 12]), ([2, 3, 0, 1, 2, 3, 4, 5, 6, 7, 8, 9, 10, 11, 12, 13], [2, 3]), ([14, 11, 13, 0, 1, 2, 3, 4, 5, 6, 7, 8, 9, 10, 11, 12, 13], [11, 14])])
def DB17 : List Nat := [0, 0, 0, 0, 0, 0, 48, 112, 0, 0, 768, 1792, 4083, 8179, 16383, 32767]
theorem dtab17 : rtab .any (opsOf Try.f118 17) = DT17 := by kernel_rfl
theorem dbits17 : waitsOk DT17.2 DB17 = true := by kernel_rfl
def DT25 : Bool × List (List Nat × List Nat) := (true, [([], []), ([], []), ([0, 1], [0, 1]), ([2], [2]), ([], []), ([], []), ([], []), ([5, 6], [5, 6]), ([7], [7]), ([], []), ([8, 9], [8, 9]), ([10], [10]), ([], []), ([], []), ([12, 13], [12, 13]), ([14], [14]), ([], []), ([15, 16], [15, 16]), ([17], [17]), ([11, 18], [11, 18]), ([], []), ([], []), ([20, 21], [20, 21]), ([22], [22]), ([], []), ([23, 24], [23, 24]), ([25], [25]), ([], []), ([], []), ([27, 28], [27, 28]), ([29], [29]), ([], []), ([30, 31], [30, 31]), ([32], [32]), ([26, 33], [26, 33]), ([19, 34], [19, 34]), ([], []), ([35, 36], [35, 36]), ([3, 4, 0, 1, 2, 3, 4, 5, 6, 7, 8, 9, 10, 11, 12, 13, 14, 15, 16, 17, 18, 19, 20, 21, 22, 23, 24, 25, 26, 27, 28, 29, 30, 31, 32, 33, 34, 35, 36, 37], [3, 4]), ([38, 37, 0, 1, 2, 3, 4, 5, 6, 7, 8, 9, 10, 11, 12, 13, 14, 15, 16, 17, 18, 19, 20, 21, 22, 23, 24, 25, 26, 27, 28, 29, 30, 31, 32, 33, 34, 35, 36, 37], [37, 38])])
def DB25 : List Nat := [0, 0, 3, 7, 0, 0, 0, 96, 224, 0, 992, 2016, 0, 0, 12288, 28672, 0, 126976, 258048, 524256, 0, 0, 3145728, 7340032, 0, 32505856, 66060288, 0, 0, 402653184, 939524096, 0, 4160749568, 8455716864, 17178820608, 34359738336, 0, 137438953440, 274877906943, 549755813887]
theorem dtab25 : rtab .any (opsOf Try.f118 25) = DT25 := by kernel_rfl
theorem dbits25 : waitsOk DT25.2 DB25 = true := by kernel_rfl
theorem far_cell (w : World) (g p k : Nat) (v : Value) (h : ¬ k = p) : (w.setCell ⟨g, p, none⟩ v).cell? ⟨g, k, none⟩ = w.cell? ⟨g, k, none⟩ := by
 unfold World.setCell World.cell?
 simp only [Array.getElem?_modify, if_true]
 cases w.heap[g]? with
 | none => rfl
 | some o =>
  cases o <;> simp [Array.getElem?_setIfInBounds, Ne.symm h]
theorem far_frozen (w : World) (g p k : Nat) (v : Value) : (w.setCell ⟨g, p, none⟩ v).frozen? ⟨g, k, none⟩ = w.frozen? ⟨g, k, none⟩ := by
 unfold World.setCell World.frozen?
 simp only [Array.getElem?_modify, if_true]
 cases w.heap[g]? with
 | none => rfl
 | some o => cases o <;> simp
theorem info37 : (Try.prog.info? 37).map (fun i => (i.zero, i.size, i.bytes)) = some (some (.slice none 0 0), 1, 24) := by kernel_rfl
theorem rowsD_empty (w : World) (N : Nat) (hN : N ≤ w.heap.size) : RowsD (w.alloc (.cells #[] 37)) N (.slice (some ⟨w.heap.size, 0, none⟩) 0 0) [] :=
 ⟨[], ⟨rfl, .inr ⟨w.heap.size, 0, #[], rfl, hN, blk_new w _, Nat.le_refl _, by unfold maxLen; simp, rfl, rfl⟩⟩, fun i r h => by simp at h, fun i j v u k h => by simp at h⟩
theorem rowsD_more {wr w5 w1 : World} {N : Nat} {vc v v1 : Value} {rs : List (List Int)} {r : List Int} {L : List Value} (h1 : wr.ownsRow N 37 1 vc rs.length L) (h2 : RowsL wr N rs L) (hN : N ≤ wr.heap.size) (hB : Below wr.heap.size wr w5) (hv : ListD w5 wr.heap.size v r) (hown : w1.ownsRow N 37 1 v1 (L ++ [v]).length (L ++ [v])) (hg : w5.grownBy w1 vc.ownBlock) : RowsD w1 N v1 (rs ++ [r]) := by
 have hLn : L.length = rs.length := by have := own_len h1; omega
 refine RowsD.app h1 h2 (own_weaken (own_move hv fun k hk => hg.block k (own_lt hv k hk) fun c => ?_) hN) (fun k hk => own_base hv k hk) (by rw [List.length_append, List.length_singleton, hLn] at hown; exact hown) fun b hb hne => (hg.block b (by have := hB.size; omega) (fun c => hne (by first | exact c | exact c.symm))).trans (hB.block b hb)
 have q1 := own_base hv k hk
 have q2 := own_lt h1 k (by first | exact c | exact c.symm)
 omega
theorem elim_congr {n k e : Nat} {M A A' O : Nat → Nat → Int} {s t : Int} (h : Elim n k M A O s t e) (hA : ∀ r c, r < n → c < n → A' r c = A r c) : Elim n k M A' O s t e :=
 ⟨h.sgn, h.one, h.ne, h.lst, h.bnd, fun r p q hp hq => by
  rw [← h.min r p q hp hq]
  exact D_congr fun i j hi hj => hA _ _ (hp i hi).2 (hq j hj).2⟩
theorem fe_le {k : Nat} (hk : k ≤ 6) : fact k * 5 ^ k ≤ 11250000 := by
 have : k = 0 ∨ k = 1 ∨ k = 2 ∨ k = 3 ∨ k = 4 ∨ k = 5 ∨ k = 6 := by omega
 rcases this with h | h | h | h | h | h | h <;> rw [h] <;> decide
theorem det_val {n k i j : Nat} {M A O : Nat → Nat → Int} {s last x : Int} (h : Elim n k M A O s last 5) (hn : n ≤ 6) (hk : k < n) (hi : k < i) (hin : i < n) (hj : k < j) (hjn : j < n) (hx : A i j * A k k - A i k * A k j = last * x) (hl : last ≠ 0) :
  wrap64 (Int.tdiv (wrap64 (wrap64 (A i j * A k k) - wrap64 (A i k * A k j))) last) = x := by
 have hf := fe_le (k := k + 1) (by omega)
 have b1 := Nat.le_trans (inv_bound h (by omega : k ≤ i) hin (by omega : k ≤ j) hjn) hf
 have b2 := Nat.le_trans (inv_bound h (Nat.le_refl k) hk (Nat.le_refl k) hk) hf
 have b3 := Nat.le_trans (inv_bound h (by omega : k ≤ i) hin (Nat.le_refl k) hk) hf
 have b4 := Nat.le_trans (inv_bound h (Nat.le_refl k) hk (by omega : k ≤ j) hjn) hf
 have p1 : (A i j * A k k).natAbs ≤ 11250000 * 11250000 := by rw [Int.natAbs_mul]; exact Nat.mul_le_mul b1 b2
 have p2 : (A i k * A k j).natAbs ≤ 11250000 * 11250000 := by rw [Int.natAbs_mul]; exact Nat.mul_le_mul b3 b4
 have q1 : wrap64 (A i j * A k k) = A i j * A k k := wrap_id (by omega) (by omega)
 have q2 : wrap64 (A i k * A k j) = A i k * A k j := wrap_id (by omega) (by omega)
 rw [q1, q2]
 have p3 : (last * x).natAbs ≤ 300000000000000 := by rw [← hx]; omega
 have q3 : wrap64 (A i j * A k k - A i k * A k j) = last * x := by rw [← hx]; exact wrap_id (by omega) (by omega)
 rw [q3, Int.mul_tdiv_cancel_left _ hl]
 rw [Int.natAbs_mul] at p3
 have p4 : 1 * x.natAbs ≤ last.natAbs * x.natAbs := Nat.mul_le_mul_right _ (by omega)
 exact wrap_id (by omega) (by omega)
def Mid (n k i j : Nat) (A X : Nat → Nat → Int) (rs : List (List Int)) : Prop := ∀ r c, r < n → c < n → matF rs r c = if k < r ∧ k < c ∧ (r < i ∨ r = i ∧ c < j) then X r c else A r c
set_option maxHeartbeats 8000000 in
set_option maxRecDepth 100000 in
theorem det_c (n : Nat) (rows : List (List Int)) (hsq : Sq n rows) (hn : n ≤ 6) (hb : ∀ r c, r < n → c < n → (matF rows r c).natAbs ≤ 5) (w : World) (v : Value) (hv : RowsC w v rows) :
  Calls Try.prog 118 #[v] w fun e w' => e = .returned (.int .i64 (D n (matF rows))) ∧ Below w.heap.size w w' := by
 obtain ⟨A, c, rfl, hc, hC⟩ := hv
 have hl := hsq.len
 rw [hl] at hC ⊢
 have HC := Aside0.mk hC
 have HBND := Aside0.mk hb
 have HSQ := Aside0.mk hsq
 have HLN := Aside0.mk hl
 clear hC hb hc hsq hl
 go_enter Try.func118, Try.ntmps118
 have HE := Aside0.mk (rowsD_empty w w.heap.size (Nat.le_refl _))
 have HB0 : Aside0 (Below w.heap.size w (w.alloc (.cells #[] 37))) := ⟨(Below.refl _ _).alloc (Nat.le_refl _) _⟩
 go_wp2_with (fail)
 go_loopg [6, 18] n (fun kq v6 v18 wr => ∃ (i : Nat) (A6 : Option Addr) (c6 : Nat), v18 = .int .i64 (i : Int) ∧ v6 = .slice A6 i c6 ∧ Aside0 (i + kq = n) ∧ Aside0 (RowsD wr w.heap.size (.slice A6 i c6) (rows.take i)) ∧ Aside0 (Below w.heap.size w wr))
 case atStart => exact ⟨0, _, _, rfl, rfl, ⟨by omega⟩, HE, HB0⟩
 case round =>
  clear HE HB0
  obtain ⟨i, A6, c6, rfl, rfl, HI, HR, HB⟩ := hrel
  cases gk with
  | zero =>
   have hi : ¬ ((i : Int) < (n : Int)) := by have := HI.out; omega
   have e0 : n = i := by have := HI.out; omega
   subst e0
   have HR2 : Aside0 (RowsD wr w.heap.size (.slice A6 n c6) rows) := by
    have := HR.out
    rw [List.take_of_length_le (by have := HLN.out; omega)] at this
    exact ⟨this⟩
   clear HR HI
   go_wp2_with (fail)
   go_loopg [4, 5, 29] n (fun kq v4 v5 v29 wq => ∃ (k : Nat) (s last : Int) (rs : List (List Int)) (O : Nat → Nat → Int), v4 = .int .i64 s ∧ v5 = .int .i64 last ∧ v29 = .int .i64 (k : Int) ∧ Aside0 (k + kq = n) ∧ Aside0 (Sq n rs) ∧ Aside0 (Elim n k (matF rows) (matF rs) O s last 5) ∧ Aside0 (RowsD wq w.heap.size (.slice A6 n c6) rs) ∧ Aside0 (Below w.heap.size w wq))
   case atStart => exact ⟨0, 1, 1, rows, matF rows, rfl, rfl, rfl, ⟨by omega⟩, HSQ, ⟨inv_start HBND.out⟩, HR2, HB⟩
   case round =>
    clear HR2 HB
    obtain ⟨k, s, last, rs, O, rfl, rfl, rfl, HI, HS, HEL, HR, HB⟩ := hrel
    cases gk with
    | zero =>
     have e1 : n = k := by have := HI.out; omega
     subst e1
     have hk : ¬ ((n : Int) < (n : Int)) := by omega
     have hend := inv_end HEL.out
     have hfin : wrap64 (s * last) = D n (matF rows) := by
      rw [hend]
      have h1 := HEL.out.one
      have h2 : last.natAbs ≤ 11250000 := by
       rw [HEL.out.lst]
       exact Nat.le_trans (D_bound HEL.out.bnd) (fe_le hn)
      rcases h1 with q | q <;> rw [q] <;> exact wrap_id (by omega) (by omega)
     have HFIN := Aside0.mk hfin
     clear hend hfin
     go_wp2_with (fail)
     go_ret
     exact ⟨by rw [← HFIN.out]; rfl, HB.out⟩
    | succ m =>
     have hkn : k < n := by have := HI.out; omega
     have hk : (k : Int) < (n : Int) := by omega
     obtain ⟨g, cap, cur, hf_, hgN, _, _⟩ := rowsD_get HR.out (by rw [HS.out.len]; omega)
     rw [HS.out.len] at hf_
     injection hf_ with e1 _ e2
     subst e1 e2
     go_upto_region 12 with (fail)
     go_loopg [10] n (fun m2 v10 wq => ∃ p : Nat, v10 = .int .i64 (p : Int) ∧ Aside0 (k ≤ p ∧ p ≤ n ∧ n - p ≤ m2 ∧ ∀ q, k ≤ q → q < p → matF rs q k = 0) ∧ Aside0 (RowsD wq w.heap.size (.slice (some ⟨g, 0, none⟩) n c6) rs) ∧ Aside0 (Below w.heap.size w wq))
     case atStart => exact ⟨k, rfl, ⟨Nat.le_refl _, by omega, by omega, fun q h1 h2 => by omega⟩, HR, HB⟩
     case round =>
      clear HR HB
      obtain ⟨p, rfl, HP, HR, HB⟩ := hrel
      by_cases hpn : p < n
      ·have hp1 : (p : Int) < (n : Int) := by omega
       obtain ⟨_, zp, gi, ci, cp, hNi, _, hcell, _⟩ := cells_of HR.out HS.out hpn
       have ck := (hcell k hkn).1
       clear hcell
       by_cases hz : matF rs p k = 0
       ·obtain ⟨m3, rfl⟩ : ∃ y, gk = y + 1 := ⟨gk - 1, by have := HP.out.2.2.1; omega⟩
        rw [hz] at ck
        have HZ := Aside0.mk hz
        clear hz
        go_wp2_with (fail)
        go_roundg m3
        case measure => omega
        case rel => exact ⟨p + 1, by first | rfl | go_num, ⟨by have := HP.out.1; omega, by omega, by have := HP.out.2.2.1; omega, fun q h1 h2 => by
         by_cases hq : q = p
         ·rw [hq]; exact HZ.out
         ·exact HP.out.2.2.2 q h1 (by omega)⟩, HR, HB⟩
       ·have hz2 : (matF rs p k == 0) = false := beq_eq_false_iff_ne.mpr hz
        have hz3 : (matF rs p k != 0) = true := bne_iff_ne.mpr hz
        have HZ := Aside0.mk hz
        generalize hax : matF rs p k = ax at *
        have hpe : ¬ ((p : Int) = (n : Int)) := by omega
        have hpe2 : ((p : Int) == (n : Int)) = false := beq_eq_false_iff_ne.mpr hpe
        go_upto_if 53 with (fail)
        go_cut [4] (fun v4 wc => ∃ (s2 : Int) (rs2 : List (List Int)) (O2 : Nat → Nat → Int), v4 = .int .i64 s2 ∧ Aside0 (Sq n rs2) ∧ Aside0 (Elim n k (matF rows) (matF rs2) O2 s2 last 5) ∧ Aside0 (matF rs2 k k ≠ 0) ∧ Aside0 (RowsD wc w.heap.size (.slice (some ⟨g, 0, none⟩) n c6) rs2) ∧ Aside0 (Below w.heap.size w wc))
        case first =>
         by_cases hpk : k = p
         ·subst hpk
          have hne : ((k : Int) != (k : Int)) = false := by simp
          go_wp2_with (fail)
          go_meet
          case rel => exact ⟨s, rs, O, rfl, HS, HEL, ⟨by rw [hax]; exact HZ.out⟩, HR, HB⟩
         ·have hne : ((p : Int) != (k : Int)) = true := bne_iff_ne.mpr (by omega)
          obtain ⟨_, zk, gk, ck_, c0, _, _, _, _⟩ := cells_of HR.out HS.out hkn
          have c1 := cp
          have HSW := Aside0.mk (swap_of HR.out HS.out hkn hpn hpk c0 c1)
          have HBS : Aside0 (Below w.heap.size w ((wr.setCell ⟨g, p, none⟩ (.slice (some ⟨gk, 0, none⟩) n ck_)).setCell ⟨g, k, none⟩ (.slice (some ⟨gi, 0, none⟩) n ci))) := ⟨(HB.out.setCell hgN _).setCell hgN _⟩
          have hws : wrap64 (-s) = -s := by
           have := HEL.out.one
           exact wrap_id (by omega) (by omega)
          have HWS := Aside0.mk hws
          clear hws
          go_upto_region 17 with (fail)
          replace HSW : Aside0 (RowsD ((wr.drew.setCell ⟨g, p, none⟩ (.slice (some ⟨gk, 0, none⟩) n ck_)).setCell ⟨g, k, none⟩ (.slice (some ⟨gi, 0, none⟩) n ci)) w.heap.size (.slice (some ⟨g, 0, none⟩) n c6) (swM rs k p)) := ⟨HSW.out.keep fun b hb => rfl⟩
          replace HBS : Aside0 (Below w.heap.size w ((wr.drew.setCell ⟨g, p, none⟩ (.slice (some ⟨gk, 0, none⟩) n ck_)).setCell ⟨g, k, none⟩ (.slice (some ⟨gi, 0, none⟩) n ci))) := ⟨((bN_ HB.out 1).setCell hgN _).setCell hgN _⟩
          replace c0 : wr.drew.cell? ⟨g, k, none⟩ = some (.slice (some ⟨gk, 0, none⟩) n ck_) := c0
          replace c1 : wr.drew.cell? ⟨g, p, none⟩ = some (.slice (some ⟨gi, 0, none⟩) n ci) := c1
          replace zk : wr.drew.frozen? ⟨g, k, none⟩ = false := zk
          replace zp : wr.drew.frozen? ⟨g, p, none⟩ = false := zp
          clear cp ck HR HB
          refine start_ (n := 16) (S := fun w' => w'.cell? ⟨g, k, none⟩ = some (.slice (some ⟨gk, 0, none⟩) n ck_) ∧ w'.cell? ⟨g, p, none⟩ = some (.slice (some ⟨gi, 0, none⟩) n ci)) (ds := [13, 15]) #[false, false, false, false, false, false, false, false, false, false, false, false, false, false, false, false] (by kernel_rfl) rfl rfl ⟨c0, c1⟩ (fun hHeld => ?_)
          refine with_tabW dtab17 dbits17 (fun HT_ HW_ => ?_)
          generalize wr.drew = W9 at *
          refine pu_ (i := 0) (N := some 54) (v := ?_) (a' := ?_) HT_.out rfl rfl (Or.inl ⟨by rfl, ?_⟩) ?_ ?_
          rotate_left
          ·intro w'
           go_simp
           with_reducible rfl
          rotate_left
          ·simp only [sp_]
           rfl
          refine pu_ (i := 1) (N := some 55) (v := ?_) (a' := ?_) HT_.out rfl rfl (Or.inl ⟨by rfl, ?_⟩) ?_ ?_
          rotate_left
          ·intro w'
           go_simp
           with_reducible rfl
          rotate_left
          ·simp only [sp_]
           rfl
          refine pu_ (i := 2) (N := some 56) (v := ?_) (a' := ?_) HT_.out rfl rfl (Or.inl ⟨by rfl, ?_⟩) ?_ ?_
          rotate_left
          ·intro w'
           go_simp
           with_reducible rfl
          rotate_left
          ·simp only [sp_]
           rfl
          refine pu_ (i := 3) (N := some 57) (v := ?_) (a' := ?_) HT_.out rfl rfl (Or.inl ⟨by rfl, ?_⟩) ?_ ?_
          rotate_left
          ·intro w'
           go_simp
           with_reducible rfl
          rotate_left
          ·simp only [sp_]
           rfl
          refine pu_ (i := 4) (N := some 58) (v := ?_) (a' := ?_) HT_.out rfl rfl (Or.inl ⟨by rfl, ?_⟩) ?_ ?_
          rotate_left
          ·intro w'
           go_simp
           with_reducible rfl
          rotate_left
          ·simp only [sp_]
           rfl
          refine pu_ (i := 5) (N := some 59) (v := ?_) (a' := ?_) HT_.out rfl rfl (Or.inl ⟨by rfl, ?_⟩) ?_ ?_
          rotate_left
          ·intro w'
           go_simp
           with_reducible rfl
          rotate_left
          ·simp only [sp_]
           rfl
          refine pu_ (i := 6) (N := some 60) (v := ?_) (a' := ?_) HT_.out rfl rfl (Or.inl ⟨by rfl, ?_⟩) ?_ ?_
          rotate_left
          ·intro w'
           go_simp
           with_reducible rfl
          rotate_left
          ·simp only [sp_]
           rfl
          refine tk_ (i := 7) (N := some 61) (v := ?_) (a' := ?_) HT_.out HW_.out rfl rfl (Or.inl ⟨by rfl, ?_⟩) hHeld ?_ ?_
          rotate_left
          ·rintro w' ⟨s0, s1⟩
           go_simp
           with_reducible rfl
          rotate_left
          ·simp only [sp_]
           rfl
          refine pu_ (i := 8) (N := some 62) (v := ?_) (a' := ?_) HT_.out rfl rfl (Or.inl ⟨by rfl, ?_⟩) ?_ ?_
          rotate_left
          ·intro w'
           go_simp
           with_reducible rfl
          rotate_left
          ·simp only [sp_]
           rfl
          refine pu_ (i := 9) (N := some 63) (v := ?_) (a' := ?_) HT_.out rfl rfl (Or.inl ⟨by rfl, ?_⟩) ?_ ?_
          rotate_left
          ·intro w'
           go_simp
           with_reducible rfl
          rotate_left
          ·simp only [sp_]
           rfl
          refine pu_ (i := 10) (N := some 64) (v := ?_) (a' := ?_) HT_.out rfl rfl (Or.inl ⟨by rfl, ?_⟩) ?_ ?_
          rotate_left
          ·intro w'
           go_simp
           with_reducible rfl
          rotate_left
          ·simp only [sp_]
           rfl
          refine tk_ (i := 11) (N := some 65) (v := ?_) (a' := ?_) HT_.out HW_.out rfl rfl (Or.inl ⟨by rfl, ?_⟩) hHeld ?_ ?_
          rotate_left
          ·rintro w' ⟨s0, s1⟩
           go_simp
           with_reducible rfl
          rotate_left
          ·simp only [sp_]
           rfl
          refine pu_ (i := 12) (N := some 66) (v := ?_) (a' := ?_) HT_.out rfl rfl (Or.inl ⟨by rfl, ?_⟩) ?_ ?_
          rotate_left
          ·intro w'
           go_simp
           with_reducible rfl
          rotate_left
          ·simp only [sp_]
           rfl
          have y1 : (W9.setCell ⟨g, p, none⟩ (.slice (some ⟨gk, 0, none⟩) n ck_)).cell? ⟨g, k, none⟩ = some (.slice (some ⟨gk, 0, none⟩) n ck_) := (far_cell _ _ _ _ _ hpk).trans c0
          have y2 : (W9.setCell ⟨g, p, none⟩ (.slice (some ⟨gk, 0, none⟩) n ck_)).frozen? ⟨g, k, none⟩ = false := (far_frozen _ _ _ _ _).trans zk
          refine lastS_ (i := 13) (w1 := W9.setCell ⟨g, p, none⟩ (.slice (some ⟨gk, 0, none⟩) n ck_)) #[true, true, true, true, true, true, true, true, true, true, true, true, true, true, false, false] rfl rfl (one_of HT_.out (by kernel_rfl)) (by decide) (by rfl) ?_ ?_
          ·go_simp
          (try simp only [Act.put, List.setIfInBounds_toArray, List.set_cons_zero, List.set_cons_succ])
          clear c0 c1 zp zk
          generalize W9.setCell ⟨g, p, none⟩ (.slice (some ⟨gk, 0, none⟩) n ck_) = Y at *
          refine pu_ (i := 14) (N := some 67) (v := ?_) (a' := ?_) HT_.out rfl rfl (Or.inl ⟨by rfl, ?_⟩) ?_ ?_
          rotate_left
          ·intro w'
           go_simp
           with_reducible rfl
          rotate_left
          ·simp only [sp_]
           rfl
          refine lastS_ (i := 15) (w1 := Y.setCell ⟨g, k, none⟩ (.slice (some ⟨gi, 0, none⟩) n ci)) #[true, true, true, true, true, true, true, true, true, true, true, true, true, true, true, true] rfl rfl (one_of HT_.out (by kernel_rfl)) (by decide) (by rfl) ?_ ?_
          ·go_simp
          (try simp only [Act.put, List.setIfInBounds_toArray, List.set_cons_zero, List.set_cons_succ])
          refine done_ (done_of HT_.out (by kernel_rfl)) ?_
          clear HT_ HW_ hHeld y1 y2
          generalize Y.setCell ⟨g, k, none⟩ (.slice (some ⟨gi, 0, none⟩) n ci) = Y2 at *
          go_wp2_with (fail)
          go_meet
          case rel => exact ⟨-s, swM rs k p, fun r c => O (sw k p r) c, congrArg (Value.int .i64) HWS.out, ⟨sq_swM HS.out hkn hpn⟩, ⟨elim_congr (inv_swap HEL.out (by have := HP.out.1; omega) hpn) fun r c hr hc => matF_swM HS.out hkn hpn hr hc⟩, ⟨by rw [matF_swM HS.out hkn hpn hkn hkn]; unfold sw; rw [if_pos rfl, hax]; exact HZ.out⟩, HSW, HBS⟩
        case rest =>
         clear HR HB HP HZ hz2 hz3 hpe2 cp ck zp HEL HS
         obtain ⟨s2, rs2, O2, rfl, HS2, HEL2, HNZ, HR, HB⟩ := hcut
         obtain ⟨X, hX, hE⟩ := inv_step HEL2.out hkn HNZ.out
         have HX := Aside0.mk hX
         have HE := Aside0.mk hE
         clear hX hE
         go_wp2_with (fail)
         go_loopg [11] n (fun m2 v11 wq => ∃ (i : Nat) (rs3 : List (List Int)), v11 = .int .i64 (i : Int) ∧ Aside0 (k < i ∧ i ≤ n ∧ n - i ≤ m2) ∧ Aside0 (Sq n rs3) ∧ Aside0 (Mid n k i (k + 1) (matF rs2) X rs3) ∧ Aside0 (RowsD wq w.heap.size (.slice (some ⟨g, 0, none⟩) n c6) rs3) ∧ Aside0 (Below w.heap.size w wq))
         case atStart => exact ⟨k + 1, rs2, by first | rfl | go_num, ⟨by omega, by omega, by omega⟩, HS2, ⟨fun r c hr hc => by rw [if_neg (by omega)]⟩, HR, HB⟩
         case round =>
          clear HR HB
          obtain ⟨i, rs3, rfl, HI3, HS3, HM, HR, HB⟩ := hrel
          by_cases hin : i < n
          ·have hi1 : (i : Int) < (n : Int) := by omega
           obtain ⟨m3, rfl⟩ : ∃ y, gk = y + 1 := ⟨gk - 1, by have := HI3.out.2.2; omega⟩
           go_wp2_with (fail)
           go_loopg [12] n (fun m4 v12 wq => ∃ (j : Nat) (rs4 : List (List Int)), v12 = .int .i64 (j : Int) ∧ Aside0 (k < j ∧ j ≤ n ∧ n - j ≤ m4) ∧ Aside0 (Sq n rs4) ∧ Aside0 (Mid n k i j (matF rs2) X rs4) ∧ Aside0 (RowsD wq w.heap.size (.slice (some ⟨g, 0, none⟩) n c6) rs4) ∧ Aside0 (Below w.heap.size w wq))
           case atStart => exact ⟨k + 1, rs3, by first | rfl | go_num, ⟨by omega, by omega, by omega⟩, HS3, HM, HR, HB⟩
           case round =>
            clear HR HB HM HS3
            obtain ⟨j, rs4, rfl, HJ, HS4, HM, HR, HB⟩ := hrel
            by_cases hjn : j < n
            ·have hj1 : (j : Int) < (n : Int) := by omega
             obtain ⟨m5, rfl⟩ : ∃ y, gk = y + 1 := ⟨gk - 1, by have := HJ.out.2.2; omega⟩
             obtain ⟨_, _, gi, ci, c0, hNi, _, hci, hset⟩ := cells_of HR.out HS4.out hin
             obtain ⟨_, _, gk, ck_, c1, _, _, hck, _⟩ := cells_of HR.out HS4.out hkn
             have c2 := (hci j hjn).1
             have zij := (hci j hjn).2
             have c4 := (hci k hkn).1
             have c3 := (hck k hkn).1
             have c5 := (hck j hjn).1
             have hki := HI3.out.1
             have hkj := HJ.out.1
             have f1 := HM.out i j hin hjn
             rw [if_neg (by omega)] at f1
             have f2 := HM.out k k hkn hkn
             rw [if_neg (by omega)] at f2
             have f3 := HM.out i k hin hkn
             rw [if_neg (by omega)] at f3
             have f4 := HM.out k j hkn hjn
             rw [if_neg (by omega)] at f4
             have hval := det_val HEL2.out hn hkn hki hin hkj hjn (HX.out i j hki hin hkj hjn) HEL2.out.ne
             rw [← f1, ← f2, ← f3, ← f4] at hval
             have HSET := Aside0.mk (hset j (X i j))
             have HST := Aside0.mk (sq_setM (j := j) (x := X i j) HS4.out hin)
             have HMID : Aside0 (Mid n k i (j + 1) (matF rs2) X (setM rs4 i j (X i j))) := ⟨fun r c hr hc => by
              rw [matF_setM HS4.out hin hjn hr hc]
              by_cases q : r = i ∧ c = j
              ·rw [if_pos q, if_pos (by omega), q.1, q.2]
              ·rw [if_neg q, HM.out r c hr hc]
               by_cases q2 : k < r ∧ k < c ∧ (r < i ∨ r = i ∧ c < j)
               ·rw [if_pos q2, if_pos (by omega)]
               ·rw [if_neg q2, if_neg (by omega)]⟩
             have HV := Aside0.mk hval
             have hlz := HEL2.out.ne
             clear hval f1 f2 f3 f4 hci hck hset
             generalize matF rs4 i j = xij at *
             generalize matF rs4 k k = xkk at *
             generalize matF rs4 i k = xik at *
             generalize matF rs4 k j = xkj at *
             go_upto_region 25 with (fail)
             replace c0 : wr.drew.cell? ⟨g, i, none⟩ = some (.slice (some ⟨gi, 0, none⟩) n ci) := c0
             replace c1 : wr.drew.cell? ⟨g, k, none⟩ = some (.slice (some ⟨gk, 0, none⟩) n ck_) := c1
             replace c2 : wr.drew.cell? ⟨gi, j, none⟩ = some (.int .i64 xij) := c2
             replace c3 : wr.drew.cell? ⟨gk, k, none⟩ = some (.int .i64 xkk) := c3
             replace c4 : wr.drew.cell? ⟨gi, k, none⟩ = some (.int .i64 xik) := c4
             replace c5 : wr.drew.cell? ⟨gk, j, none⟩ = some (.int .i64 xkj) := c5
             replace zij : wr.drew.frozen? ⟨gi, j, none⟩ = false := zij
             replace HSET : Aside0 (RowsD (wr.drew.setCell ⟨gi, j, none⟩ (.int .i64 (X i j))) w.heap.size (.slice (some ⟨g, 0, none⟩) n c6) (setM rs4 i j (X i j))) := ⟨HSET.out.keep fun b hb => rfl⟩
             have HBS : Aside0 (Below w.heap.size w (wr.drew.setCell ⟨gi, j, none⟩ (.int .i64 (X i j)))) := ⟨(bN_ HB.out 1).setCell hNi _⟩
             clear HR HB
             refine start_ (n := 40) (S := fun w' => w'.cell? ⟨g, i, none⟩ = some (.slice (some ⟨gi, 0, none⟩) n ci) ∧ w'.cell? ⟨g, k, none⟩ = some (.slice (some ⟨gk, 0, none⟩) n ck_) ∧ w'.cell? ⟨gi, j, none⟩ = some (.int .i64 xij) ∧ w'.cell? ⟨gk, k, none⟩ = some (.int .i64 xkk) ∧ w'.cell? ⟨gi, k, none⟩ = some (.int .i64 xik) ∧ w'.cell? ⟨gk, j, none⟩ = some (.int .i64 xkj)) (ds := [39]) #[false, false, false, false, false, false, false, false, false, false, false, false, false, false, false, false, false, false, false, false, false, false, false, false, false, false, false, false, false, false, false, false, false, false, false, false, false, false, false, false] (by kernel_rfl) rfl rfl ⟨c0, c1, c2, c3, c4, c5⟩ (fun hHeld => ?_)
             refine with_tabW dtab25 dbits25 (fun HT_ HW_ => ?_)
             generalize wr.drew = W9 at *
             refine pu_ (i := 0) (N := some 84) (v := ?_) (a' := ?_) HT_.out rfl rfl (Or.inl ⟨by rfl, ?_⟩) ?_ ?_
             rotate_left
             ·intro w'
              go_simp
              with_reducible rfl
             rotate_left
             ·simp only [sp_]
              rfl
             refine pu_ (i := 1) (N := some 85) (v := ?_) (a' := ?_) HT_.out rfl rfl (Or.inl ⟨by rfl, ?_⟩) ?_ ?_
             rotate_left
             ·intro w'
              go_simp
              with_reducible rfl
             rotate_left
             ·simp only [sp_]
              rfl
             refine pu_ (i := 2) (N := some 86) (v := ?_) (a' := ?_) HT_.out rfl rfl (Or.inl ⟨by rfl, ?_⟩) ?_ ?_
             rotate_left
             ·intro w'
              go_simp
              with_reducible rfl
             rotate_left
             ·simp only [sp_]
              rfl
             refine tk_ (i := 3) (N := some 87) (v := ?_) (a' := ?_) HT_.out HW_.out rfl rfl (Or.inl ⟨by rfl, ?_⟩) hHeld ?_ ?_
             rotate_left
             ·rintro w' ⟨s0, s1, s2, s3, s4, s5⟩
              go_simp
              with_reducible rfl
             rotate_left
             ·simp only [sp_]
              rfl
             refine pu_ (i := 4) (N := some 88) (v := ?_) (a' := ?_) HT_.out rfl rfl (Or.inl ⟨by rfl, ?_⟩) ?_ ?_
             rotate_left
             ·intro w'
              go_simp
              with_reducible rfl
             rotate_left
             ·simp only [sp_]
              rfl
             refine pu_ (i := 5) (N := some 89) (v := ?_) (a' := ?_) HT_.out rfl rfl (Or.inl ⟨by rfl, ?_⟩) ?_ ?_
             rotate_left
             ·intro w'
              go_simp
              with_reducible rfl
             rotate_left
             ·simp only [sp_]
              rfl
             refine pu_ (i := 6) (N := some 90) (v := ?_) (a' := ?_) HT_.out rfl rfl (Or.inl ⟨by rfl, ?_⟩) ?_ ?_
             rotate_left
             ·intro w'
              go_simp
              with_reducible rfl
             rotate_left
             ·simp only [sp_]
              rfl
             refine pu_ (i := 7) (N := some 91) (v := ?_) (a' := ?_) HT_.out rfl rfl (Or.inl ⟨by rfl, ?_⟩) ?_ ?_
             rotate_left
             ·intro w'
              go_simp
              with_reducible rfl
             rotate_left
             ·simp only [sp_]
              rfl
             refine tk_ (i := 8) (N := some 92) (v := ?_) (a' := ?_) HT_.out HW_.out rfl rfl (Or.inl ⟨by rfl, ?_⟩) hHeld ?_ ?_
             rotate_left
             ·rintro w' ⟨s0, s1, s2, s3, s4, s5⟩
              go_simp
              with_reducible rfl
             rotate_left
             ·simp only [sp_]
              rfl
             refine pu_ (i := 9) (N := some 93) (v := ?_) (a' := ?_) HT_.out rfl rfl (Or.inl ⟨by rfl, ?_⟩) ?_ ?_
             rotate_left
             ·intro w'
              go_simp
              with_reducible rfl
             rotate_left
             ·simp only [sp_]
              rfl
             refine pu_ (i := 10) (N := some 94) (v := ?_) (a' := ?_) HT_.out rfl rfl (Or.inl ⟨by rfl, ?_⟩) ?_ ?_
             rotate_left
             ·intro w'
              go_simp
              with_reducible rfl
             rotate_left
             ·simp only [sp_]
              rfl
             refine tk_ (i := 11) (N := some 95) (v := ?_) (a' := ?_) HT_.out HW_.out rfl rfl (Or.inl ⟨by rfl, ?_⟩) hHeld ?_ ?_
             rotate_left
             ·rintro w' ⟨s0, s1, s2, s3, s4, s5⟩
              go_simp
              with_reducible rfl
             rotate_left
             ·simp only [sp_]
              rfl
             refine pu_ (i := 12) (N := some 96) (v := ?_) (a' := ?_) HT_.out rfl rfl (Or.inl ⟨by rfl, ?_⟩) ?_ ?_
             rotate_left
             ·intro w'
              go_simp
              with_reducible rfl
             rotate_left
             ·simp only [sp_]
              rfl
             refine pu_ (i := 13) (N := some 97) (v := ?_) (a' := ?_) HT_.out rfl rfl (Or.inl ⟨by rfl, ?_⟩) ?_ ?_
             rotate_left
             ·intro w'
              go_simp
              with_reducible rfl
             rotate_left
             ·simp only [sp_]
              rfl
             refine pu_ (i := 14) (N := some 98) (v := ?_) (a' := ?_) HT_.out rfl rfl (Or.inl ⟨by rfl, ?_⟩) ?_ ?_
             rotate_left
             ·intro w'
              go_simp
              with_reducible rfl
             rotate_left
             ·simp only [sp_]
              rfl
             refine tk_ (i := 15) (N := some 99) (v := ?_) (a' := ?_) HT_.out HW_.out rfl rfl (Or.inl ⟨by rfl, ?_⟩) hHeld ?_ ?_
             rotate_left
             ·rintro w' ⟨s0, s1, s2, s3, s4, s5⟩
              go_simp
              with_reducible rfl
             rotate_left
             ·simp only [sp_]
              rfl
             refine pu_ (i := 16) (N := some 100) (v := ?_) (a' := ?_) HT_.out rfl rfl (Or.inl ⟨by rfl, ?_⟩) ?_ ?_
             rotate_left
             ·intro w'
              go_simp
              with_reducible rfl
             rotate_left
             ·simp only [sp_]
              rfl
             refine pu_ (i := 17) (N := some 101) (v := ?_) (a' := ?_) HT_.out rfl rfl (Or.inl ⟨by rfl, ?_⟩) ?_ ?_
             rotate_left
             ·intro w'
              go_simp
              with_reducible rfl
             rotate_left
             ·simp only [sp_]
              rfl
             refine tk_ (i := 18) (N := some 102) (v := ?_) (a' := ?_) HT_.out HW_.out rfl rfl (Or.inl ⟨by rfl, ?_⟩) hHeld ?_ ?_
             rotate_left
             ·rintro w' ⟨s0, s1, s2, s3, s4, s5⟩
              go_simp
              with_reducible rfl
             rotate_left
             ·simp only [sp_]
              rfl
             refine pu_ (i := 19) (N := some 103) (v := ?_) (a' := ?_) HT_.out rfl rfl (Or.inl ⟨by rfl, ?_⟩) ?_ ?_
             rotate_left
             ·intro w'
              go_simp
              with_reducible rfl
             rotate_left
             ·simp only [sp_]
              rfl
             refine pu_ (i := 20) (N := some 104) (v := ?_) (a' := ?_) HT_.out rfl rfl (Or.inl ⟨by rfl, ?_⟩) ?_ ?_
             rotate_left
             ·intro w'
              go_simp
              with_reducible rfl
             rotate_left
             ·simp only [sp_]
              rfl
             refine pu_ (i := 21) (N := some 105) (v := ?_) (a' := ?_) HT_.out rfl rfl (Or.inl ⟨by rfl, ?_⟩) ?_ ?_
             rotate_left
             ·intro w'
              go_simp
              with_reducible rfl
             rotate_left
             ·simp only [sp_]
              rfl
             refine pu_ (i := 22) (N := some 106) (v := ?_) (a' := ?_) HT_.out rfl rfl (Or.inl ⟨by rfl, ?_⟩) ?_ ?_
             rotate_left
             ·intro w'
              go_simp
              with_reducible rfl
             rotate_left
             ·simp only [sp_]
              rfl
             refine tk_ (i := 23) (N := some 107) (v := ?_) (a' := ?_) HT_.out HW_.out rfl rfl (Or.inl ⟨by rfl, ?_⟩) hHeld ?_ ?_
             rotate_left
             ·rintro w' ⟨s0, s1, s2, s3, s4, s5⟩
              go_simp
              with_reducible rfl
             rotate_left
             ·simp only [sp_]
              rfl
             refine pu_ (i := 24) (N := some 108) (v := ?_) (a' := ?_) HT_.out rfl rfl (Or.inl ⟨by rfl, ?_⟩) ?_ ?_
             rotate_left
             ·intro w'
              go_simp
              with_reducible rfl
             rotate_left
             ·simp only [sp_]
              rfl
             refine pu_ (i := 25) (N := some 109) (v := ?_) (a' := ?_) HT_.out rfl rfl (Or.inl ⟨by rfl, ?_⟩) ?_ ?_
             rotate_left
             ·intro w'
              go_simp
              with_reducible rfl
             rotate_left
             ·simp only [sp_]
              rfl
             refine tk_ (i := 26) (N := some 110) (v := ?_) (a' := ?_) HT_.out HW_.out rfl rfl (Or.inl ⟨by rfl, ?_⟩) hHeld ?_ ?_
             rotate_left
             ·rintro w' ⟨s0, s1, s2, s3, s4, s5⟩
              go_simp
              with_reducible rfl
             rotate_left
             ·simp only [sp_]
              rfl
             refine pu_ (i := 27) (N := some 111) (v := ?_) (a' := ?_) HT_.out rfl rfl (Or.inl ⟨by rfl, ?_⟩) ?_ ?_
             rotate_left
             ·intro w'
              go_simp
              with_reducible rfl
             rotate_left
             ·simp only [sp_]
              rfl
             refine pu_ (i := 28) (N := some 112) (v := ?_) (a' := ?_) HT_.out rfl rfl (Or.inl ⟨by rfl, ?_⟩) ?_ ?_
             rotate_left
             ·intro w'
              go_simp
              with_reducible rfl
             rotate_left
             ·simp only [sp_]
              rfl
             refine pu_ (i := 29) (N := some 113) (v := ?_) (a' := ?_) HT_.out rfl rfl (Or.inl ⟨by rfl, ?_⟩) ?_ ?_
             rotate_left
             ·intro w'
              go_simp
              with_reducible rfl
             rotate_left
             ·simp only [sp_]
              rfl
             refine tk_ (i := 30) (N := some 114) (v := ?_) (a' := ?_) HT_.out HW_.out rfl rfl (Or.inl ⟨by rfl, ?_⟩) hHeld ?_ ?_
             rotate_left
             ·rintro w' ⟨s0, s1, s2, s3, s4, s5⟩
              go_simp
              with_reducible rfl
             rotate_left
             ·simp only [sp_]
              rfl
             refine pu_ (i := 31) (N := some 115) (v := ?_) (a' := ?_) HT_.out rfl rfl (Or.inl ⟨by rfl, ?_⟩) ?_ ?_
             rotate_left
             ·intro w'
              go_simp
              with_reducible rfl
             rotate_left
             ·simp only [sp_]
              rfl
             refine pu_ (i := 32) (N := some 116) (v := ?_) (a' := ?_) HT_.out rfl rfl (Or.inl ⟨by rfl, ?_⟩) ?_ ?_
             rotate_left
             ·intro w'
              go_simp
              with_reducible rfl
             rotate_left
             ·simp only [sp_]
              rfl
             refine tk_ (i := 33) (N := some 117) (v := ?_) (a' := ?_) HT_.out HW_.out rfl rfl (Or.inl ⟨by rfl, ?_⟩) hHeld ?_ ?_
             rotate_left
             ·rintro w' ⟨s0, s1, s2, s3, s4, s5⟩
              go_simp
              with_reducible rfl
             rotate_left
             ·simp only [sp_]
              rfl
             refine pu_ (i := 34) (N := some 118) (v := ?_) (a' := ?_) HT_.out rfl rfl (Or.inl ⟨by rfl, ?_⟩) ?_ ?_
             rotate_left
             ·intro w'
              go_simp
              with_reducible rfl
             rotate_left
             ·simp only [sp_]
              rfl
             refine pu_ (i := 35) (N := some 119) (v := ?_) (a' := ?_) HT_.out rfl rfl (Or.inl ⟨by rfl, ?_⟩) ?_ ?_
             rotate_left
             ·intro w'
              go_simp
              with_reducible rfl
             rotate_left
             ·simp only [sp_]
              rfl
             refine pu_ (i := 36) (N := some 120) (v := ?_) (a' := ?_) HT_.out rfl rfl (Or.inl ⟨by rfl, ?_⟩) ?_ ?_
             rotate_left
             ·intro w'
              go_simp
              with_reducible rfl
             rotate_left
             ·simp only [sp_]
              rfl
             refine pu_ (i := 37) (N := some 121) (v := ?_) (a' := ?_) HT_.out rfl rfl (Or.inl ⟨by rfl, ?_⟩) ?_ ?_
             rotate_left
             ·intro w'
              go_simp
              with_reducible rfl
             rotate_left
             ·simp only [sp_]
              rfl
             refine pu_ (i := 38) (N := some 122) (v := ?_) (a' := ?_) HT_.out rfl rfl (Or.inl ⟨by rfl, ?_⟩) ?_ ?_
             rotate_left
             ·intro w'
              go_simp
              with_reducible rfl
             rotate_left
             ·simp only [sp_]
              rfl
             refine lastS_ (i := 39) (w1 := W9.setCell ⟨gi, j, none⟩ (.int .i64 (wrap64 (Int.tdiv (wrap64 (wrap64 (xij * xkk) - wrap64 (xik * xkj))) last)))) #[true, true, true, true, true, true, true, true, true, true, true, true, true, true, true, true, true, true, true, true, true, true, true, true, true, true, true, true, true, true, true, true, true, true, true, true, true, true, true, true] rfl rfl (one_of HT_.out (by kernel_rfl)) (by decide) (by rfl) ?_ ?_
             ·go_simp
             (try simp only [Act.put, List.setIfInBounds_toArray, List.set_cons_zero, List.set_cons_succ])
             refine done_ (done_of HT_.out (by kernel_rfl)) ?_
             clear HT_ HW_ hHeld c0 c1 c2 c3 c4 c5 zij
             rw [HV.out]
             generalize W9.setCell ⟨gi, j, none⟩ (.int .i64 (X i j)) = Y2 at *
             go_wp2_with (fail)
             go_roundg m5
             case measure => omega
             case rel => exact ⟨j + 1, setM rs4 i j (X i j), by first | rfl | go_num, ⟨by omega, by omega, by have := HJ.out.2.2; omega⟩, HST, HMID, HSET, HBS⟩
            ·have e1 : n = j := by have := HJ.out; omega
             subst e1
             have hj1 : ¬ ((n : Int) < (n : Int)) := by omega
             go_wp2_with (fail)
             go_roundg m3
             case measure => omega
             case rel => exact ⟨i + 1, rs4, by first | rfl | go_num, ⟨by have := HI3.out.1; omega, by omega, by have := HI3.out.2.2; omega⟩, HS4, ⟨fun r c hr hc => by
              rw [HM.out r c hr hc]
              by_cases q : k < r ∧ k < c ∧ (r < i ∨ r = i ∧ c < n)
              ·rw [if_pos q, if_pos (by omega)]
              ·rw [if_neg q, if_neg (by omega)]⟩, HR, HB⟩
          ·have e1 : n = i := by have := HI3.out; omega
           subst e1
           have hi1 : ¬ ((n : Int) < (n : Int)) := by omega
           obtain ⟨_, _, gk, ck_, c1, _, _, hck, _⟩ := cells_of HR.out HS3.out hkn
           have c3 := (hck k hkn).1
           have f2 := HM.out k k hkn hkn
           rw [if_neg (by omega)] at f2
           rw [f2] at c3
           clear hck f2
           have HEL3 := Aside0.mk (HE.out (matF rs3) fun r c h1 h2 h3 h4 => by rw [HM.out r c h2 h4, if_pos ⟨h1, h3, .inl h2⟩])
           generalize hxk : matF rs2 k k = xkk at *
           go_wp2_with (fail)
           go_roundg m
           case measure => omega
           case rel => exact ⟨k + 1, s2, xkk, rs3, O2, rfl, rfl, by first | rfl | go_num, ⟨by have := HI.out; omega⟩, HS3, HEL3, HR, HB⟩
      ·have e1 : n = p := by have := HP.out; omega
       subst e1
       have hp1 : ¬ ((n : Int) < (n : Int)) := by omega
       have hpe2 : ((n : Int) == (n : Int)) = true := beq_self_eq_true _
       have HD0 := Aside0.mk (inv_none HEL.out hkn fun i h1 h2 => HP.out.2.2.2 i h1 h2)
       go_wp2_with (fail)
       go_ret
       exact ⟨by rw [HD0.out]; rfl, HB.out⟩
  | succ m =>
   have hin : i < n := by have := HI.out; omega
   have hi : (i : Int) < (n : Int) := by omega
   obtain ⟨ad, A0, c0, rfl, hx, hl0, hi0⟩ := at_L1 HC.out (i : Int) (by omega) (by omega)
   rw [Int.toNat_natCast] at hx
   replace hx := (HB.out.cell (World.block_lt_of_cell? w _ hx)).trans hx
   have hlen : (rd_L1 rows (i : Int)).length = n := (HSQ.out.at hin).2
   obtain ⟨ri, HRI⟩ : ∃ ri, Aside0 (rd_L1 rows (i : Int) = ri) := ⟨_, ⟨rfl⟩⟩
   rw [HRI.out] at hx hlen hl0 hi0
   have HRr : Aside0 (ListC wr (.slice A0 ri.length c0) ri) := ⟨⟨A0, c0, rfl, hl0, Kd.C_below hi0 HB.out⟩⟩
   rw [hlen] at hx HRr
   obtain ⟨L, hown1, hL1⟩ := HR.out
   have HO1 := Aside0.mk hown1
   have HL1 := Aside0.mk hL1
   have hLn : L.length = i := by have := own_len hown1; have := HLN.out; simp at *; omega
   have hwr := HB.out.size
   clear hown1 hL1 hl0 hi0
   go_wp2_with (first | (go_at_call 114; refine (clone_c ri _ _ HRr.out (by omega)).mono ?_; rintro e w5 ⟨v5, rfl, hB5, hD5⟩; obtain ⟨A9, c9, hv5, _⟩ := hD5.out.reads; rw [hlen] at hv5; subst hv5; have HB5 := Aside0.mk hB5; have hsz5 := hB5.size; have HO5 := Aside0.mk (own_move HO1.out fun k hk => hB5.block k (own_lt HO1.out k hk)); have HBel := Aside0.mk (HB.out.trans (hB5.mono hwr)); clear hB5) | (at_builtin; go_loud (refine print_append (w0 := w) w.heap.size rfl (.tmp 22) (.tmp 25) 22 37 (.slice none 0 0) 24 rfl Try.underlying22 info37 rfl (by decide) (.slice A6 i c6) L (.slice A9 n c9) rfl rfl (oneCell_own hD5.out) (by rw [hLn]; have := HO5.out; simp only [List.length_take] at this; rw [Nat.min_eq_left (by have := HLN.out; omega)] at this; exact this) HBel.out (by omega) (by rw [hLn]; omega) ?_; intro v9 w9 hown hbel hg hat; have HRW := Aside0.mk (rowsD_more HO1.out HL1.out hwr HB5.out hD5.out hown hg); obtain ⟨A10, c10, hv9, _⟩ := HRW.out.slice; rw [show (rows.take i ++ [ri]).length = i + 1 by have := HLN.out; simp; omega] at hv9; subst hv9; have HBW := Aside0.mk hbel; clear hown hbel hg hat)))
   have htk : rows.take i ++ [ri] = rows.take (i + 1) := by
    rw [List.take_succ_eq_append_getElem (by have := HLN.out; omega)]
    exact congrArg (fun x => rows.take i ++ [x]) (HRI.out.symm.trans (HSQ.out.at hin).1)
   rw [htk] at HRW
   go_roundg m
   case measure => omega
   case rel => exact ⟨i + 1, A10, c10, by first | rfl | go_num, rfl, ⟨by have := HI.out; omega⟩, HRW, HBW⟩
end Go.Proofs.Ytnbnalbomflafaa.DT
namespace Go.Proofs.Ytnbnalbomflafaa.DT
open Go.RowKit YtnbnalbomflafaaW.PrintWords
open RA
def innerT (a b : Int) (i : Nat) : List Int := ((List.range i).map fun (j : Nat) => (j : Int)).filter fun p => decide (p ≠ a ∧ p ≠ b)
def innerL (l : List (List Int)) (a b : Int) : List Int := innerT a b l.length
def cntL (q : Int) (r : List Int) : Nat := (r.filter fun x => decide (x = q)).length
def elM (l : List (List Int)) (p q : Int) : Int := (if q = p then ((GA.rd_L1 l p).length : Int) else 0) - (cntL q (GA.rd_L1 l p) : Int)
def rowM (l : List (List Int)) (pl : List Int) (p : Int) : List Int := pl.map (elM l p)
def matM (l : List (List Int)) (a b : Int) : List (List Int) := (innerL l a b).map (rowM l (innerL l a b))
theorem innerT_succ_in {a b : Int} {i : Nat} (h : (i : Int) ≠ a ∧ (i : Int) ≠ b) : innerT a b (i + 1) = innerT a b i ++ [(i : Int)] := by
 unfold innerT
 rw [List.range_succ, List.map_append, List.filter_append]
 simp [h]
theorem innerT_succ_out {a b : Int} {i : Nat} (h : ¬ ((i : Int) ≠ a ∧ (i : Int) ≠ b)) : innerT a b (i + 1) = innerT a b i := by
 unfold innerT
 rw [List.range_succ, List.map_append, List.filter_append]
 have e : List.filter (fun p => decide (p ≠ a ∧ p ≠ b)) (List.map (fun (j : Nat) => (j : Int)) [i]) = [] := by
  simp only [List.map_cons, List.map_nil, List.filter_cons, List.filter_nil]
  rw [if_neg (by simpa using h)]
 rw [e, List.append_nil]
theorem innerT_len (a b : Int) (i : Nat) : (innerT a b i).length ≤ i := by
 unfold innerT
 exact Nat.le_trans (List.length_filter_le _ _) (by simp)
theorem inner_mem {l : List (List Int)} {a b p : Int} (h : p ∈ innerL l a b) : 0 ≤ p ∧ p < l.length ∧ p ≠ a ∧ p ≠ b := by
 unfold innerL innerT at h
 rw [List.mem_filter, List.mem_map] at h
 obtain ⟨⟨j, hj, rfl⟩, h2⟩ := h
 simp at hj h2
 exact ⟨by omega, by omega, h2.1, h2.2⟩
theorem mem_inner {l : List (List Int)} {a b p : Int} (h0 : 0 ≤ p) (h1 : p < l.length) (ha : p ≠ a) (hb : p ≠ b) : p ∈ innerL l a b := by
 unfold innerL innerT
 rw [List.mem_filter, List.mem_map]
 exact ⟨⟨p.toNat, by simp; omega, by omega⟩, by simp [ha, hb]⟩
theorem inner_nodup (l : List (List Int)) (a b : Int) : (innerL l a b).Nodup := by
 unfold innerL innerT
 refine List.Pairwise.filter _ ?_
 refine List.Pairwise.map _ (fun x y h => ?_) (List.nodup_range (n := l.length))
 intro c
 exact h (by omega)
theorem cntL_step {q : Int} {r : List Int} {i : Nat} (h : i < r.length) : cntL q (r.take (i + 1)) = cntL q (r.take i) + if r[i] = q then 1 else 0 := by
 unfold cntL
 rw [List.take_succ_eq_append_getElem h, List.filter_append, List.length_append]
 congr 1
 by_cases h2 : r[i] = q
 ·rw [if_pos h2]; simp [h2]
 ·rw [if_neg h2]; simp [h2]
theorem cntL_le (q : Int) (r : List Int) : cntL q r ≤ r.length := List.length_filter_le _ _
def RowJ (l : List (List Int)) (pl : List Int) (p : Int) (j : Nat) (v : Int) (r : List Int) : Prop := r.length = pl.length ∧ ∀ c : Nat, c < pl.length → rd r (c : Int) = if c < j then elM l p (rd pl (c : Int)) else if c = j then v else 0
theorem rowJ_start (l : List (List Int)) (pl : List Int) (p : Int) : RowJ l pl p 0 0 (List.replicate pl.length 0) := by
 refine ⟨by simp, fun c hc => ?_⟩
 rw [rd_at _ c (by simpa using hc), if_neg (by omega)]
 simp
theorem rowJ_next {l : List (List Int)} {pl : List Int} {p : Int} {j : Nat} {r : List Int} (h : RowJ l pl p j (elM l p (rd pl (j : Int))) r) : RowJ l pl p (j + 1) 0 r := by
 refine ⟨h.1, fun c hc => ?_⟩
 rw [h.2 c hc]
 by_cases h1 : c < j
 ·rw [if_pos h1, if_pos (by omega)]
 ·rw [if_neg h1]
  by_cases h2 : c = j
  ·rw [if_pos h2, if_pos (by omega), h2]
  ·rw [if_neg h2, if_neg (by omega)]
   split <;> rfl
theorem rowJ_set {l : List (List Int)} {pl : List Int} {p v : Int} {j : Nat} {r : List Int} (h : RowJ l pl p j v r) (hj : j < pl.length) (x : Int) : RowJ l pl p j x (r.set j x) := by
 have hl := h.1
 refine ⟨by rw [List.length_set]; exact hl, fun c hc => ?_⟩
 rw [rd_at _ c (by rw [List.length_set]; omega)]
 by_cases h2 : c = j
 ·subst h2
  rw [if_neg (by omega), if_pos rfl, List.getElem_set_self]
 ·have e := h.2 c hc
  rw [if_neg h2] at e
  rw [List.getElem_set_ne (fun q => h2 q.symm), if_neg h2, ← e, rd_at _ c (by omega)]
theorem rowJ_end {l : List (List Int)} {pl : List Int} {p v : Int} {r : List Int} (h : RowJ l pl p pl.length v r) : r = rowM l pl p := by
 unfold rowM
 have hl := h.1
 refine List.ext_getElem (by simp [hl]) fun c h1 h2 => ?_
 have e := h.2 c (by omega)
 rw [if_pos (by omega), rd_at _ c h1, rd_at _ c (by omega)] at e
 rw [e]
 simp
theorem list_cells {w : World} {N g cap n : Nat} {r : List Int} (h : ListD w N (.slice (some ⟨g, 0, none⟩) n cap) r) (hn : n = r.length) : N ≤ g ∧ (∀ j, j < n → w.cell? ⟨g, j, none⟩ = some (.int .i64 (rd r (j : Int))) ∧ w.frozen? ⟨g, j, none⟩ = false) ∧ ∀ j x, ListD (w.setCell ⟨g, j, none⟩ (.int .i64 x)) N (.slice (some ⟨g, 0, none⟩) n cap) (r.set j x) := by
 rcases h.2 with ⟨h1, _⟩ | ⟨g2, cap2, cur, e, hb, hh, h3, h4, h5, h6⟩
 ·cases h1
 injection e with e1 e2 e3
 injection e1 with e1
 injection e1 with e1
 subst e1
 refine ⟨hb, fun j hj => ⟨(blk_cell hh j).trans ?_, kF_ hh j⟩, fun j x => ?_⟩
 ·have hj2 : j < r.length := by omega
  have h7 := congrArg (fun x : List Value => x[j]?) h6
  simp only [encI, List.getElem?_map, List.getElem?_eq_getElem hj2, Option.map_some] at h7
  rw [Nat.mul_one, List.getElem?_take_of_lt hj2, Array.getElem?_toList] at h7
  rw [h7, rd_at r j hj2]
 ·subst hn
  have := (own_store h (j : Int) x).1
  rw [Int.toNat_natCast] at this
  show World.ownsRow _ N 3 1 _ (r.set j x).length _
  rw [List.length_set]
  exact this
theorem made_D (w : World) (N m : Nat) (hN : N ≤ w.heap.size) (hm : m ≤ 100000) : ListD (w.alloc (.cells (madeCells #[.int .i64 0] m) 3)) N (.slice (some ⟨w.heap.size, 0, none⟩) m m) (List.replicate m 0) := by
 have h : (madeCells #[.int .i64 0] m).toList = encI (List.replicate m 0) := by
  have := KA.filled_made 0 m
  rw [this]
  simp [KA.filled, encI]
 refine ⟨by simp, .inr ⟨w.heap.size, m, madeCells #[.int .i64 0] m, by simp, hN, blk_new w _, by simp, by unfold maxLen; omega, ?_, ?_⟩⟩
 ·have := congrArg List.length h
  simp at this
  simp [this]
 ·rw [h]
  simp
end Go.Proofs.Ytnbnalbomflafaa.DT
namespace Go.Proofs.Ytnbnalbomflafaa.DT
open Go.RowKit YtnbnalbomflafaaW.PrintWords YtnbnalbomflafaaW.PrintLast YtnbnalbomflafaaW.PrintMore
open GA hiding info37
open RA
def MT17 : Bool × List (List Nat × List Nat) := (true, [([], []), ([], []), ([0, 1], [0, 1]), ([2], [2]), ([], []), ([4], [4]), ([], []), ([5, 6], [5, 6]), ([7], [7]), ([8], [8]), ([3, 9], [3, 9]), ([0, 1, 0, 1, 2, 3, 4, 5, 6, 7, 8, 9, 10], [0, 1]), ([11, 10, 0, 1, 2, 3, 4, 5, 6, 7, 8, 9, 10], [10, 11])])
def MB17 : List Nat := [0, 0, 3, 7, 0, 16, 0, 112, 240, 496, 1023, 2047, 4095]
theorem mtab17 : rtab .any (opsOf Try.f88 17) = MT17 := by kernel_rfl
theorem mbits17 : waitsOk MT17.2 MB17 = true := by kernel_rfl
theorem make_run (W : World) (m : Nat) (hm : m ≤ 100000) : (Instr.makeSlice 37 (.int .i64 (m : Int)) (.int .i64 (m : Int))).run Try.prog W = .ok (.slice (some ⟨W.heap.size, 0, none⟩) m m) (W.alloc (.cells (madeCells #[.int .i64 0] m) 3)) := by
 obtain ⟨i0, hi, hzz⟩ := Option.map_eq_some_iff.1 GA.info3
 simp only [Prod.mk.injEq] at hzz
 obtain ⟨hz0, hz1, hz2⟩ := hzz
 have hr := run_make (P := Try.prog) W 37 3 i0 (.int .i64 0) Try.underlying37 hi hz0 .i64 .i64 (m : Int) (m : Int) (by omega) (by omega) (by rw [hz2]; omega) (by omega)
 simp only [Int.toNat_natCast] at hr
 rw [hz1, Nat.mul_one] at hr
 exact hr
theorem rowI_reads_C {w : World} {N n c : Nat} {A : Option Addr} {r : List Int} (h : ListD w N (.slice A n c) r) : Kd.C (Kd.int .i64) w A n r := by
 obtain ⟨A2, c2, e, _, h2⟩ := h.reads
 injection e with e1 e2 _
 rw [e1, e2]
 exact h2
def MatOut (w : World) (l : List (List Int)) (a b : Int) (e : Ending) (w' : World) : Prop := ∃ v1 v2, e = .returned (.tuple #[v1, v2]) ∧ Below w.heap.size w w' ∧ Aside0 (ListD w' w.heap.size v1 (innerL l a b)) ∧ Aside0 (∃ B, w.heap.size ≤ B ∧ RowsD w' B v2 (matM l a b) ∧ ∀ k, v1.ownBlock = some k → k < B)
set_option maxHeartbeats 8000000 in
set_option maxRecDepth 100000 in
theorem hiMatrix_c (l : List (List Int)) (a b : Int) (hl8 : l.length ≤ 8) (h5 : ∀ v : Int, 0 ≤ v → v < l.length → (rd_L1 l v).length ≤ 5) (w : World) (v : Value) (hv : RowsC w v l) : Calls Try.prog 88 #[.agg #[v], .int .i64 a, .int .i64 b] w (MatOut w l a b) := by
 obtain ⟨A, c, rfl, hc, hC⟩ := hv
 have HB1 : Below w.heap.size w (w.alloc (.cells #[.slice A l.length c] 30)) := (Below.refl _ _).alloc (Nat.le_refl _) _
 have HC := Aside0.mk (Kd.C_below hC HB1)
 have HX := Aside0.mk (show (w.alloc (.cells #[.slice A l.length c] 30)).cell? ⟨w.heap.size, 0, none⟩ = some (.slice A l.length c) from (blk_cell (blk_new _ _) 0).trans rfl)
 have hsz : w.heap.size < (w.alloc (.cells #[.slice A l.length c] 30)).heap.size := by simp
 have HBW := Aside0.mk HB1
 have H5 := Aside0.mk h5
 have hx0 := HX.out
 clear hC hc HB1 h5
 go_enter Try.func88, Try.ntmps88
 go_upto_region 1 with (fail)
 generalize hW1 : w.alloc (.cells #[.slice A l.length c] 30) = W1 at *
 clear hW1
 have HR : Aside0 (Below W1.heap.size W1 W1) := ⟨Below.refl _ _⟩
 go_wp2_with (fail)
 go_loopg [8, 21] l.length (fun kq v8 v21 wr => ∃ (i : Nat) (A8 : Option Addr) (c8 : Nat), v21 = .int .i64 (i : Int) ∧ v8 = .slice A8 (innerT a b i).length c8 ∧ Aside0 (i + kq = l.length) ∧ Aside0 (ListD wr W1.heap.size (.slice A8 (innerT a b i).length c8) (innerT a b i)) ∧ Aside0 (Below W1.heap.size W1 wr))
 case atStart => exact ⟨0, none, 0, rfl, rfl, ⟨by omega⟩, ⟨own_nil _ _ _ _⟩, HR⟩
 case round =>
  clear HR
  obtain ⟨i, A8, c8, rfl, rfl, HI, HL, HB⟩ := hrel
  cases gk with
  | zero =>
   have e0 : i = l.length := by have := HI.out; omega
   have hi : ¬ ((l.length : Int) < (l.length : Int)) := by omega
   subst e0
   obtain ⟨W2, hW2⟩ : ∃ W, W = wr := ⟨wr, rfl⟩
   subst hW2
   have hi2 : innerT a b l.length = innerL l a b := rfl
   have hm8 := innerT_len a b l.length
   rw [hi2] at HL hm8 ⊢
   have HLC := Aside0.mk (Kd.C_below (rowI_reads_C HL.out) (Below.refl _ _))
   have HMEM := Aside0.mk (fun p => inner_mem (l := l) (a := a) (b := b) (p := p))
   have hMat : matM l a b = (innerL l a b).map (rowM l (innerL l a b)) := rfl
   have HMAT := Aside0.mk hMat
   clear hMat hi2 HI
   obtain ⟨pl, HPLE⟩ : ∃ pl, Aside0 (innerL l a b = pl) := ⟨_, ⟨rfl⟩⟩
   rw [HPLE.out] at HL HLC HMEM HMAT hm8 ⊢
   obtain ⟨m, hm⟩ : ∃ m, m = pl.length := ⟨_, rfl⟩
   rw [← hm] at HL HLC hm8 ⊢
   have HM := Aside0.mk hm
   clear hm
   have HR2 : Aside0 (Below W2.heap.size W2 W2) := ⟨Below.refl _ _⟩
   go_wp2_with (fail)
   go_loopg [10, 39] m (fun kq v10 v39 wq => ∃ (i : Nat) (A10 : Option Addr) (c10 : Nat), v39 = .int .i64 (i : Int) ∧ v10 = .slice A10 i c10 ∧ Aside0 (i + kq = m) ∧ Aside0 (RowsD wq W2.heap.size (.slice A10 i c10) ((pl.take i).map (rowM l pl))) ∧ Aside0 (Below W2.heap.size W2 wq))
   case atStart => exact ⟨0, none, 0, rfl, rfl, ⟨by omega⟩, ⟨RowsD.nil _ _⟩, HR2⟩
   case round =>
    clear HR2
    obtain ⟨i, A10, c10, rfl, rfl, HI, HRW, HB2⟩ := hrel
    cases gk with
    | zero =>
     have e1 : m = i := by have := HI.out; omega
     subst e1
     have hi : ¬ ((m : Int) < (m : Int)) := by omega
     go_wp2_with (fail)
     refine bodyPost_ret (v := .tuple #[.slice A8 m c8, .slice A10 m c10]) (by simp [results, Try.results88, go_sem]) rfl ?_
     have hrw := HRW.out
     rw [List.take_of_length_le (by have := HM.out; omega), ← HMAT.out] at hrw
     have s1 := HBW.out.size
     have s2 := HB.out.size
     refine ⟨_, _, rfl, (HBW.out.trans (HB.out.mono s1)).trans (HB2.out.mono (by omega)), ⟨by rw [HPLE.out]; exact ListD.lower' (own_move HL.out fun k hk => HB2.out.block k (own_lt HL.out k hk)) s1⟩, ⟨W2.heap.size, by omega, hrw, fun k hk => own_lt HL.out k hk⟩⟩
    | succ m1 =>
     have him : i < m := by have := HI.out; omega
     have hi : (i : Int) < (m : Int) := by omega
     obtain ⟨adp, rfl, hp0⟩ := Kd.at_int HLC.out (i : Int) (by omega) (by omega)
     rw [Int.toNat_natCast] at hp0
     have hpi := HMEM.out (rd pl (i : Int)) (by rw [rd_at pl i (by have := HM.out; omega)]; exact List.getElem_mem _)
     obtain ⟨pi, HPI⟩ : ∃ pi, Aside0 (rd pl (i : Int) = pi) := ⟨_, ⟨rfl⟩⟩
     rw [HPI.out] at hp0 hpi
     obtain ⟨hpi0, hpi1, _, _⟩ := hpi
     obtain ⟨ad, A0, c0, rfl, hx, hl0, hi0⟩ := at_L1 HC.out pi hpi0 hpi1
     have hdg := H5.out pi hpi0 hpi1
     obtain ⟨dg, HDG⟩ : ∃ dg, Aside0 (dg = (rd_L1 l pi).length) := ⟨_, ⟨rfl⟩⟩
     rw [← HDG.out] at hx hl0 hi0 hdg
     have HEX := Aside0.mk hi0
     replace hp0 : wr.cell? (adp.add i) = _ := (HB2.out.cell (World.block_lt_of_cell? W2 _ hp0)).trans hp0
     have HXC := Aside0.mk hx
     have s2 := HB.out.size
     have HB12 : Aside0 (Below W1.heap.size W1 wr) := ⟨HB.out.trans (HB2.out.mono s2)⟩
     have HBx : Aside0 (wr.cell? ⟨w.heap.size, 0, none⟩ = some (.slice (some ad) l.length c)) := ⟨(HB12.out.cell (p := ⟨w.heap.size, 0, none⟩) hsz).trans HX.out⟩
     have HXr : Aside0 (wr.cell? (ad.add pi.toNat) = some (.slice A0 dg c0)) := ⟨(HB12.out.cell (World.block_lt_of_cell? W1 _ hx)).trans hx⟩
     have HPLr : Aside0 (Kd.C (Kd.int .i64) wr (some adp) m pl) := ⟨Kd.C_below HLC.out HB2.out⟩
     have HEXr : Aside0 (Kd.C (Kd.int .i64) wr A0 dg (rd_L1 l pi)) := ⟨Kd.C_below HEX.out HB12.out⟩
     clear hi0 hl0 hx hx0
     have hsW := HB2.out.size
     obtain ⟨W3, hW3⟩ : ∃ W, W = wr := ⟨wr, rfl⟩
     subst hW3
     have HMK := Aside0.mk (made_D W3 W3.heap.size m (Nat.le_refl _) (by omega))
     have HBM : Aside0 (Below W3.heap.size W3 (W3.alloc (.cells (madeCells #[.int .i64 0] m) 3))) := ⟨(Below.refl _ _).alloc (Nat.le_refl _) _⟩
     have HJ0 : Aside0 (RowJ l pl pi 0 0 (List.replicate m 0)) := ⟨by rw [HM.out]; exact rowJ_start l pl pi⟩
     have hmk := make_run W3 m (by omega)
     go_wp2_with (fail)
     clear hmk
     go_loopg [48] m (fun kq v48 wq => ∃ (j : Nat) (r : List Int), v48 = .int .i64 (j : Int) ∧ Aside0 (j + kq = m) ∧ Aside0 (RowJ l pl pi j 0 r) ∧ Aside0 (ListD wq W3.heap.size (.slice (some ⟨W3.heap.size, 0, none⟩) m m) r) ∧ Aside0 (Below W3.heap.size W3 wq))
     case atStart => exact ⟨0, _, rfl, ⟨by omega⟩, HJ0, HMK, HBM⟩
     case round =>
      clear HMK HBM HJ0
      obtain ⟨j, r, rfl, HJI, HJ, HLR, HB3⟩ := hrel
      cases gk with
      | zero =>
       have e1 : m = j := by have := HJI.out; omega
       subst e1
       have hj : ¬ ((m : Int) < (m : Int)) := by omega
       have HRE := Aside0.mk (rowJ_end (by rw [← HM.out]; exact HJ.out))
       obtain ⟨L, hown1, hL1⟩ := HRW.out
       have HO1 := Aside0.mk hown1
       have HL1 := Aside0.mk hL1
       have hLn : L.length = i := by have := own_len hown1; have := HM.out; simp at *; omega
       have HO5 := Aside0.mk (own_move HO1.out fun k hk => HB3.out.block k (own_lt HO1.out k hk))
       have HBel := Aside0.mk (HB2.out.trans (HB3.out.mono hsW))
       have hs3 := HB3.out.size
       clear hown1 hL1
       go_wp2_with (at_builtin; go_loud (refine print_append (w0 := W2) W2.heap.size rfl (.tmp 89) (.tmp 91) 22 37 (.slice none 0 0) 24 rfl Try.underlying22 GA.info37 rfl (by decide) (.slice A10 i c10) L (.slice (some ⟨W3.heap.size, 0, none⟩) m m) rfl rfl rfl (by have := HO5.out; simp only [List.length_map, List.length_take] at this; rw [hLn]; rw [Nat.min_eq_left (by have := HM.out; omega)] at this; exact this) HBel.out (by omega) (by rw [hLn]; omega) ?_; intro v9 w9 hown hbel hg hat; have HRN := Aside0.mk (rowsD_more HO1.out HL1.out hsW HB3.out HLR.out hown hg); obtain ⟨A11, c11, hv9, _⟩ := HRN.out.slice; rw [show ((pl.take i).map (rowM l pl) ++ [r]).length = i + 1 by have := HM.out; simp; omega] at hv9; subst hv9; have HBN := Aside0.mk hbel; clear hown hbel hg hat))
       have htk : (pl.take i).map (rowM l pl) ++ [r] = (pl.take (i + 1)).map (rowM l pl) := by
        have hil : i < pl.length := by have := HM.out; omega
        have e : pl[i] = pi := by rw [← HPI.out, rd_at pl i hil]
        rw [List.take_succ_eq_append_getElem hil, List.map_append, HRE.out, List.map_cons, List.map_nil, e]
       rw [htk] at HRN
       go_roundg m1
       case measure => omega
       case rel => exact ⟨i + 1, A11, c11, by first | rfl | go_num, rfl, ⟨by have := HI.out; omega⟩, HRN, HBN⟩
      | succ m2 =>
       have hjm : j < m := by have := HJI.out; omega
       have hj : (j : Int) < (m : Int) := by omega
       obtain ⟨adq, hadq, hq0⟩ := Kd.at_int HPLr.out (j : Int) (by omega) (by omega)
       injection hadq with hadq
       subst hadq
       rw [Int.toNat_natCast] at hq0
       obtain ⟨q, HQ⟩ : ∃ q, Aside0 (rd pl (j : Int) = q) := ⟨_, ⟨rfl⟩⟩
       rw [HQ.out] at hq0
       replace hq0 : wr.cell? (adp.add j) = _ := (HB3.out.cell (World.block_lt_of_cell? W3 _ hq0)).trans hq0
       have hxr : wr.cell? (ad.add pi.toNat) = _ := (HB3.out.cell (World.block_lt_of_cell? W3 _ HXr.out)).trans HXr.out
       have hbr : wr.cell? ⟨w.heap.size, 0, none⟩ = _ := (HB3.out.cell (World.block_lt_of_cell? W3 _ HBx.out)).trans HBx.out
       go_upto_if 55 with (fail)
       go_cut [17] (fun v17 wc => ∃ (r2 : List Int), Aside0 (RowJ l pl pi j (if q = pi then (dg : Int) else 0) r2) ∧ Aside0 (ListD wc W3.heap.size (.slice (some ⟨W3.heap.size, 0, none⟩) m m) r2) ∧ Aside0 (Below W3.heap.size W3 wc))
       case first =>
        have hrl := HJ.out.1
        obtain ⟨_, hcell, hset⟩ := list_cells HLR.out (by have := HM.out; omega)
        by_cases hqp : q = pi
        ·have q1 : (q == pi) = true := beq_iff_eq.mpr hqp
         have q2 : (q != pi) = false := bne_eq_false_iff_eq.mpr hqp
         have x0 := (hcell j hjm).1
         have y0 := (hcell j hjm).2
         have hz := HJ.out.2 j (by have := HM.out; omega)
         rw [if_neg (by omega), if_pos rfl] at hz
         have HS1 := Aside0.mk (hset j (dg : Int))
         have HJ1 : Aside0 (RowJ l pl pi j (if q = pi then (dg : Int) else 0) (r.set j (dg : Int))) := ⟨by rw [if_pos hqp]; exact rowJ_set HJ.out (by have := HM.out; omega) _⟩
         have HVV : Aside0 (wrap64 (rd r (j : Int) + (dg : Int)) = (dg : Int)) := ⟨by rw [hz, wrap_id (by omega) (by omega)]; omega⟩
         clear hz hcell hset hqp
         generalize rd r (j : Int) = rv at *
         go_upto_region 17 with (fail)
         replace x0 : wr.drew.cell? ⟨W3.heap.size, j, none⟩ = some (.int .i64 rv) := x0
         have x1 : wr.drew.cell? ⟨w.heap.size, 0, none⟩ = some (.slice (some ad) l.length c) := hbr
         have x2 : wr.drew.cell? (ad.add pi.toNat) = some (.slice A0 dg c0) := hxr
         replace y0 : wr.drew.frozen? ⟨W3.heap.size, j, none⟩ = false := y0
         replace HS1 : Aside0 (ListD (wr.drew.setCell ⟨W3.heap.size, j, none⟩ (.int .i64 (dg : Int))) W3.heap.size (.slice (some ⟨W3.heap.size, 0, none⟩) m m) (r.set j (dg : Int))) := ⟨own_move HS1.out fun k hk => rfl⟩
         have HBS : Aside0 (Below W3.heap.size W3 (wr.drew.setCell ⟨W3.heap.size, j, none⟩ (.int .i64 (dg : Int)))) := ⟨(bN_ HB3.out 1).setCell (p := ⟨W3.heap.size, j, none⟩) (Nat.le_refl _) _⟩
         clear hbr hxr hq0 HLR HB3 HJ
         refine start_ (n := 13) (S := fun w' => w'.cell? ⟨W3.heap.size, j, none⟩ = some (.int .i64 rv) ∧ w'.cell? ⟨w.heap.size, 0, none⟩ = some (.slice (some ad) l.length c) ∧ w'.cell? (ad.add pi.toNat) = some (.slice A0 dg c0)) (ds := [12]) #[false, false, false, false, false, false, false, false, false, false, false, false, false] (by kernel_rfl) rfl rfl ⟨x0, x1, x2⟩ (fun hHeld => ?_)
         refine with_tabW mtab17 mbits17 (fun HT_ HW_ => ?_)
         generalize wr.drew = W9 at *
         refine pu_ (i := 0) (N := some 56) (v := ?_) (a' := ?_) HT_.out rfl rfl (Or.inl ⟨by rfl, ?_⟩) ?_ ?_
         rotate_left
         ·intro w'
          go_simp
          with_reducible rfl
         rotate_left
         ·simp only [sp_]
          rfl
         refine pu_ (i := 1) (N := some 57) (v := ?_) (a' := ?_) HT_.out rfl rfl (Or.inl ⟨by rfl, ?_⟩) ?_ ?_
         rotate_left
         ·intro w'
          go_simp
          with_reducible rfl
         rotate_left
         ·simp only [sp_]
          rfl
         refine pu_ (i := 2) (N := some 58) (v := ?_) (a' := ?_) HT_.out rfl rfl (Or.inl ⟨by rfl, ?_⟩) ?_ ?_
         rotate_left
         ·intro w'
          go_simp
          with_reducible rfl
         rotate_left
         ·simp only [sp_]
          rfl
         refine tk_ (i := 3) (N := some 59) (v := ?_) (a' := ?_) HT_.out HW_.out rfl rfl (Or.inl ⟨by rfl, ?_⟩) hHeld ?_ ?_
         rotate_left
         ·rintro w' ⟨s0, s1, s2⟩
          go_simp
          with_reducible rfl
         rotate_left
         ·simp only [sp_]
          rfl
         refine pu_ (i := 4) (N := some 60) (v := ?_) (a' := ?_) HT_.out rfl rfl (Or.inl ⟨by rfl, ?_⟩) ?_ ?_
         rotate_left
         ·intro w'
          go_simp
          with_reducible rfl
         rotate_left
         ·simp only [sp_]
          rfl
         refine tk_ (i := 5) (N := some 61) (v := ?_) (a' := ?_) HT_.out HW_.out rfl rfl (Or.inl ⟨by rfl, ?_⟩) hHeld ?_ ?_
         rotate_left
         ·rintro w' ⟨s0, s1, s2⟩
          go_simp
          with_reducible rfl
         rotate_left
         ·simp only [sp_]
          rfl
         refine pu_ (i := 6) (N := some 62) (v := ?_) (a' := ?_) HT_.out rfl rfl (Or.inl ⟨by rfl, ?_⟩) ?_ ?_
         rotate_left
         ·intro w'
          go_simp
          with_reducible rfl
         rotate_left
         ·simp only [sp_]
          rfl
         refine pu_ (i := 7) (N := some 63) (v := ?_) (a' := ?_) HT_.out rfl rfl (Or.inl ⟨by rfl, ?_⟩) ?_ ?_
         rotate_left
         ·intro w'
          go_simp
          with_reducible rfl
         rotate_left
         ·simp only [sp_]
          rfl
         refine tk_ (i := 8) (N := some 64) (v := ?_) (a' := ?_) HT_.out HW_.out rfl rfl (Or.inl ⟨by rfl, ?_⟩) hHeld ?_ ?_
         rotate_left
         ·rintro w' ⟨s0, s1, s2⟩
          go_simp
          with_reducible rfl
         rotate_left
         ·simp only [sp_]
          rfl
         refine pu_ (i := 9) (N := some 65) (v := ?_) (a' := ?_) HT_.out rfl rfl (Or.inl ⟨by rfl, ?_⟩) ?_ ?_
         rotate_left
         ·intro w'
          go_simp
          with_reducible rfl
         rotate_left
         ·simp only [sp_]
          rfl
         refine pu_ (i := 10) (N := some 66) (v := ?_) (a' := ?_) HT_.out rfl rfl (Or.inl ⟨by rfl, ?_⟩) ?_ ?_
         rotate_left
         ·intro w'
          go_simp
          with_reducible rfl
         rotate_left
         ·simp only [sp_]
          rfl
         refine pu_ (i := 11) (N := some 67) (v := ?_) (a' := ?_) HT_.out rfl rfl (Or.inl ⟨by rfl, ?_⟩) ?_ ?_
         rotate_left
         ·intro w'
          go_simp
          with_reducible rfl
         rotate_left
         ·simp only [sp_]
          rfl
         refine lastS_ (i := 12) (w1 := W9.setCell ⟨W3.heap.size, j, none⟩ (.int .i64 (wrap64 (rv + (dg : Int))))) #[true, true, true, true, true, true, true, true, true, true, true, true, true] rfl rfl (one_of HT_.out (by kernel_rfl)) (by decide) (by rfl) ?_ ?_
         ·go_simp
         (try simp only [Act.put, List.setIfInBounds_toArray, List.set_cons_zero, List.set_cons_succ])
         refine done_ (done_of HT_.out (by kernel_rfl)) ?_
         clear HT_ HW_ hHeld x0 x1 x2 y0
         rw [HVV.out]
         generalize W9.setCell ⟨W3.heap.size, j, none⟩ (.int .i64 (dg : Int)) = Y2 at *
         go_wp2_with (fail)
         go_meet
         case rel => exact ⟨r.set j (dg : Int), HJ1, HS1, HBS⟩
        ·have q1 : (q == pi) = false := beq_eq_false_iff_ne.mpr hqp
         have q2 : (q != pi) = true := bne_iff_ne.mpr hqp
         have HJ1 : Aside0 (RowJ l pl pi j (if q = pi then (dg : Int) else 0) r) := ⟨by rw [if_neg hqp]; exact HJ.out⟩
         clear hqp
         go_wp2_with (fail)
         go_meet
         case rel => exact ⟨r, HJ1, HLR, HB3⟩
       case rest =>
        clear HJ HLR HB3 hq0 hxr hbr
        obtain ⟨r2, HJ2, HLR2, HB4⟩ := hcut
        have hxr : wc.cell? (ad.add pi.toNat) = _ := (HB4.out.cell (World.block_lt_of_cell? W3 _ HXr.out)).trans HXr.out
        have hbr : wc.cell? ⟨w.heap.size, 0, none⟩ = _ := (HB4.out.cell (World.block_lt_of_cell? W3 _ HBx.out)).trans HBx.out
        go_wp2_with (fail)
        go_loopg [74] dg (fun kq v74 wq => ∃ (x : Nat) (r : List Int), v74 = .int .i64 (x : Int) ∧ Aside0 (x + kq = dg) ∧ Aside0 (RowJ l pl pi j ((if q = pi then (dg : Int) else 0) - (cntL q ((rd_L1 l pi).take x) : Int)) r) ∧ Aside0 (ListD wq W3.heap.size (.slice (some ⟨W3.heap.size, 0, none⟩) m m) r) ∧ Aside0 (Below W3.heap.size W3 wq))
        case atStart => exact ⟨0, r2, rfl, ⟨by omega⟩, ⟨by rw [List.take_zero, show cntL q [] = 0 from rfl]; simpa using HJ2.out⟩, HLR2, HB4⟩
        case round =>
         clear HJ2 HLR2 HB4 hxr hbr
         obtain ⟨x, r, rfl, HXI, HJ, HLR, HB3⟩ := hrel
         cases gk with
         | zero =>
          have e1 : dg = x := by have := HXI.out; omega
          subst e1
          have hj2 : ¬ ((dg : Int) < (dg : Int)) := by omega
          have HJN : Aside0 (RowJ l pl pi (j + 1) 0 r) := ⟨by
           refine rowJ_next ?_
           have h1 := HJ.out
           rw [List.take_of_length_le (by have := HDG.out; omega)] at h1
           rw [HQ.out]
           unfold elM
           rw [← HDG.out]
           exact h1⟩
          go_wp2_with (fail)
          go_roundg m2
          case measure => omega
          case rel => exact ⟨j + 1, r, by first | rfl | go_num, ⟨by have := HJI.out; omega⟩, HJN, HLR, HB3⟩
         | succ m3 =>
          have hxd : x < dg := by have := HXI.out; omega
          have hx1 : (x : Int) < (dg : Int) := by omega
          obtain ⟨adx, hadx, hy0⟩ := Kd.at_int HEXr.out (x : Int) (by omega) (by omega)
          subst hadx
          rw [Int.toNat_natCast] at hy0
          have hst := cntL_step (q := q) (r := rd_L1 l pi) (i := x) (by have := HDG.out; omega)
          rw [rd_at _ x (by have := HDG.out; omega)] at hy0
          have HST := Aside0.mk hst
          clear hst
          obtain ⟨y, HY⟩ : ∃ y, Aside0 ((rd_L1 l pi)[x]'(by have := HDG.out; omega) = y) := ⟨_, ⟨rfl⟩⟩
          rw [HY.out] at hy0
          replace hy0 : wr.cell? (adx.add x) = _ := (HB3.out.cell (World.block_lt_of_cell? W3 _ hy0)).trans hy0
          by_cases hyq : y = q
          ·have q1 : (y == q) = true := beq_iff_eq.mpr hyq
           have q2 : (y != q) = false := bne_eq_false_iff_eq.mpr hyq
           have hrl := HJ.out.1
           obtain ⟨_, hcell, hset⟩ := list_cells HLR.out (by have := HM.out; omega)
           have x0 := (hcell j hjm).1
           have y0 := (hcell j hjm).2
           have hz := HJ.out.2 j (by have := HM.out; omega)
           rw [if_neg (by omega), if_pos rfl] at hz
           have hcb : cntL q ((rd_L1 l pi).take x) ≤ x := Nat.le_trans (cntL_le _ _) (by rw [List.length_take]; omega)
           have hvb : -5 ≤ (if q = pi then (dg : Int) else 0) - (cntL q ((rd_L1 l pi).take x) : Int) ∧ (if q = pi then (dg : Int) else 0) - (cntL q ((rd_L1 l pi).take x) : Int) ≤ 5 := by split <;> omega
           rw [hz] at x0
           have HS1 := Aside0.mk (hset j ((if q = pi then (dg : Int) else 0) - (cntL q ((rd_L1 l pi).take x) : Int) - 1))
           have HJ1 : Aside0 (RowJ l pl pi j ((if q = pi then (dg : Int) else 0) - (cntL q ((rd_L1 l pi).take (x + 1)) : Int)) (r.set j ((if q = pi then (dg : Int) else 0) - (cntL q ((rd_L1 l pi).take x) : Int) - 1))) := ⟨by
            have e := rowJ_set HJ.out (by have := HM.out; omega) ((if q = pi then (dg : Int) else 0) - (cntL q ((rd_L1 l pi).take x) : Int) - 1)
            have e2 : (if q = pi then (dg : Int) else 0) - (cntL q ((rd_L1 l pi).take (x + 1)) : Int) = (if q = pi then (dg : Int) else 0) - (cntL q ((rd_L1 l pi).take x) : Int) - 1 := by
             rw [HST.out, if_pos (show (rd_L1 l pi)[x]'(by have := HDG.out; omega) = q by rw [HY.out]; exact hyq)]
             omega
            rw [e2]
            exact e⟩
           have HBS : Aside0 (Below W3.heap.size W3 (wr.setCell ⟨W3.heap.size, j, none⟩ (.int .i64 ((if q = pi then (dg : Int) else 0) - (cntL q ((rd_L1 l pi).take x) : Int) - 1)))) := ⟨HB3.out.setCell (p := ⟨W3.heap.size, j, none⟩) (Nat.le_refl _) _⟩
           clear hcell hset hz hcb hyq HJ HST HLR HB3
           generalize (if q = pi then (dg : Int) else 0) - (cntL q ((rd_L1 l pi).take x) : Int) = vv at *
           have hww : IntKind.i64.wrap (vv - 1) = vv - 1 := IntWalk.i64_in _ (by omega)
           go_wp2_with (fail)
           go_roundg m3
           case measure => omega
           case rel => exact ⟨x + 1, r.set j (vv - 1), by first | rfl | go_num, ⟨by have := HXI.out; omega⟩, HJ1, HS1, HBS⟩
          ·have q1 : (y == q) = false := beq_eq_false_iff_ne.mpr hyq
           have q2 : (y != q) = true := bne_iff_ne.mpr hyq
           have HJ1 : Aside0 (RowJ l pl pi j ((if q = pi then (dg : Int) else 0) - (cntL q ((rd_L1 l pi).take (x + 1)) : Int)) r) := ⟨by
            rw [HST.out, if_neg (show ¬ ((rd_L1 l pi)[x]'(by have := HDG.out; omega) = q) by rw [HY.out]; exact hyq), Nat.add_zero]
            exact HJ.out⟩
           clear hyq HST HJ
           go_wp2_with (fail)
           go_roundg m3
           case measure => omega
           case rel => exact ⟨x + 1, r, by first | rfl | go_num, ⟨by have := HXI.out; omega⟩, HJ1, HLR, HB3⟩
  | succ m =>
   have hi : (i : Int) < (l.length : Int) := by have := HI.out; omega
   have hml := innerT_len a b i
   have hbs := HB.out.size
   by_cases hia : (i : Int) = a
   ·have q1 : ((i : Int) == a) = true := beq_iff_eq.mpr hia
    have q2 : ((i : Int) != a) = false := bne_eq_false_iff_eq.mpr hia
    have hin := Aside0.mk (innerT_succ_out (a := a) (b := b) (i := i) (fun h => h.1 hia))
    clear hia
    go_wp2_with (fail)
    go_roundg m
    case measure => omega
    case rel => exact ⟨i + 1, A8, c8, by first | rfl | go_num, by rw [hin.out], ⟨by have := HI.out; omega⟩, by rw [hin.out]; exact HL, HB⟩
   ·have q1 : ((i : Int) == a) = false := beq_eq_false_iff_ne.mpr hia
    have q2 : ((i : Int) != a) = true := bne_iff_ne.mpr hia
    by_cases hib : (i : Int) = b
    ·have q3 : ((i : Int) == b) = true := beq_iff_eq.mpr hib
     have q4 : ((i : Int) != b) = false := bne_eq_false_iff_eq.mpr hib
     have hin := Aside0.mk (innerT_succ_out (a := a) (b := b) (i := i) (fun h => h.2 hib))
     clear hia hib
     go_wp2_with (fail)
     go_roundg m
     case measure => omega
     case rel => exact ⟨i + 1, A8, c8, by first | rfl | go_num, by rw [hin.out], ⟨by have := HI.out; omega⟩, by rw [hin.out]; exact HL, HB⟩
    ·have q3 : ((i : Int) == b) = false := beq_eq_false_iff_ne.mpr hib
     have q4 : ((i : Int) != b) = true := bne_iff_ne.mpr hib
     have hin := Aside0.mk (innerT_succ_in (a := a) (b := b) (i := i) ⟨hia, hib⟩)
     clear hia hib
     have HO7 : wr.ownsRow W1.heap.size 3 1 (.slice A8 (innerT a b i).length c8) (innerT a b i).length (nums .i64 (innerT a b i)) := HL.out
     go_wp2_with (at_builtin; go_loud (refine print_append_num (w0 := W1) W1.heap.size rfl (.tmp 32) (.tmp 34) 37 3 .i64 8 rfl Try.underlying37 GA.info3 (by decide) (.slice A8 (innerT a b i).length c8) (innerT a b i) (i : Int) rfl rfl HO7 HB.out hbs (by omega) ?_; intro v9 w9 hown hbel hg hat; obtain ⟨A9, m9, hv9⟩ := own_slice hown; subst hv9; have HL9 := Aside0.mk hown; have HB9 := Aside0.mk hbel; clear hown hbel hg hat))
     go_roundg m
     case measure => omega
     case rel => exact ⟨i + 1, A9, m9, by first | rfl | go_num, by rw [hin.out, List.length_append]; rfl, ⟨by have := HI.out; omega⟩, ⟨by rw [hin.out]; exact HL9.out⟩, HB9⟩
end Go.Proofs.Ytnbnalbomflafaa.DT
namespace Go.Proofs.Ytnbnalbomflafaa.GI
open Go.RowKit YtnbnalbomflafaaW.PrintWords YtnbnalbomflafaaW.PrintLast YtnbnalbomflafaaW.PrintMore
open GA
attribute [local go_sem] max2_int min2_int max_two min_two max_three min_three max_four min_four
def errW : Option Int → Value
 | none => .nilIface
 | some c => .iface 0 (.int .i64 c)
theorem errW_none : errW none = .nilIface := rfl
theorem errW_some (c : Int) : errW (some c) = .iface 0 (.int .i64 c) := rfl
end Go.Proofs.Ytnbnalbomflafaa.GI
namespace Go.Proofs.Ytnbnalbomflafaa.GI
open Go.RowKit YtnbnalbomflafaaW.PrintWords YtnbnalbomflafaaW.PrintLast YtnbnalbomflafaaW.PrintMore
open GA
attribute [local go_sem] max2_int min2_int max_two min_two max_three min_three max_four min_four
def slices_Index_int_int.l0 : Nat → List Int → Int → Int → Int → Option (Int)
 | 0, _, _, _, _ => none
 | k + 1, x0, x1, x7, x8 => if x8 < x7 then (if 0 ≤ x8 then (if x8 < (x0.length : Int) then (if x1 = (rd x0 x8) then (some x8) else (slices_Index_int_int.l0 k x0 x1 x7 (wrap64 (x8 + 1)))) else (none)) else (none)) else (some (-1))
def slices_Index_int_int.f (k : Nat) (l0 : List Int) (a1 : Int) : Option (Int) := slices_Index_int_int.l0 k l0 a1 (l0.length : Int) 0
set_option maxHeartbeats 8000000 in
set_option maxRecDepth 100000 in
theorem slices_Index_int_int.calls (k : Nat) (A0 : Option Addr) (c0 : Nat) (l0 : List Int) (a1 : Int) (r : Int) (w : World) (hr0 : Kd.C (Kd.int .i64) w A0 l0.length l0) (hc0 : l0.length ≤ c0) (h : slices_Index_int_int.f k l0 a1 = some r) :
  Calls Try.prog 117 #[.slice A0 l0.length c0, .int .i64 a1] w fun e w' => e = .returned (.int .i64 r) ∧ Drawn0 w w' := by
 have HR0 := Aside0.mk hr0
 have HC0 := Aside0.mk hc0
 clear hr0 hc0
 have H : (slices_Index_int_int.l0 k l0 a1 (l0.length : Int) 0) = some r := h
 clear h
 have H' := Aside0.mk H
 clear H
 go_enter Try.func117, Try.ntmps117
 go_wp2
 go_loopg [8] k (fun kq v8 w' => ∃ (x8_1 : Int), v8 = .int .i64 x8_1 ∧ Aside0 (slices_Index_int_int.l0 kq l0 a1 (l0.length : Int) x8_1 = some r) ∧ Aside0 (kq ≤ k) ∧ Drawn0 w w')
 case atStart => exact ⟨(0), (by first | rfl | (simp; done) | (simp [*]; done)), H', ⟨Nat.le_refl _⟩, by repeat (first | exact Drawn0.refl _ | apply Drawn0.step)⟩
 case round =>
  clear H'
  try clear c1
  try clear p2
  obtain ⟨x8_1, rfl, HA, HK1, ⟨m1, rfl⟩⟩ := hrel
  cases gk with
  | zero => exact absurd HA.out (by simp [slices_Index_int_int.l0])
  | succ k1 =>
   have H := HA.out
   clear HA
   simp only [slices_Index_int_int.l0] at H
   by_cases c3 : x8_1 < (l0.length : Int)
   ·rw [if_pos c3] at H
    have c3b0 : decide (x8_1 < (l0.length : Int)) = true := decide_eq_true c3
    clear c3
    by_cases c4 : 0 ≤ x8_1
    ·rw [if_pos c4] at H
     have c4b0 : decide (0 ≤ x8_1) = true := decide_eq_true c4
     clear c4
     by_cases c5 : x8_1 < (l0.length : Int)
     ·rw [if_pos c5] at H
      have c5b0 : decide (x8_1 < (l0.length : Int)) = true := decide_eq_true c5
      clear c5
      by_cases c6 : a1 = (rd l0 x8_1)
      ·rw [if_pos c6] at H
       have c6b0 : (a1 == (rd l0 x8_1)) = true := beq_iff_eq.mpr c6
       have c6b1 : (a1 != (rd l0 x8_1)) = false := bne_eq_false_iff_eq.mpr c6
       clear c6
       obtain rfl := Option.some.inj H
       have p101 : 0 ≤ (x8_1 : Int) := of_decide_eq_true (by first | (with_reducible assumption) | assumption)
       have q101 : x8_1 < (l0.length : Int) := of_decide_eq_true (by first | (with_reducible assumption) | assumption)
       obtain ⟨ad101, e101, hx101_0⟩ := Kd.at_int HR0.out x8_1 p101 q101
       cases e101
       replace p101 := eq_true p101
       replace q101 := eq_true q101
       go_wp2
       go_ret
       exact ⟨by first | rfl | (simp; done) | (simp [*]; done), by repeat (first | exact Drawn0.refl _ | apply Drawn0.step)⟩
      ·rw [if_neg c6] at H
       have c6b0 : (a1 == (rd l0 x8_1)) = false := beq_eq_false_iff_ne.mpr c6
       have c6b1 : (a1 != (rd l0 x8_1)) = true := bne_iff_ne.mpr c6
       have H' := Aside0.mk H
       clear H
       have p101 : 0 ≤ (x8_1 : Int) := of_decide_eq_true (by first | (with_reducible assumption) | assumption)
       have q101 : x8_1 < (l0.length : Int) := of_decide_eq_true (by first | (with_reducible assumption) | assumption)
       obtain ⟨ad101, e101, hx101_0⟩ := Kd.at_int HR0.out x8_1 p101 q101
       cases e101
       replace p101 := eq_true p101
       replace q101 := eq_true q101
       go_wp2
       go_roundg k1
       case measure => have := HK1.out; omega
       case rel => exact ⟨(wrap64 (x8_1 + 1)), (by first | rfl | (simp; done) | (simp [*]; done)), H', ⟨by have := HK1.out; omega⟩, by repeat (first | exact Drawn0.refl _ | apply Drawn0.step)⟩
     ·rw [if_neg c5] at H
      exact absurd H (by simp)
    ·rw [if_neg c4] at H
     exact absurd H (by simp)
   ·rw [if_neg c3] at H
    have c3b0 : decide (x8_1 < (l0.length : Int)) = false := decide_eq_false c3
    clear c3
    obtain rfl := Option.some.inj H
    go_wp2
    go_ret
    exact ⟨by first | rfl | (simp; done) | (simp [*]; done), by repeat (first | exact Drawn0.refl _ | apply Drawn0.step)⟩
end Go.Proofs.Ytnbnalbomflafaa.GI
namespace Go.Proofs.Ytnbnalbomflafaa.DT
open Go.RowKit YtnbnalbomflafaaW.PrintWords YtnbnalbomflafaaW.PrintLast
open RA
section
variable {P : Program} {ops : Array Oper} {Q : Exit → Act → World → Prop}
theorem goesV_ {oi : Oper} {N : Option Tmp} {a : Act} {w : World} {K : Act → World → Prop} {f : FuncId} {fn : Func} {x : Operand} {caps : Array Value} {ps : Array Operand} {ts : Array TypeId} (hf : P.funcs[f]? = some fn) (hname : (fn.name == "runtime.NumGoroutine") = false) (hb : fn.body.isSome = true) (args : Array Value)
  (hw : Region.wanted oi (yielded ops a.tmps) = true) (hN : oi.dst = N) (hop : oi.op = .call { callee := .value x, args := ps, argTypes := ts }) (hx : a.eval x = .func (.func f) #[] caps) (hargs : ps.map a.eval = args)
  (h : Calls P f (args ++ caps) w fun e w' => ∃ v, e = .returned v ∧ K (a.put N v) w') : if Region.wanted oi (yielded ops a.tmps) = true then Oper.wp P oi a w K Q else K (a.put N undef) w := by
 refine call_ f (args ++ caps) hw hN ?_ h
 have he := enters_ hf hname hb (args ++ caps) w
 unfold execOp
 simp [hop, resolve, Deferred.ofValue, invoke, hx, hargs, he]
end
theorem index_loop (pl : List Int) (q : Int) (hl : pl.length ≤ 1000) (d : Nat) : ∀ (k i : Nat), i + d = pl.length → d < k → (∃ c : Nat, i ≤ c ∧ c < pl.length ∧ rd pl (c : Int) = q) → ∃ c : Nat, c < pl.length ∧ rd pl (c : Int) = q ∧ GI.slices_Index_int_int.l0 k pl q (pl.length : Int) (i : Int) = some (c : Int) := by
 induction d with
 | zero =>
  intro k i hi hk h
  obtain ⟨c, h1, h2, _⟩ := h
  omega
 | succ d ih =>
  intro k i hi hk h
  obtain ⟨k, rfl⟩ := KA.succ_of hk
  have hin : i < pl.length := by omega
  unfold GI.slices_Index_int_int.l0
  by_cases hq : q = rd pl (i : Int)
  ·refine ⟨i, hin, hq.symm, ?_⟩
   rw [if_pos (by omega), if_pos (by omega), if_pos (by omega), if_pos hq]
  ·obtain ⟨c, h1, h2, h3⟩ := h
   have hci : c ≠ i := fun e => hq (by rw [← h3, e])
   obtain ⟨c2, g1, g2, g3⟩ := ih k (i + 1) (by omega) (by omega) ⟨c, by omega, h2, h3⟩
   refine ⟨c2, g1, g2, ?_⟩
   rw [if_pos (by omega), if_pos (by omega), if_pos (by omega), if_neg hq, KA.wrap_up hin (by omega)]
   exact g3
theorem index_c (pl : List Int) (q : Int) (hl : pl.length ≤ 1000) (hq : q ∈ pl) (W : World) (v : Value) (hv : ListC W v pl) : ∃ c : Nat, c < pl.length ∧ rd pl (c : Int) = q ∧ Calls Try.prog 117 #[v, .int .i64 q] W fun e w' => e = .returned (.int .i64 (c : Int)) ∧ Drawn0 W w' := by
 obtain ⟨i, hi, he⟩ := List.mem_iff_getElem.1 hq
 obtain ⟨c, h1, h2, h3⟩ := index_loop pl q hl pl.length (pl.length + 1) 0 (by omega) (Nat.lt_succ_self _) ⟨i, Nat.zero_le _, hi, by rw [rd_at pl i hi, he]⟩
 obtain ⟨A, cc, rfl, hc, hC⟩ := hv
 exact ⟨c, h1, h2, GI.slices_Index_int_int.calls (pl.length + 1) A cc pl q _ W hC hc h3⟩
def RowI (pl ex : List Int) (x : Nat) (r : List Int) : Prop := r.length = pl.length ∧ ∀ c : Nat, c < pl.length → rd r (c : Int) = -(cntL (rd pl (c : Int)) (ex.take x) : Int)
theorem rowI_start (pl ex : List Int) : RowI pl ex 0 (List.replicate pl.length 0) := by
 refine ⟨by simp, fun c hc => ?_⟩
 rw [rd_at _ c (by simpa using hc), List.take_zero]
 simp [cntL]
theorem rowI_skip {pl ex : List Int} {x : Nat} {r : List Int} (h : RowI pl ex x r) (hx : x < ex.length) (hne : ex[x] ∉ pl) : RowI pl ex (x + 1) r := by
 refine ⟨h.1, fun c hc => ?_⟩
 rw [h.2 c hc, cntL_step hx, if_neg (fun e => hne (by rw [e, rd_at pl c hc]; exact List.getElem_mem _)), Nat.add_zero]
theorem rd_inj {pl : List Int} (hn : pl.Nodup) {c d : Nat} (hc : c < pl.length) (hd : d < pl.length) (h : rd pl (c : Int) = rd pl (d : Int)) : c = d := by
 rw [rd_at pl c hc, rd_at pl d hd] at h
 rcases Nat.lt_trichotomy c d with q | q | q
 ·exact absurd h (List.pairwise_iff_getElem.1 hn c d hc hd q)
 ·exact q
 ·exact absurd h.symm (List.pairwise_iff_getElem.1 hn d c hd hc q)
theorem rowI_hit {pl ex : List Int} {x d : Nat} {r : List Int} (hn : pl.Nodup) (h : RowI pl ex x r) (hx : x < ex.length) (hd : d < pl.length) (hq : rd pl (d : Int) = ex[x]) : RowI pl ex (x + 1) (r.set d (rd r (d : Int) - 1)) := by
 have hl := h.1
 refine ⟨by rw [List.length_set]; exact hl, fun c hc => ?_⟩
 rw [rd_at _ c (by rw [List.length_set]; omega), cntL_step hx]
 by_cases hcd : c = d
 ·subst hcd
  rw [List.getElem_set_self, h.2 c hc, if_pos hq.symm]
  omega
 ·rw [List.getElem_set_ne (fun q => hcd q.symm), if_neg (fun e => hcd (rd_inj hn hc hd (by rw [hq, ← e]))), Nat.add_zero, ← h.2 c hc, rd_at r c (by omega)]
theorem rowI_end {l : List (List Int)} {pl : List Int} {i : Nat} {r : List Int} (hn : pl.Nodup) (hi : i < pl.length) (h : RowI pl (GA.rd_L1 l (rd pl (i : Int))) (GA.rd_L1 l (rd pl (i : Int))).length r) : r.set i (rd r (i : Int) + ((GA.rd_L1 l (rd pl (i : Int))).length : Int)) = rowM l pl (rd pl (i : Int)) := by
 have hp : rd pl (i : Int) = pl[i] := rd_at pl i hi
 rw [hp] at h ⊢
 generalize hpe : pl[i] = p at h ⊢
 have hl := h.1
 refine List.ext_getElem (by simp [hl, rowM]) fun c h1 h2 => ?_
 have hc : c < pl.length := by simpa [rowM] using h2
 have e := h.2 c hc
 rw [List.take_of_length_le (Nat.le_refl _), rd_at pl c hc, rd_at r c (by omega)] at e
 have el : (rowM l pl p)[c] = elM l p pl[c] := by simp [rowM]
 rw [el]
 by_cases hcd : c = i
 ·subst hcd
  unfold elM
  rw [List.getElem_set_self, rd_at r c (by omega), e, if_pos hpe]
  omega
 ·unfold elM
  rw [List.getElem_set_ne (fun q => hcd q.symm), e, if_neg (fun q => hcd (rd_inj hn hc hi (by rw [rd_at pl c hc, hp, q, hpe])))]
  omega
def sumF (own : Int → Int) (atA atB a b p : Int) (ex : List Int) (x : Nat) : Int := own p + atA * (cntL a (ex.take x) : Int) + atB * (cntL b (ex.take x) : Int)
theorem sumF_zero (own : Int → Int) (atA atB a b p : Int) (ex : List Int) : sumF own atA atB a b p ex 0 = own p := by
 unfold sumF
 simp [cntL]
theorem sumF_a {own : Int → Int} {atA atB a b p : Int} {ex : List Int} {x : Nat} (hab : a ≠ b) (hx : x < ex.length) (h : ex[x] = a) : sumF own atA atB a b p ex (x + 1) = sumF own atA atB a b p ex x + atA := by
 unfold sumF
 rw [cntL_step hx, cntL_step hx, if_pos h, if_neg (fun e => hab (by rw [← h, e]))]
 rw [Nat.add_zero, Int.natCast_add, Int.mul_add]
 simp
 omega
theorem sumF_b {own : Int → Int} {atA atB a b p : Int} {ex : List Int} {x : Nat} (hab : a ≠ b) (hx : x < ex.length) (h : ex[x] = b) : sumF own atA atB a b p ex (x + 1) = sumF own atA atB a b p ex x + atB := by
 unfold sumF
 rw [cntL_step hx, cntL_step hx, if_pos h, if_neg (fun e => hab (by rw [← h, e]))]
 rw [Nat.add_zero, Int.natCast_add, Int.mul_add]
 simp
 omega
theorem sumF_no {own : Int → Int} {atA atB a b p : Int} {ex : List Int} {x : Nat} (hx : x < ex.length) (ha : ex[x] ≠ a) (hb : ex[x] ≠ b) : sumF own atA atB a b p ex (x + 1) = sumF own atA atB a b p ex x := by
 unfold sumF
 rw [cntL_step hx, cntL_step hx, if_neg ha, if_neg hb]
 rfl
def rightL (l : List (List Int)) (own : Int → Int) (atA atB a b : Int) (pl : List Int) : List Int := pl.map fun p => sumF own atA atB a b p (GA.rd_L1 l p) (GA.rd_L1 l p).length
def colL (M : List (List Int)) (R : List Int) (k : Nat) : List (List Int) := (List.range M.length).map fun (i : Nat) => (GA.rd_L1 M (i : Int)).set k (rd R (i : Int))
theorem own_same_cells {w : World} {N n : Nat} {e : TypeId} {v : Value} {L L2 : List Value} (h1 : w.ownsRow N e 1 v n L) (h2 : w.ownsRow N e 1 v n L2) : L = L2 := by
 rcases h1.2 with ⟨q1, q2⟩ | ⟨g, cap, cur, e1, _, hh, _, _, _, h6⟩
 ·have a1 := h1.1
  have a2 := h2.1
  rw [q2] at a1 a2
  have b1 : L = [] := List.eq_nil_of_length_eq_zero (by omega)
  have b2 : L2 = [] := List.eq_nil_of_length_eq_zero (by omega)
  rw [b1, b2]
 ·rcases h2.2 with ⟨q1, q2⟩ | ⟨g', cap', cur', e2, _, hh', _, _, _, h6'⟩
  ·rw [q1] at e1
   cases e1
  ·rw [e1] at e2
   injection e2 with e3 _ _
   injection e3 with e3
   injection e3 with e3
   subst e3
   rw [hh] at hh'
   simp only [Option.some.injEq, Obj.cells.injEq] at hh'
   rw [← h6, ← h6', hh'.1]
def Side (w : World) (N : Nat) (vm : Value) (rows : List (List Int)) (vr : Value) (rs : List Int) : Prop := ∃ L, w.ownsRow N 37 1 vm rows.length L ∧ RowsL w N rows L ∧ ListD w N vr rs ∧ ∀ (i : Nat) (v : Value) (k : Nat), L[i]? = some v → v.ownBlock = some k → vr.ownBlock ≠ some k
theorem Side.rows {w : World} {N : Nat} {vm vr : Value} {rows : List (List Int)} {rs : List Int} (h : Side w N vm rows vr rs) : RowsD w N vm rows := by
 obtain ⟨L, h1, h2, _, _⟩ := h
 exact ⟨L, h1, h2⟩
theorem Side.list {w : World} {N : Nat} {vm vr : Value} {rows : List (List Int)} {rs : List Int} (h : Side w N vm rows vr rs) : ListD w N vr rs := by
 obtain ⟨L, _, _, h3, _⟩ := h
 exact h3
theorem side_more {w3 w5 w6 w7 : World} {N : Nat} {vm vr v vm1 vr1 : Value} {rows : List (List Int)} {rs r : List Int} {s : Int} {L : List Value} (h1 : w3.ownsRow N 37 1 vm rows.length L) (h2 : RowsL w3 N rows L) (h3 : ListD w3 N vr rs) (h4 : ∀ (i : Nat) (v : Value) (k : Nat), L[i]? = some v → v.ownBlock = some k → vr.ownBlock ≠ some k)
  (hN : N ≤ w3.heap.size) (hB : Below w3.heap.size w3 w5) (hv : ListD w5 w3.heap.size v r) (hown : w6.ownsRow N 37 1 vm1 (L ++ [v]).length (L ++ [v])) (hg : w5.grownBy w6 vm.ownBlock)
  (hown2 : w7.ownsRow N 3 1 vr1 (rs ++ [s]).length (nums .i64 (rs ++ [s]))) (hg2 : w6.grownBy w7 vr.ownBlock) (hat2 : vr1.ownBlock = vr.ownBlock ∨ ∃ b, vr1.ownBlock = some b ∧ w6.heap.size ≤ b) : Side w7 N vm1 (rows ++ [r]) vr1 (rs ++ [s]) := by
 have hLn : L.length = rows.length := by have := own_len h1; omega
 have hm := rowsD_more h1 h2 hN hB hv hown hg
 have hs5 := hB.size
 have hs6 := hg.size
 have key : ∀ (i : Nat) (u : Value) (k : Nat), (L ++ [v])[i]? = some u → u.ownBlock = some k → vr.ownBlock ≠ some k ∧ k < w6.heap.size := fun i u k hu hk => by
  by_cases hi : i < L.length
  ·rw [List.getElem?_append_left hi] at hu
   obtain ⟨_, q, _⟩ := h2.blk hLn hu hk
   exact ⟨h4 i u k hu hk, by omega⟩
  ·rw [List.getElem?_append_right (by omega)] at hu
   have e : u = v := by
    have := List.mem_of_getElem? hu
    simpa using this
   subst e
   have q1 := own_base hv k hk
   have q2 := own_lt hv k hk
   refine ⟨fun c => ?_, by omega⟩
   have := own_lt h3 k c
   omega
 have hln : (L ++ [v]).length = (rows ++ [r]).length := by simp [hLn]
 obtain ⟨L2, g1, g2⟩ := hm
 have eL : L2 = L ++ [v] := by
  have := own_same_cells g1 (by rw [hln] at hown; exact hown)
  exact this
 subst eL
 refine ⟨L ++ [v], own_move g1 (fun k hk => hg2.block k (own_lt g1 k hk) (fun c => ?_)), g2.move (by rw [hln]) (fun i u k hu hk => hg2.block k (key i u k hu hk).2 (fun c => (key i u k hu hk).1 (by first | exact c | exact c.symm))), hown2, fun i u k hu hk c => ?_⟩
 ·obtain ⟨cells, hc⟩ := own_typed g1 k hk
  have hr6 : w6.ownsRow N 3 1 vr rs.length (encI rs) := own_move h3 (fun k hk => (hg.block k (by have := own_lt h3 k hk; omega) (fun c => by
   obtain ⟨c1, e1⟩ := own_typed h3 k hk
   obtain ⟨c2, e2⟩ := own_typed h1 k (by first | exact c | exact c.symm)
   rw [e1] at e2
   simp at e2)).trans (hB.block k (own_lt h3 k hk)))
  obtain ⟨c3, e3⟩ := own_typed hr6 k (by first | exact c | exact c.symm)
  rw [e3] at hc
  simp at hc
 ·rcases hat2 with q | ⟨b, q1, q2⟩
  ·exact (key i u k hu hk).1 (by rw [← q]; exact c)
  ·rw [q1] at c
   have := (key i u k hu hk).2
   have c2 : b = k := Option.some.inj c
   omega
end Go.Proofs.Ytnbnalbomflafaa.DT
namespace Go.Proofs.Ytnbnalbomflafaa.DT
open Go.RowKit YtnbnalbomflafaaW.PrintWords YtnbnalbomflafaaW.PrintLast
open RA
theorem innerT_count {a b : Int} (ha : 0 ≤ a) (hb : 0 ≤ b) (hab : a ≠ b) (i : Nat) : (innerT a b i).length + (if a < (i : Int) then 1 else 0) + (if b < (i : Int) then 1 else 0) = i := by
 induction i with
 | zero => rw [if_neg (by omega), if_neg (by omega)]; rfl
 | succ i ih =>
  by_cases h : (i : Int) ≠ a ∧ (i : Int) ≠ b
  ·rw [innerT_succ_in h, List.length_append, List.length_singleton]
   have e1 : (a < ((i + 1 : Nat) : Int)) ↔ (a < (i : Int)) := by omega
   have e2 : (b < ((i + 1 : Nat) : Int)) ↔ (b < (i : Int)) := by omega
   simp only [e1, e2]
   omega
  ·rw [innerT_succ_out h]
   by_cases h1 : (i : Int) = a
   ·rw [if_neg (by omega)] at ih
    rw [if_pos (by omega)]
    have e2 : (b < ((i + 1 : Nat) : Int)) ↔ (b < (i : Int)) := by omega
    simp only [e2]
    omega
   ·have h2 : (i : Int) = b := by
     by_cases q : (i : Int) = b
     ·exact q
     ·exact absurd ⟨h1, q⟩ h
    rw [if_neg (c := b < (i : Int)) (by omega)] at ih
    rw [if_pos (c := b < ((i + 1 : Nat) : Int)) (by omega)]
    have e2 : (a < ((i + 1 : Nat) : Int)) ↔ (a < (i : Int)) := by omega
    simp only [e2]
    omega
theorem inner_six {l : List (List Int)} {a b : Int} (hl : l.length ≤ 8) (ha : 0 ≤ a) (ha1 : a < l.length) (hb : 0 ≤ b) (hb1 : b < l.length) (hab : a ≠ b) : (innerL l a b).length ≤ 6 := by
 have := innerT_count ha hb hab l.length
 rw [if_pos ha1, if_pos hb1] at this
 unfold innerL
 omega
theorem sq_matM (l : List (List Int)) (a b : Int) : Sq (innerL l a b).length (matM l a b) := by
 refine ⟨by simp [matM], fun r hr => ?_⟩
 unfold matM at hr
 obtain ⟨p, _, rfl⟩ := List.mem_map.1 hr
 simp [rowM]
theorem matM_at (l : List (List Int)) (a b : Int) {r c : Nat} (hr : r < (innerL l a b).length) (hc : c < (innerL l a b).length) : matF (matM l a b) r c = elM l (rd (innerL l a b) (r : Int)) (rd (innerL l a b) (c : Int)) := by
 have h := sq_matM l a b
 have hl := h.len
 rw [matF_at (by omega) (by rw [sq_row h (by omega)]; exact hc), rd_at _ r hr, rd_at _ c hc]
 simp [matM, rowM]
theorem matM_bound {l : List (List Int)} {a b : Int} (h5 : ∀ v : Int, 0 ≤ v → v < l.length → (GA.rd_L1 l v).length ≤ 5) {r c : Nat} (hr : r < (innerL l a b).length) (hc : c < (innerL l a b).length) : (matF (matM l a b) r c).natAbs ≤ 5 := by
 rw [matM_at l a b hr hc]
 have hm := inner_mem (l := l) (a := a) (b := b) (p := rd (innerL l a b) (r : Int)) (by rw [rd_at _ r hr]; exact List.getElem_mem _)
 have hd := h5 _ hm.1 hm.2.1
 have hn := cntL_le (rd (innerL l a b) (c : Int)) (GA.rd_L1 l (rd (innerL l a b) (r : Int)))
 unfold elM
 split <;> omega
theorem sq_colL {n : Nat} {M : List (List Int)} (h : Sq n M) (R : List Int) (k : Nat) : Sq n (colL M R k) := by
 refine ⟨by simp [colL, h.len], fun r hr => ?_⟩
 unfold colL at hr
 obtain ⟨i, hi, rfl⟩ := List.mem_map.1 hr
 rw [List.length_set]
 have hl := h.len
 exact (h.at (i := i) (by simpa [hl] using hi)).2
theorem colL_get {n : Nat} {M : List (List Int)} (h : Sq n M) (R : List Int) (k : Nat) {i : Nat} (hi : i < n) : (colL M R k)[i]? = some ((GA.rd_L1 M (i : Int)).set k (rd R (i : Int))) := by
 unfold colL
 have hl := h.len
 rw [List.getElem?_map, List.getElem?_range (by omega)]
 rfl
theorem colL_at {n : Nat} {M : List (List Int)} (h : Sq n M) (R : List Int) {k r c : Nat} (hr : r < n) (hc : c < n) : matF (colL M R k) r c = if c = k then rd R (r : Int) else matF M r c := by
 have hl := h.len
 have h2 := sq_colL h R k
 have hl2 := h2.len
 have h3 := sq_row h (r := r) (by omega)
 have e : (colL M R k)[r]'(by omega) = (GA.rd_L1 M (r : Int)).set k (rd R (r : Int)) := by
  have := colL_get h R k hr
  rw [List.getElem?_eq_getElem (by omega)] at this
  exact Option.some.inj this
 rw [matF_at (by omega) (by rw [sq_row h2 (by omega)]; exact hc)]
 have hlen := (h.at hr).2
 simp only [e]
 by_cases hck : c = k
 ·subst hck
  rw [List.getElem_set_self, if_pos rfl]
 ·rw [List.getElem_set_ne (fun q => hck q.symm), if_neg hck]
  unfold matF
  rw [rd_at _ c (by omega)]
theorem rightL_at (l : List (List Int)) (own : Int → Int) (atA atB a b : Int) (pl : List Int) {i : Nat} (hi : i < pl.length) : rd (rightL l own atA atB a b pl) (i : Int) = sumF own atA atB a b (rd pl (i : Int)) (GA.rd_L1 l (rd pl (i : Int))) (GA.rd_L1 l (rd pl (i : Int))).length := by
 rw [rd_at _ i (by simpa [rightL] using hi), rd_at pl i hi]
 simp [rightL]
def denOf (l : List (List Int)) (a b : Int) : Int := D (innerL l a b).length (matF (matM l a b))
def numOf (l : List (List Int)) (own : Int → Int) (atA atB a b : Int) (k : Nat) : Int := D (innerL l a b).length (matF (colL (matM l a b) (rightL l own atA atB a b (innerL l a b)) k))
def OutK (l : List (List Int)) (own : Int → Int) (atA atB a b : Int) (K : Nat) (out : List Int) : Prop := out.length = l.length ∧ rd out a = atA * denOf l a b ∧ rd out b = atB * denOf l a b ∧ ∀ k : Nat, k < K → rd out (rd (innerL l a b) (k : Int)) = numOf l own atA atB a b k
theorem outK_start {l : List (List Int)} {own : Int → Int} {atA atB a b : Int} (ha : 0 ≤ a) (ha1 : a < l.length) (hb : 0 ≤ b) (hb1 : b < l.length) (hab : a ≠ b) : OutK l own atA atB a b 0 (((List.replicate l.length 0).set a.toNat (atA * denOf l a b)).set b.toNat (atB * denOf l a b)) := by
 refine ⟨by simp, ?_, ?_, fun k hk => by omega⟩
 ·rw [KA.rd_set_other _ hb ha hab, KA.rd_set_same _ ha (by simpa using ha1)]
 ·rw [KA.rd_set_same _ hb (by simpa using hb1)]
theorem outK_more {l : List (List Int)} {own : Int → Int} {atA atB a b : Int} {K : Nat} {out : List Int} (h : OutK l own atA atB a b K out) (hK : K < (innerL l a b).length) (ha : 0 ≤ a) (hb : 0 ≤ b) : OutK l own atA atB a b (K + 1) (out.set (rd (innerL l a b) (K : Int)).toNat (numOf l own atA atB a b K)) := by
 obtain ⟨h1, h2, h3, h4⟩ := h
 have hm := inner_mem (l := l) (a := a) (b := b) (p := rd (innerL l a b) (K : Int)) (by rw [rd_at _ K hK]; exact List.getElem_mem _)
 refine ⟨by rw [List.length_set]; exact h1, ?_, ?_, fun k hk => ?_⟩
 ·rw [KA.rd_set_other _ hm.1 ha (fun e => hm.2.2.1 e.symm)]
  exact h2
 ·rw [KA.rd_set_other _ hm.1 hb (fun e => hm.2.2.2 e.symm)]
  exact h3
 ·by_cases hkK : k = K
  ·subst hkK
   rw [KA.rd_set_same _ hm.1 (by omega)]
  ·have hm2 := inner_mem (l := l) (a := a) (b := b) (p := rd (innerL l a b) (k : Int)) (by rw [rd_at _ k (by omega)]; exact List.getElem_mem _)
   rw [KA.rd_set_other _ hm.1 hm2.1 (fun e => hkK (rd_inj (inner_nodup l a b) (by omega) hK e))]
   exact h4 k (by omega)
theorem det_le {n : Nat} {M : List (List Int)} (hn : n ≤ 6) (hb : ∀ r c, r < n → c < n → (matF M r c).natAbs ≤ 5) : (D n (matF M)).natAbs ≤ 11250000 := Nat.le_trans (D_bound hb) (fe_le hn)
theorem side_start (W : World) : Side ((W.alloc (.cells #[] 37)).alloc (.cells #[] 3)) W.heap.size (.slice (some ⟨W.heap.size, 0, none⟩) 0 0) [] (.slice (some ⟨W.heap.size + 1, 0, none⟩) 0 0) [] := by
 have h1 := rowsD_empty W W.heap.size (Nat.le_refl _)
 have h2 := noI_D (W.alloc (.cells #[] 37)) W.heap.size (by simp)
 simp at h2
 refine ⟨[], ?_, ⟨fun i r h => by simp at h, fun i j v u k h => by simp at h⟩, h2, fun i v k h => by simp at h⟩
 obtain ⟨L, q1, _⟩ := h1
 have : L = [] := List.eq_nil_of_length_eq_zero (by have := own_len q1; simpa using this)
 subst this
 exact own_move q1 fun k hk => Below.heap_alloc _ _ k (own_lt q1 k hk)
theorem list_after {w3 w5 w6 : World} {N n : Nat} {vm vr : Value} {rs : List Int} {L : List Value} (h1 : w3.ownsRow N 37 1 vm n L) (h3 : ListD w3 N vr rs) (hB : Below w3.heap.size w3 w5) (hg : w5.grownBy w6 vm.ownBlock) : w6.ownsRow N 3 1 vr rs.length (nums .i64 rs) :=
 own_move h3 fun k hk => (hg.block k (by have := own_lt h3 k hk; have := hB.size; omega) (fun c => by
  obtain ⟨c1, e1⟩ := own_typed h3 k hk
  obtain ⟨c2, e2⟩ := own_typed h1 k (by first | exact c | exact c.symm)
  rw [e1] at e2
  simp at e2)).trans (hB.block k (own_lt h3 k hk))
end Go.Proofs.Ytnbnalbomflafaa.DT
