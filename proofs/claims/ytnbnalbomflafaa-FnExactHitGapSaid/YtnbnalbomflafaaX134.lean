/-
  Texts of the seat, merged (part 4).
-/
import Derived.Test.YtnbnalbomflafaaProg
import Derived.Below
import Derived.Deep.Draws
import Derived.Deep.AppendLies
import Derived.Maps.AppendAt
import Derived.OwnWalk
import Derived.Laws.BytesArg
import Derived.Laws.MakeOwn
import Derived.Laws.OwnMore
import Derived.Deep.OwnRows
import Derived.Tactics
import Derived.Lib.ConvBytes
import Derived.Laws.Slices
import Derived.WalkKit
import Derived.KernelRfl
import Derived.RowKit3
import Derived.Deep.LoopGhost
import Derived.Deep.QuietTactic
import Derived.BigQuiet
import Derived.WideLaws
import Derived.Deep.DeepCutAuto
import Derived.Deep.CutBlock
import Derived.Deep.RegionHeld3
import Derived.Laws.Rows
import Derived.Lib.AppendStr
import Derived.ArgAppend
import Derived.Laws.IdiomCopy
import Derived.OrdersHeld
import Derived.Laws.BitsLemmas
import Derived.RowKit
import Derived.Test.YtnbnalbomflafaaX13WWords
import Derived.Test.YtnbnalbomflafaaX13WLast
import Derived.Test.YtnbnalbomflafaaX13WTab
import Derived.Test.YtnbnalbomflafaaX13WFour
import Derived.Test.YtnbnalbomflafaaX13WQPut
import Derived.Test.YtnbnalbomflafaaX13WApart
import Derived.Test.YtnbnalbomflafaaX13WArr
import Derived.Test.YtnbnalbomflafaaX13WZeros
import Derived.Test.YtnbnalbomflafaaX13WFoot
import Derived.Test.YtnbnalbomflafaaX13WKept
import Derived.Test.YtnbnalbomflafaaX13WShare
import Derived.Test.YtnbnalbomflafaaX13WN
import Derived.Test.YtnbnalbomflafaaX13WFootNe
import Derived.Test.YtnbnalbomflafaaX13WAt
import Derived.Test.YtnbnalbomflafaaX13WEqStruct
import Derived.Test.YtnbnalbomflafaaX13WRepsOne
import Derived.Test.YtnbnalbomflafaaX13WInv
import Derived.Test.YtnbnalbomflafaaX13WInvWords
import Derived.Test.YtnbnalbomflafaaX13WGuard
import Derived.Test.YtnbnalbomflafaaX13WNEv
import Derived.Test.YtnbnalbomflafaaX13WMore
import Derived.Test.YtnbnalbomflafaaX133
set_option linter.unusedVariables false
set_option linter.unusedSimpArgs false
namespace Go.Proofs.Ytnbnalbomflafaa.HB
open Go.RowKit YtnbnalbomflafaaW.PrintWords YtnbnalbomflafaaW.PrintLast YtnbnalbomflafaaW.PrintMore
open GA GB KA
attribute [local go_sem] max2_int min2_int max_two min_two max_three min_three max_four min_four
mutual
def impl_Graph_lengths.l0 : Nat → List Int → List Int → List (List Int) → Option (List Int)
 | 0, _, _, _ => none
 | k + 1, x5, x6, x176000 => if (x6.length : Int) > 0 then (if 0 < (x6.length : Int) then (if 0 ≤ (rd x6 0) then (if (rd x6 0) < (x176000.length : Int) then (impl_Graph_lengths.l1 k x5 x6 (rd_L1 x176000 (rd x6 0)) ((rd_L1 x176000 (rd x6 0)).length : Int) 0 x176000) else (none)) else (none)) else (none)) else (some x5)
def impl_Graph_lengths.l1 : Nat → List Int → List Int → List Int → Int → Int → List (List Int) → Option (List Int)
 | 0, _, _, _, _, _, _ => none
 | k + 1, x5, x6, x30, x31, x32, x176000 => if x32 < x31 then (if 0 ≤ x32 then (if x32 < (x30.length : Int) then (if 0 ≤ (rd x30 x32) then (if (rd x30 x32) < (x5.length : Int) then (if (rd x5 (rd x30 x32)) < 0 then (if 0 < (x6.length : Int) then (if 0 ≤ (rd x6 0) then (if (rd x6 0) < (x5.length : Int) then (if x6.length < 17592186044416 then (impl_Graph_lengths.l1 k (x5.set ((rd x30 x32) : Int).toNat (wrap64 ((rd x5 (rd x6 0)) + 1))) (x6 ++ [rd x30 x32]) x30 x31 (wrap64 (x32 + 1)) x176000) else (none)) else (none)) else (none)) else (none)) else (impl_Graph_lengths.l1 k x5 x6 x30 x31 (wrap64 (x32 + 1)) x176000)) else (none)) else (none)) else (none)) else (none)) else (if 1 ≤ (x6.length : Int) then (impl_Graph_lengths.l0 k x5 (x6.drop (1 : Int).toNat) x176000) else (none))
end
def impl_Graph_lengths.f (k : Nat) (l0_0 : List (List Int)) (a1 : Int) : Option (List Int) := (slices_Repeat_int_int.f (([(-1)] : List Int)) (l0_0.length : Int)).bind fun t179 => (if 0 ≤ a1 then (if a1 < (t179.length : Int) then (impl_Graph_lengths.l0 k (t179.set (a1 : Int).toNat 0) (([a1] : List Int)) l0_0) else (none)) else (none))
set_option maxHeartbeats 8000000 in
set_option maxRecDepth 100000 in
theorem impl_Graph_lengths.calls (k : Nat) (A0_0 : Option Addr) (c0_0 : Nat) (l0_0 : List (List Int)) (a1 : Int) (r : List Int) (w : World) (hr0_0 : Kd.C (Kd.slice 3 (Kd.int .i64)) w A0_0 l0_0.length l0_0) (hc0_0 : l0_0.length ≤ c0_0) (h : impl_Graph_lengths.f k l0_0 a1 = some r) :
  Calls Try.prog 112 #[.agg #[.slice A0_0 l0_0.length c0_0], .int .i64 a1] w fun e w' => ∃ v0_ : Value, e = .returned (v0_) ∧ Kd.R (Kd.int .i64) 3 w' w.heap.size (fun _ => True) v0_ r ∧ Below w.heap.size w w' := by
 have hu30 := Try.underlying30
 have HR0_0 := Aside0.mk hr0_0
 have HC0_0 := Aside0.mk hc0_0
 clear hr0_0 hc0_0
 have HB := Aside0.mk (Below.refl w.heap.size w)
 have H : ((slices_Repeat_int_int.f (([(-1)] : List Int)) (l0_0.length : Int)).bind fun t179 => (if 0 ≤ a1 then (if a1 < (t179.length : Int) then (impl_Graph_lengths.l0 k (t179.set (a1 : Int).toNat 0) (([a1] : List Int)) l0_0) else (none)) else (none))) = some r := h
 clear h
 obtain ⟨y176, hy176⟩ : ∃ y_ : List Int, y_ = (([(-1)] : List Int)) := ⟨_, rfl⟩
 replace H : ((slices_Repeat_int_int.f y176 (l0_0.length : Int)).bind fun t179 => (if 0 ≤ a1 then (if a1 < (t179.length : Int) then (impl_Graph_lengths.l0 k (t179.set (a1 : Int).toNat 0) (([a1] : List Int)) l0_0) else (none)) else (none))) = some r := by first | (rw [hy176]; with_reducible exact H) | (have H2_ := (Option.bind_some _ _).symm.trans H; rw [hy176]; with_reducible exact H2_) | (have H2_ := (Option.bind_some _ _).symm.trans H; with_reducible exact H2_) | with_reducible exact H | (rw [hy176]; exact H) | exact H
 have Ny176 := Aside0.mk hy176
 clear hy176
 replace H := Option.bind_eq_some_iff.mp H
 obtain ⟨t179, A30, H⟩ := H
 replace H : (if 0 ≤ a1 then (if a1 < (t179.length : Int) then (impl_Graph_lengths.l0 k (t179.set (a1 : Int).toNat 0) (([a1] : List Int)) l0_0) else (none)) else (none)) = some r := H
 have A3 := Aside0.mk A30
 clear A30
 by_cases c4 : 0 ≤ a1
 ·rw [if_pos c4] at H
  have c4b0 : decide (0 ≤ a1) = true := decide_eq_true c4
  clear c4
  by_cases c5 : a1 < (t179.length : Int)
  ·rw [if_pos c5] at H
   have c5b0 : decide (a1 < (t179.length : Int)) = true := decide_eq_true c5
   clear c5
   obtain ⟨y182, hy182⟩ : ∃ y_ : List Int, y_ = (t179.set (a1 : Int).toNat 0) := ⟨_, rfl⟩
   replace H : (impl_Graph_lengths.l0 k y182 (([a1] : List Int)) l0_0) = some r := by first | (rw [hy182]; with_reducible exact H) | (have H2_ := (Option.bind_some _ _).symm.trans H; rw [hy182]; with_reducible exact H2_) | (have H2_ := (Option.bind_some _ _).symm.trans H; with_reducible exact H2_) | with_reducible exact H | (rw [hy182]; exact H) | exact H
   have Ny182 := Aside0.mk hy182
   clear hy182
   obtain ⟨y183, hy183⟩ : ∃ y_ : List Int, y_ = (([a1] : List Int)) := ⟨_, rfl⟩
   replace H : (impl_Graph_lengths.l0 k y182 y183 l0_0) = some r := by first | (rw [hy183]; with_reducible exact H) | (have H2_ := (Option.bind_some _ _).symm.trans H; rw [hy183]; with_reducible exact H2_) | (have H2_ := (Option.bind_some _ _).symm.trans H; with_reducible exact H2_) | with_reducible exact H | (rw [hy183]; exact H) | exact H
   have Ny183 := Aside0.mk hy183
   clear hy183
   have H' := Aside0.mk H
   clear H
   go_enter Try.func112, Try.ntmps112
   go_wp2_with (first | ((with_reducible refine gate_dst (N := 2) rfl ?_); refine box_event ?hg (N := 2) ?hd (cs := #[.slice A0_0 l0_0.length c0_0]) (t := 30) ?hr ?_; (case hd => rfl); (case hg => rfl); (case hr => first | (go_simp; done) | (go_simp; rfl)); intro gb175 hg w7 hbox hb; have n0_ := Aside0.mk (bP_ (by repeat (first | (with_reducible first | exact HB.out | apply bA_ | apply bN_ | apply bD_) | exact HB.out)) hb); have n1_ := Aside0.mk (hbox); have n2_ := Aside0.mk ((by rw [hg]; exact (bZ_ (by repeat (first | (with_reducible first | exact HB.out | apply bA_ | apply bN_ | apply bD_) | exact HB.out))) : w.heap.size ≤ gb175)); have n3_ := Aside0.mk ((by rw [hg]; exact (bZ_ (by repeat (first | (with_reducible first | exact HB.out | apply bA_ | apply bN_ | apply bD_) | exact HB.out))) : w.heap.size ≤ gb175)); clear HB; have HB := n0_; have BK175 := n1_; have GW175 := n2_; have GE175 := n3_; clear n0_ n1_ n2_ n3_; clear hb hbox hg) | ((with_reducible refine gate_dst (N := 9) rfl ?_); refine Kd.R_lit (Kd.int .i64) _ 3 ?hg (N := 9) ?hd (xs := ([(-1)] : List Int)) (inner := [.int .i64 (-1)]) (ok := fun _ => True) (okp := fun _ => True) ?hr ?hp (fun _ hk => hk) trivial (Below.refl _ _) (Nat.le_refl _) (by simp) ?_; (case hd => rfl); (case hg => rfl); (case hr => first | (go_simp; done) | (go_simp; rfl)); (case hp => exact (Reps.one (show Kd.M (Kd.int .i64) _ _ _ (-1) [.int .i64 (-1)] from rfl) (Reps.none _ _))); intro v177 w8 ho9 hb hg_ hnew_; clear hg_ hnew_; (first | rw [← Ny176.out] at ho9 | (simp only [Int.reduceToNat] at ho9; rw [← Ny176.out] at ho9)); have n0_ := Aside0.mk (Kd.R_lower ho9 (bZ_ (by repeat (first | (with_reducible first | exact HB.out | apply bA_ | apply bN_ | apply bD_ | refine bS_ ?_ GE175.out) | exact HB.out)))); have n1_ := Aside0.mk (blk_below (g := gb175) (o := .cells #[.slice A0_0 l0_0.length c0_0] 30 (0, 0)) (by (with_reducible repeat (first | refine kN_ ?_ _ | refine kD_ ?_ | refine kA_ ?_ _)); exact BK175.out) hb); have n2_ := Aside0.mk (bP_ (by repeat (first | (with_reducible first | exact HB.out | apply bA_ | apply bN_ | apply bD_ | refine bS_ ?_ GE175.out) | exact HB.out)) hb); clear BK175; clear HB; have HO178 := n0_; have BK175 := n1_; have HB := n2_; clear n0_ n1_ n2_; clear hb ho9; have hcz10_0 : w8.cell? ⟨gb175, 0, none⟩ = some (.slice A0_0 l0_0.length c0_0) := (blk_cell BK175.out 0).trans rfl; have hfz10_0 := kF_ BK175.out 0; obtain ⟨Ao11, co11, eo11⟩ := Kd.R_slice HO178.out; subst eo11) | (go_at_call 128; (with_reducible refine (slices_Repeat_int_int.calls _ _ y176 (l0_0.length : Int) t179 _ ?side1 ?side2 A3.out).mono ?_); (case side1 => repeat (first | exact (Kd.R_reads' HO178.out).2.2 | (with_reducible refine Kd.C_alloc ?_ _) | (with_reducible refine Kd.C_drewN ?_ _) | (with_reducible refine Kd.C_drew ?_))); (case side2 => exact (Kd.R_reads' HO178.out).2.1); rintro e w12 ⟨v180, rfl, ho0, hb⟩; have n0_ := Aside0.mk (Kd.R_elder' (by (with_reducible repeat (first | apply Kd.R_alloc | apply Kd.R_drewN | apply Kd.R_drew)); exact HO178.out) (Kd.R_base ho0) hb); have n1_ := Aside0.mk (Kd.R_lower (Kd.R_new' ho0 (Kd.R_lt (by (with_reducible repeat (first | apply Kd.R_alloc | apply Kd.R_drewN | apply Kd.R_drew)); exact HO178.out))) (bZ_ (by repeat (first | (with_reducible first | exact HB.out | apply bA_ | apply bN_ | apply bD_ | refine bS_ ?_ GE175.out) | exact HB.out)))); have n2_ := Aside0.mk (blk_below (g := gb175) (o := .cells #[.slice A0_0 l0_0.length c0_0] 30 (0, 0)) (by (with_reducible repeat (first | refine kN_ ?_ _ | refine kD_ ?_ | refine kA_ ?_ _)); exact BK175.out) hb); have n3_ := Aside0.mk (bP_ (by repeat (first | (with_reducible first | exact HB.out | apply bA_ | apply bN_ | apply bD_ | refine bS_ ?_ GE175.out) | exact HB.out)) hb); clear HO178; clear BK175; clear HB; have HO178 := n0_; have HO181 := n1_; have BK175 := n2_; have HB := n3_; clear n0_ n1_ n2_ n3_; (try clear hb); (try clear hb2); (try clear hk); (try clear hi); (try clear ho0); have p6 : 0 ≤ (a1 : Int) := of_decide_eq_true (by first | (with_reducible assumption) | assumption); have q6 : (a1 : Int) < ((t179.length : Int) : Int) := of_decide_eq_true (by first | (with_reducible assumption) | assumption); obtain ⟨go6, co6, eo6, gb6, gl6, cl6, HG6⟩ := Kd.R_form HO181.out (by omega); (first | cases eo6 | (injection eo6 with ea_ en_ ec_; (first | subst ea_ | (injection ea_ with ea_; subst ea_)); subst ec_; clear en_)); have GB6 := Aside0.mk gb6; have GG6 := Aside0.mk HG6; clear gb6 gl6 HG6; obtain ⟨hx6_0, hf6_0⟩ := Kd.R_celln 0 HO181.out (a1 : Int) p6 q6; replace p6 := eq_true p6; replace q6 := eq_true q6; have n_ := Aside0.mk (Kd.R_mono (ok' := (fun k_ => some k_ ≠ (.slice Ao11 y176.length co11 : Value).ownBlock)) HO181.out (fun k_ hk => hk.2)); clear HO181; have HO181 := n_; clear n_; obtain ⟨hy13_, hz13_⟩ := Kd.R_celln 0 HO181.out (a1 : Int) (of_decide_eq_true (by first | (with_reducible assumption) | assumption)) (of_decide_eq_true (by first | (with_reducible assumption) | assumption)); have HP13 := Kd.R_putg HO181.out (a1 : Int) 0) | ((with_reducible refine gate_store (t := 3) (p := 16) rfl ?_); (try (rw [drewN_self w12]; generalize hq_ : World.drewN w12 _ = w12; have n0_ := Aside0.mk (Kd.R_at hq_ HO178.out); have n1_ := Aside0.mk (Kd.R_at hq_ HO181.out); have n2_ := Aside0.mk (blk_at hq_ BK175.out); have n3_ := Aside0.mk (below_at hq_ HB.out); clear hq_ HO178 HO181 BK175 HB; have HO178 := n0_; have HO181 := n1_; have BK175 := n2_; have HB := n3_; clear n0_ n1_ n2_ n3_; (try (have n_ := Aside0.mk (Kd.R_mono (ok' := (fun k_ => some k_ ≠ (.slice Ao11 y176.length co11 : Value).ownBlock)) HO181.out (fun k_ hk => hk.2)); clear HO181; have HO181 := n_; clear n_)); (try (obtain ⟨hy13_, hz13_⟩ := Kd.R_celln 0 HO181.out (a1 : Int) (of_decide_eq_true (by first | (with_reducible assumption) | assumption)) (of_decide_eq_true (by first | (with_reducible assumption) | assumption)))); (try (have HP13 := Kd.R_putg HO181.out (a1 : Int) 0)))); refine store_event (t := 3) (p := 16) (v := ?vo_w14) (w1 := (w12.setCell ⟨go6, (a1 : Int).toNat, none⟩ (.int .i64 0))) ?hg ?ho ?hn ?hr ?_; (case ho => rfl); (case hg => rfl); (case hn => rfl); (case hr => first | (go_simp; done) | (go_simp; rfl)); intro w14 hw; have hg : w12.grownBy w14 (some go6) := (by rw [hw]; exact HP13.2); have hp_ : Kd.R (Kd.int .i64) 3 w14 w.heap.size (fun k_ => some k_ ≠ (.slice Ao11 y176.length co11 : Value).ownBlock) (.slice (some ⟨go6, 0, none⟩) t179.length co6) y182 := (by rw [hw, Ny182.out]; exact HP13.1); clear HP13; have n0_ := Aside0.mk (blk_grown (g := gb175) (o := .cells #[.slice A0_0 l0_0.length c0_0] 30 (0, 0)) (by (with_reducible repeat (first | refine kN_ ?_ _ | refine kD_ ?_ | refine kA_ ?_ _)); exact BK175.out) hg (Kd.R_ne HO181.out BK175.out (by decide))); have n1_ := Aside0.mk (Kd.R_after (v := (.slice (some ⟨go6, 0, none⟩) t179.length co6)) (v1 := (.slice (some ⟨go6, 0, none⟩) t179.length co6)) (ok := (fun _ => True)) (by (with_reducible repeat (first | apply Kd.R_alloc | apply Kd.R_drewN | apply Kd.R_drew)); exact HO178.out) hg (.inl rfl)); have n2_ := Aside0.mk (hp_); have n3_ := Aside0.mk ((by rw [hw]; exact bS_ (HB.out) GB6.out : Below w.heap.size w w14)); clear BK175; clear HO178; clear HO181; clear HB; have BK175 := n0_; have HO178 := n1_; have HO181 := n2_; have HB := n3_; clear n0_ n1_ n2_ n3_; clear hg hw hp_) | ((with_reducible refine gate_dst (N := 18) rfl ?_); refine Kd.R_lit (Kd.int .i64) _ 3 ?hg (N := 18) ?hd (xs := ([a1] : List Int)) (inner := [.int .i64 a1]) (ok := fun _ => True) (okp := fun _ => True) ?hr ?hp (fun _ hk => hk) trivial (Below.refl _ _) (Nat.le_refl _) (by simp) ?_; (case hd => rfl); (case hg => rfl); (case hr => first | (go_simp; done) | (go_simp; rfl)); (case hp => exact (Reps.one (show Kd.M (Kd.int .i64) _ _ _ a1 [.int .i64 a1] from rfl) (Reps.none _ _))); intro v184 w15 ho16 hb hg_ hnew_; clear hg_ hnew_; (first | rw [← Ny183.out] at ho16 | (simp only [Int.reduceToNat] at ho16; rw [← Ny183.out] at ho16)); have n0_ := Aside0.mk (Kd.R_elder' (by (with_reducible repeat (first | apply Kd.R_alloc | apply Kd.R_drewN | apply Kd.R_drew)); exact HO178.out) (Kd.R_base ho16) hb); have n1_ := Aside0.mk (Kd.R_elder' (by (with_reducible repeat (first | apply Kd.R_alloc | apply Kd.R_drewN | apply Kd.R_drew)); exact HO181.out) (Kd.R_base ho16) hb); have n2_ := Aside0.mk (Kd.R_lower (Kd.R_new' (Kd.R_new' ho16 (Kd.R_lt (by (with_reducible repeat (first | apply Kd.R_alloc | apply Kd.R_drewN | apply Kd.R_drew)); exact HO178.out))) (Kd.R_lt (by (with_reducible repeat (first | apply Kd.R_alloc | apply Kd.R_drewN | apply Kd.R_drew)); exact HO181.out))) (bZ_ (by repeat (first | (with_reducible first | exact HB.out | apply bA_ | apply bN_ | apply bD_ | refine bS_ ?_ GE175.out) | exact HB.out)))); have n3_ := Aside0.mk (blk_below (g := gb175) (o := .cells #[.slice A0_0 l0_0.length c0_0] 30 (0, 0)) (by (with_reducible repeat (first | refine kN_ ?_ _ | refine kD_ ?_ | refine kA_ ?_ _)); exact BK175.out) hb); have n4_ := Aside0.mk (bP_ (by repeat (first | (with_reducible first | exact HB.out | apply bA_ | apply bN_ | apply bD_ | refine bS_ ?_ GE175.out) | exact HB.out)) hb); clear HO178; clear HO181; clear BK175; clear HB; have HO178 := n0_; have HO181 := n1_; have HO185 := n2_; have BK175 := n3_; have HB := n4_; clear n0_ n1_ n2_ n3_ n4_; clear hb ho16))
   repeat (go_quiet (first | ((with_reducible refine gate_dst (N := 2) rfl ?_); refine box_event ?hg (N := 2) ?hd (cs := #[.slice A0_0 l0_0.length c0_0]) (t := 30) ?hr ?_; (case hd => rfl); (case hg => rfl); (case hr => first | (go_simp; done) | (go_simp; rfl)); intro gb175 hg w7 hbox hb; have n0_ := Aside0.mk (bP_ (by repeat (first | (with_reducible first | exact HB.out | apply bA_ | apply bN_ | apply bD_) | exact HB.out)) hb); have n1_ := Aside0.mk (hbox); have n2_ := Aside0.mk ((by rw [hg]; exact (bZ_ (by repeat (first | (with_reducible first | exact HB.out | apply bA_ | apply bN_ | apply bD_) | exact HB.out))) : w.heap.size ≤ gb175)); have n3_ := Aside0.mk ((by rw [hg]; exact (bZ_ (by repeat (first | (with_reducible first | exact HB.out | apply bA_ | apply bN_ | apply bD_) | exact HB.out))) : w.heap.size ≤ gb175)); clear HB; have HB := n0_; have BK175 := n1_; have GW175 := n2_; have GE175 := n3_; clear n0_ n1_ n2_ n3_; clear hb hbox hg) | ((with_reducible refine gate_dst (N := 9) rfl ?_); refine Kd.R_lit (Kd.int .i64) _ 3 ?hg (N := 9) ?hd (xs := ([(-1)] : List Int)) (inner := [.int .i64 (-1)]) (ok := fun _ => True) (okp := fun _ => True) ?hr ?hp (fun _ hk => hk) trivial (Below.refl _ _) (Nat.le_refl _) (by simp) ?_; (case hd => rfl); (case hg => rfl); (case hr => first | (go_simp; done) | (go_simp; rfl)); (case hp => exact (Reps.one (show Kd.M (Kd.int .i64) _ _ _ (-1) [.int .i64 (-1)] from rfl) (Reps.none _ _))); intro v177 w8 ho9 hb hg_ hnew_; clear hg_ hnew_; (first | rw [← Ny176.out] at ho9 | (simp only [Int.reduceToNat] at ho9; rw [← Ny176.out] at ho9)); have n0_ := Aside0.mk (Kd.R_lower ho9 (bZ_ (by repeat (first | (with_reducible first | exact HB.out | apply bA_ | apply bN_ | apply bD_ | refine bS_ ?_ GE175.out) | exact HB.out)))); have n1_ := Aside0.mk (blk_below (g := gb175) (o := .cells #[.slice A0_0 l0_0.length c0_0] 30 (0, 0)) (by (with_reducible repeat (first | refine kN_ ?_ _ | refine kD_ ?_ | refine kA_ ?_ _)); exact BK175.out) hb); have n2_ := Aside0.mk (bP_ (by repeat (first | (with_reducible first | exact HB.out | apply bA_ | apply bN_ | apply bD_ | refine bS_ ?_ GE175.out) | exact HB.out)) hb); clear BK175; clear HB; have HO178 := n0_; have BK175 := n1_; have HB := n2_; clear n0_ n1_ n2_; clear hb ho9; have hcz10_0 : w8.cell? ⟨gb175, 0, none⟩ = some (.slice A0_0 l0_0.length c0_0) := (blk_cell BK175.out 0).trans rfl; have hfz10_0 := kF_ BK175.out 0; obtain ⟨Ao11, co11, eo11⟩ := Kd.R_slice HO178.out; subst eo11) | (go_at_call 128; (with_reducible refine (slices_Repeat_int_int.calls _ _ y176 (l0_0.length : Int) t179 _ ?side1 ?side2 A3.out).mono ?_); (case side1 => repeat (first | exact (Kd.R_reads' HO178.out).2.2 | (with_reducible refine Kd.C_alloc ?_ _) | (with_reducible refine Kd.C_drewN ?_ _) | (with_reducible refine Kd.C_drew ?_))); (case side2 => exact (Kd.R_reads' HO178.out).2.1); rintro e w12 ⟨v180, rfl, ho0, hb⟩; have n0_ := Aside0.mk (Kd.R_elder' (by (with_reducible repeat (first | apply Kd.R_alloc | apply Kd.R_drewN | apply Kd.R_drew)); exact HO178.out) (Kd.R_base ho0) hb); have n1_ := Aside0.mk (Kd.R_lower (Kd.R_new' ho0 (Kd.R_lt (by (with_reducible repeat (first | apply Kd.R_alloc | apply Kd.R_drewN | apply Kd.R_drew)); exact HO178.out))) (bZ_ (by repeat (first | (with_reducible first | exact HB.out | apply bA_ | apply bN_ | apply bD_ | refine bS_ ?_ GE175.out) | exact HB.out)))); have n2_ := Aside0.mk (blk_below (g := gb175) (o := .cells #[.slice A0_0 l0_0.length c0_0] 30 (0, 0)) (by (with_reducible repeat (first | refine kN_ ?_ _ | refine kD_ ?_ | refine kA_ ?_ _)); exact BK175.out) hb); have n3_ := Aside0.mk (bP_ (by repeat (first | (with_reducible first | exact HB.out | apply bA_ | apply bN_ | apply bD_ | refine bS_ ?_ GE175.out) | exact HB.out)) hb); clear HO178; clear BK175; clear HB; have HO178 := n0_; have HO181 := n1_; have BK175 := n2_; have HB := n3_; clear n0_ n1_ n2_ n3_; (try clear hb); (try clear hb2); (try clear hk); (try clear hi); (try clear ho0); have p6 : 0 ≤ (a1 : Int) := of_decide_eq_true (by first | (with_reducible assumption) | assumption); have q6 : (a1 : Int) < ((t179.length : Int) : Int) := of_decide_eq_true (by first | (with_reducible assumption) | assumption); obtain ⟨go6, co6, eo6, gb6, gl6, cl6, HG6⟩ := Kd.R_form HO181.out (by omega); (first | cases eo6 | (injection eo6 with ea_ en_ ec_; (first | subst ea_ | (injection ea_ with ea_; subst ea_)); subst ec_; clear en_)); have GB6 := Aside0.mk gb6; have GG6 := Aside0.mk HG6; clear gb6 gl6 HG6; obtain ⟨hx6_0, hf6_0⟩ := Kd.R_celln 0 HO181.out (a1 : Int) p6 q6; replace p6 := eq_true p6; replace q6 := eq_true q6; have n_ := Aside0.mk (Kd.R_mono (ok' := (fun k_ => some k_ ≠ (.slice Ao11 y176.length co11 : Value).ownBlock)) HO181.out (fun k_ hk => hk.2)); clear HO181; have HO181 := n_; clear n_; obtain ⟨hy13_, hz13_⟩ := Kd.R_celln 0 HO181.out (a1 : Int) (of_decide_eq_true (by first | (with_reducible assumption) | assumption)) (of_decide_eq_true (by first | (with_reducible assumption) | assumption)); have HP13 := Kd.R_putg HO181.out (a1 : Int) 0) | ((with_reducible refine gate_store (t := 3) (p := 16) rfl ?_); (try (rw [drewN_self w12]; generalize hq_ : World.drewN w12 _ = w12; have n0_ := Aside0.mk (Kd.R_at hq_ HO178.out); have n1_ := Aside0.mk (Kd.R_at hq_ HO181.out); have n2_ := Aside0.mk (blk_at hq_ BK175.out); have n3_ := Aside0.mk (below_at hq_ HB.out); clear hq_ HO178 HO181 BK175 HB; have HO178 := n0_; have HO181 := n1_; have BK175 := n2_; have HB := n3_; clear n0_ n1_ n2_ n3_; (try (have n_ := Aside0.mk (Kd.R_mono (ok' := (fun k_ => some k_ ≠ (.slice Ao11 y176.length co11 : Value).ownBlock)) HO181.out (fun k_ hk => hk.2)); clear HO181; have HO181 := n_; clear n_)); (try (obtain ⟨hy13_, hz13_⟩ := Kd.R_celln 0 HO181.out (a1 : Int) (of_decide_eq_true (by first | (with_reducible assumption) | assumption)) (of_decide_eq_true (by first | (with_reducible assumption) | assumption)))); (try (have HP13 := Kd.R_putg HO181.out (a1 : Int) 0)))); refine store_event (t := 3) (p := 16) (v := ?vo_w14) (w1 := (w12.setCell ⟨go6, (a1 : Int).toNat, none⟩ (.int .i64 0))) ?hg ?ho ?hn ?hr ?_; (case ho => rfl); (case hg => rfl); (case hn => rfl); (case hr => first | (go_simp; done) | (go_simp; rfl)); intro w14 hw; have hg : w12.grownBy w14 (some go6) := (by rw [hw]; exact HP13.2); have hp_ : Kd.R (Kd.int .i64) 3 w14 w.heap.size (fun k_ => some k_ ≠ (.slice Ao11 y176.length co11 : Value).ownBlock) (.slice (some ⟨go6, 0, none⟩) t179.length co6) y182 := (by rw [hw, Ny182.out]; exact HP13.1); clear HP13; have n0_ := Aside0.mk (blk_grown (g := gb175) (o := .cells #[.slice A0_0 l0_0.length c0_0] 30 (0, 0)) (by (with_reducible repeat (first | refine kN_ ?_ _ | refine kD_ ?_ | refine kA_ ?_ _)); exact BK175.out) hg (Kd.R_ne HO181.out BK175.out (by decide))); have n1_ := Aside0.mk (Kd.R_after (v := (.slice (some ⟨go6, 0, none⟩) t179.length co6)) (v1 := (.slice (some ⟨go6, 0, none⟩) t179.length co6)) (ok := (fun _ => True)) (by (with_reducible repeat (first | apply Kd.R_alloc | apply Kd.R_drewN | apply Kd.R_drew)); exact HO178.out) hg (.inl rfl)); have n2_ := Aside0.mk (hp_); have n3_ := Aside0.mk ((by rw [hw]; exact bS_ (HB.out) GB6.out : Below w.heap.size w w14)); clear BK175; clear HO178; clear HO181; clear HB; have BK175 := n0_; have HO178 := n1_; have HO181 := n2_; have HB := n3_; clear n0_ n1_ n2_ n3_; clear hg hw hp_) | ((with_reducible refine gate_dst (N := 18) rfl ?_); refine Kd.R_lit (Kd.int .i64) _ 3 ?hg (N := 18) ?hd (xs := ([a1] : List Int)) (inner := [.int .i64 a1]) (ok := fun _ => True) (okp := fun _ => True) ?hr ?hp (fun _ hk => hk) trivial (Below.refl _ _) (Nat.le_refl _) (by simp) ?_; (case hd => rfl); (case hg => rfl); (case hr => first | (go_simp; done) | (go_simp; rfl)); (case hp => exact (Reps.one (show Kd.M (Kd.int .i64) _ _ _ a1 [.int .i64 a1] from rfl) (Reps.none _ _))); intro v184 w15 ho16 hb hg_ hnew_; clear hg_ hnew_; (first | rw [← Ny183.out] at ho16 | (simp only [Int.reduceToNat] at ho16; rw [← Ny183.out] at ho16)); have n0_ := Aside0.mk (Kd.R_elder' (by (with_reducible repeat (first | apply Kd.R_alloc | apply Kd.R_drewN | apply Kd.R_drew)); exact HO178.out) (Kd.R_base ho16) hb); have n1_ := Aside0.mk (Kd.R_elder' (by (with_reducible repeat (first | apply Kd.R_alloc | apply Kd.R_drewN | apply Kd.R_drew)); exact HO181.out) (Kd.R_base ho16) hb); have n2_ := Aside0.mk (Kd.R_lower (Kd.R_new' (Kd.R_new' ho16 (Kd.R_lt (by (with_reducible repeat (first | apply Kd.R_alloc | apply Kd.R_drewN | apply Kd.R_drew)); exact HO178.out))) (Kd.R_lt (by (with_reducible repeat (first | apply Kd.R_alloc | apply Kd.R_drewN | apply Kd.R_drew)); exact HO181.out))) (bZ_ (by repeat (first | (with_reducible first | exact HB.out | apply bA_ | apply bN_ | apply bD_ | refine bS_ ?_ GE175.out) | exact HB.out)))); have n3_ := Aside0.mk (blk_below (g := gb175) (o := .cells #[.slice A0_0 l0_0.length c0_0] 30 (0, 0)) (by (with_reducible repeat (first | refine kN_ ?_ _ | refine kD_ ?_ | refine kA_ ?_ _)); exact BK175.out) hb); have n4_ := Aside0.mk (bP_ (by repeat (first | (with_reducible first | exact HB.out | apply bA_ | apply bN_ | apply bD_ | refine bS_ ?_ GE175.out) | exact HB.out)) hb); clear HO178; clear HO181; clear BK175; clear HB; have HO178 := n0_; have HO181 := n1_; have HO185 := n2_; have BK175 := n3_; have HB := n4_; clear n0_ n1_ n2_ n3_ n4_; clear hb ho16)); try go_wp2_with (first | ((with_reducible refine gate_dst (N := 2) rfl ?_); refine box_event ?hg (N := 2) ?hd (cs := #[.slice A0_0 l0_0.length c0_0]) (t := 30) ?hr ?_; (case hd => rfl); (case hg => rfl); (case hr => first | (go_simp; done) | (go_simp; rfl)); intro gb175 hg w7 hbox hb; have n0_ := Aside0.mk (bP_ (by repeat (first | (with_reducible first | exact HB.out | apply bA_ | apply bN_ | apply bD_) | exact HB.out)) hb); have n1_ := Aside0.mk (hbox); have n2_ := Aside0.mk ((by rw [hg]; exact (bZ_ (by repeat (first | (with_reducible first | exact HB.out | apply bA_ | apply bN_ | apply bD_) | exact HB.out))) : w.heap.size ≤ gb175)); have n3_ := Aside0.mk ((by rw [hg]; exact (bZ_ (by repeat (first | (with_reducible first | exact HB.out | apply bA_ | apply bN_ | apply bD_) | exact HB.out))) : w.heap.size ≤ gb175)); clear HB; have HB := n0_; have BK175 := n1_; have GW175 := n2_; have GE175 := n3_; clear n0_ n1_ n2_ n3_; clear hb hbox hg) | ((with_reducible refine gate_dst (N := 9) rfl ?_); refine Kd.R_lit (Kd.int .i64) _ 3 ?hg (N := 9) ?hd (xs := ([(-1)] : List Int)) (inner := [.int .i64 (-1)]) (ok := fun _ => True) (okp := fun _ => True) ?hr ?hp (fun _ hk => hk) trivial (Below.refl _ _) (Nat.le_refl _) (by simp) ?_; (case hd => rfl); (case hg => rfl); (case hr => first | (go_simp; done) | (go_simp; rfl)); (case hp => exact (Reps.one (show Kd.M (Kd.int .i64) _ _ _ (-1) [.int .i64 (-1)] from rfl) (Reps.none _ _))); intro v177 w8 ho9 hb hg_ hnew_; clear hg_ hnew_; (first | rw [← Ny176.out] at ho9 | (simp only [Int.reduceToNat] at ho9; rw [← Ny176.out] at ho9)); have n0_ := Aside0.mk (Kd.R_lower ho9 (bZ_ (by repeat (first | (with_reducible first | exact HB.out | apply bA_ | apply bN_ | apply bD_ | refine bS_ ?_ GE175.out) | exact HB.out)))); have n1_ := Aside0.mk (blk_below (g := gb175) (o := .cells #[.slice A0_0 l0_0.length c0_0] 30 (0, 0)) (by (with_reducible repeat (first | refine kN_ ?_ _ | refine kD_ ?_ | refine kA_ ?_ _)); exact BK175.out) hb); have n2_ := Aside0.mk (bP_ (by repeat (first | (with_reducible first | exact HB.out | apply bA_ | apply bN_ | apply bD_ | refine bS_ ?_ GE175.out) | exact HB.out)) hb); clear BK175; clear HB; have HO178 := n0_; have BK175 := n1_; have HB := n2_; clear n0_ n1_ n2_; clear hb ho9; have hcz10_0 : w8.cell? ⟨gb175, 0, none⟩ = some (.slice A0_0 l0_0.length c0_0) := (blk_cell BK175.out 0).trans rfl; have hfz10_0 := kF_ BK175.out 0; obtain ⟨Ao11, co11, eo11⟩ := Kd.R_slice HO178.out; subst eo11) | (go_at_call 128; (with_reducible refine (slices_Repeat_int_int.calls _ _ y176 (l0_0.length : Int) t179 _ ?side1 ?side2 A3.out).mono ?_); (case side1 => repeat (first | exact (Kd.R_reads' HO178.out).2.2 | (with_reducible refine Kd.C_alloc ?_ _) | (with_reducible refine Kd.C_drewN ?_ _) | (with_reducible refine Kd.C_drew ?_))); (case side2 => exact (Kd.R_reads' HO178.out).2.1); rintro e w12 ⟨v180, rfl, ho0, hb⟩; have n0_ := Aside0.mk (Kd.R_elder' (by (with_reducible repeat (first | apply Kd.R_alloc | apply Kd.R_drewN | apply Kd.R_drew)); exact HO178.out) (Kd.R_base ho0) hb); have n1_ := Aside0.mk (Kd.R_lower (Kd.R_new' ho0 (Kd.R_lt (by (with_reducible repeat (first | apply Kd.R_alloc | apply Kd.R_drewN | apply Kd.R_drew)); exact HO178.out))) (bZ_ (by repeat (first | (with_reducible first | exact HB.out | apply bA_ | apply bN_ | apply bD_ | refine bS_ ?_ GE175.out) | exact HB.out)))); have n2_ := Aside0.mk (blk_below (g := gb175) (o := .cells #[.slice A0_0 l0_0.length c0_0] 30 (0, 0)) (by (with_reducible repeat (first | refine kN_ ?_ _ | refine kD_ ?_ | refine kA_ ?_ _)); exact BK175.out) hb); have n3_ := Aside0.mk (bP_ (by repeat (first | (with_reducible first | exact HB.out | apply bA_ | apply bN_ | apply bD_ | refine bS_ ?_ GE175.out) | exact HB.out)) hb); clear HO178; clear BK175; clear HB; have HO178 := n0_; have HO181 := n1_; have BK175 := n2_; have HB := n3_; clear n0_ n1_ n2_ n3_; (try clear hb); (try clear hb2); (try clear hk); (try clear hi); (try clear ho0); have p6 : 0 ≤ (a1 : Int) := of_decide_eq_true (by first | (with_reducible assumption) | assumption); have q6 : (a1 : Int) < ((t179.length : Int) : Int) := of_decide_eq_true (by first | (with_reducible assumption) | assumption); obtain ⟨go6, co6, eo6, gb6, gl6, cl6, HG6⟩ := Kd.R_form HO181.out (by omega); (first | cases eo6 | (injection eo6 with ea_ en_ ec_; (first | subst ea_ | (injection ea_ with ea_; subst ea_)); subst ec_; clear en_)); have GB6 := Aside0.mk gb6; have GG6 := Aside0.mk HG6; clear gb6 gl6 HG6; obtain ⟨hx6_0, hf6_0⟩ := Kd.R_celln 0 HO181.out (a1 : Int) p6 q6; replace p6 := eq_true p6; replace q6 := eq_true q6; have n_ := Aside0.mk (Kd.R_mono (ok' := (fun k_ => some k_ ≠ (.slice Ao11 y176.length co11 : Value).ownBlock)) HO181.out (fun k_ hk => hk.2)); clear HO181; have HO181 := n_; clear n_; obtain ⟨hy13_, hz13_⟩ := Kd.R_celln 0 HO181.out (a1 : Int) (of_decide_eq_true (by first | (with_reducible assumption) | assumption)) (of_decide_eq_true (by first | (with_reducible assumption) | assumption)); have HP13 := Kd.R_putg HO181.out (a1 : Int) 0) | ((with_reducible refine gate_store (t := 3) (p := 16) rfl ?_); (try (rw [drewN_self w12]; generalize hq_ : World.drewN w12 _ = w12; have n0_ := Aside0.mk (Kd.R_at hq_ HO178.out); have n1_ := Aside0.mk (Kd.R_at hq_ HO181.out); have n2_ := Aside0.mk (blk_at hq_ BK175.out); have n3_ := Aside0.mk (below_at hq_ HB.out); clear hq_ HO178 HO181 BK175 HB; have HO178 := n0_; have HO181 := n1_; have BK175 := n2_; have HB := n3_; clear n0_ n1_ n2_ n3_; (try (have n_ := Aside0.mk (Kd.R_mono (ok' := (fun k_ => some k_ ≠ (.slice Ao11 y176.length co11 : Value).ownBlock)) HO181.out (fun k_ hk => hk.2)); clear HO181; have HO181 := n_; clear n_)); (try (obtain ⟨hy13_, hz13_⟩ := Kd.R_celln 0 HO181.out (a1 : Int) (of_decide_eq_true (by first | (with_reducible assumption) | assumption)) (of_decide_eq_true (by first | (with_reducible assumption) | assumption)))); (try (have HP13 := Kd.R_putg HO181.out (a1 : Int) 0)))); refine store_event (t := 3) (p := 16) (v := ?vo_w14) (w1 := (w12.setCell ⟨go6, (a1 : Int).toNat, none⟩ (.int .i64 0))) ?hg ?ho ?hn ?hr ?_; (case ho => rfl); (case hg => rfl); (case hn => rfl); (case hr => first | (go_simp; done) | (go_simp; rfl)); intro w14 hw; have hg : w12.grownBy w14 (some go6) := (by rw [hw]; exact HP13.2); have hp_ : Kd.R (Kd.int .i64) 3 w14 w.heap.size (fun k_ => some k_ ≠ (.slice Ao11 y176.length co11 : Value).ownBlock) (.slice (some ⟨go6, 0, none⟩) t179.length co6) y182 := (by rw [hw, Ny182.out]; exact HP13.1); clear HP13; have n0_ := Aside0.mk (blk_grown (g := gb175) (o := .cells #[.slice A0_0 l0_0.length c0_0] 30 (0, 0)) (by (with_reducible repeat (first | refine kN_ ?_ _ | refine kD_ ?_ | refine kA_ ?_ _)); exact BK175.out) hg (Kd.R_ne HO181.out BK175.out (by decide))); have n1_ := Aside0.mk (Kd.R_after (v := (.slice (some ⟨go6, 0, none⟩) t179.length co6)) (v1 := (.slice (some ⟨go6, 0, none⟩) t179.length co6)) (ok := (fun _ => True)) (by (with_reducible repeat (first | apply Kd.R_alloc | apply Kd.R_drewN | apply Kd.R_drew)); exact HO178.out) hg (.inl rfl)); have n2_ := Aside0.mk (hp_); have n3_ := Aside0.mk ((by rw [hw]; exact bS_ (HB.out) GB6.out : Below w.heap.size w w14)); clear BK175; clear HO178; clear HO181; clear HB; have BK175 := n0_; have HO178 := n1_; have HO181 := n2_; have HB := n3_; clear n0_ n1_ n2_ n3_; clear hg hw hp_) | ((with_reducible refine gate_dst (N := 18) rfl ?_); refine Kd.R_lit (Kd.int .i64) _ 3 ?hg (N := 18) ?hd (xs := ([a1] : List Int)) (inner := [.int .i64 a1]) (ok := fun _ => True) (okp := fun _ => True) ?hr ?hp (fun _ hk => hk) trivial (Below.refl _ _) (Nat.le_refl _) (by simp) ?_; (case hd => rfl); (case hg => rfl); (case hr => first | (go_simp; done) | (go_simp; rfl)); (case hp => exact (Reps.one (show Kd.M (Kd.int .i64) _ _ _ a1 [.int .i64 a1] from rfl) (Reps.none _ _))); intro v184 w15 ho16 hb hg_ hnew_; clear hg_ hnew_; (first | rw [← Ny183.out] at ho16 | (simp only [Int.reduceToNat] at ho16; rw [← Ny183.out] at ho16)); have n0_ := Aside0.mk (Kd.R_elder' (by (with_reducible repeat (first | apply Kd.R_alloc | apply Kd.R_drewN | apply Kd.R_drew)); exact HO178.out) (Kd.R_base ho16) hb); have n1_ := Aside0.mk (Kd.R_elder' (by (with_reducible repeat (first | apply Kd.R_alloc | apply Kd.R_drewN | apply Kd.R_drew)); exact HO181.out) (Kd.R_base ho16) hb); have n2_ := Aside0.mk (Kd.R_lower (Kd.R_new' (Kd.R_new' ho16 (Kd.R_lt (by (with_reducible repeat (first | apply Kd.R_alloc | apply Kd.R_drewN | apply Kd.R_drew)); exact HO178.out))) (Kd.R_lt (by (with_reducible repeat (first | apply Kd.R_alloc | apply Kd.R_drewN | apply Kd.R_drew)); exact HO181.out))) (bZ_ (by repeat (first | (with_reducible first | exact HB.out | apply bA_ | apply bN_ | apply bD_ | refine bS_ ?_ GE175.out) | exact HB.out)))); have n3_ := Aside0.mk (blk_below (g := gb175) (o := .cells #[.slice A0_0 l0_0.length c0_0] 30 (0, 0)) (by (with_reducible repeat (first | refine kN_ ?_ _ | refine kD_ ?_ | refine kA_ ?_ _)); exact BK175.out) hb); have n4_ := Aside0.mk (bP_ (by repeat (first | (with_reducible first | exact HB.out | apply bA_ | apply bN_ | apply bD_ | refine bS_ ?_ GE175.out) | exact HB.out)) hb); clear HO178; clear HO181; clear BK175; clear HB; have HO178 := n0_; have HO181 := n1_; have HO185 := n2_; have BK175 := n3_; have HB := n4_; clear n0_ n1_ n2_ n3_ n4_; clear hb ho16)))
   go_loopg [6] k (fun kq v6 w' => ∃ (x5_1 : List Int) (x6_1 : List Int), Aside0 (impl_Graph_lengths.l0 kq x5_1 x6_1 l0_0 = some r) ∧ Aside0 (kq ≤ k) ∧ Aside0 (Kd.R (Kd.int .i64) 3 w' w.heap.size (fun k_ => some k_ ≠ (v6 : Value).ownBlock) (.slice (some ⟨go6, 0, none⟩) t179.length co6) x5_1) ∧ Aside0 (Kd.Q (Kd.int .i64) 3 w' w.heap.size (fun k_ => some k_ ≠ ((.slice (some ⟨go6, 0, none⟩) t179.length co6) : Value).ownBlock) v6 x6_1) ∧ Aside0 (w'.heap[gb175]? = some (.cells #[(.slice A0_0 l0_0.length c0_0)] 30 (0, 0))) ∧ Aside0 (Below w.heap.size w w'))
   case atStart => exact ⟨(y182), (y183), H', ⟨Nat.le_refl _⟩, ⟨by (with_reducible repeat (first | apply Kd.R_alloc | apply Kd.R_drewN | apply Kd.R_drew)); exact Kd.R_mono HO181.out (fun _ hk => hk.2)⟩, ⟨Kd.Q_of_R (by (with_reducible repeat (first | apply Kd.R_alloc | apply Kd.R_drewN | apply Kd.R_drew)); exact Kd.R_mono HO185.out (fun _ hk => hk.2))⟩, ⟨by (with_reducible repeat (first | refine kN_ ?_ _ | refine kD_ ?_ | refine kA_ ?_ _)); exact BK175.out⟩, ⟨by repeat (first | (with_reducible first | exact HB.out | apply bA_ | apply bN_ | apply bD_ | refine bS_ ?_ GE175.out) | exact HB.out)⟩⟩
   case round =>
    clear H'
    try clear c1
    try clear p2
    try clear c4
    try clear c4b0
    try clear c5
    try clear c5b0
    try clear p6
    try clear q6
    try clear hx6
    try clear hf6
    try clear c11
    try clear hcz10_0
    try clear hfz10_0
    try clear hx6_0
    try clear p6
    try clear q6
    obtain ⟨x5_1, x6_1, HA, HK1, HO_5, HO_6, BK175, HB⟩ := hrel
    have hl5_1 := (Kd.R_reads' HO_5.out).1
    rw [hl5_1] at HO_5
    (try simp only [hl5_1])
    (try simp only [hl5_1] at BK175)
    (try simp only [hl5_1] at HO_6)
    cases gk with
    | zero => exact absurd HA.out (by simp [impl_Graph_lengths.l0])
    | succ k1 =>
     have H := HA.out
     clear HA
     simp only [impl_Graph_lengths.l0] at H
     by_cases c17 : (x6_1.length : Int) > 0
     ·rw [if_pos c17] at H
      have c17b0 : decide (0 < (x6_1.length : Int)) = true := decide_eq_true c17
      have c17b1 : decide (0 < x6_1.length) = true := decide_eq_true (by omega)
      clear c17
      by_cases c18 : 0 < (x6_1.length : Int)
      ·rw [if_pos c18] at H
       have c18b0 : decide (0 < (x6_1.length : Int)) = true := decide_eq_true c18
       have c18b1 : decide (0 < x6_1.length) = true := decide_eq_true (by omega)
       clear c18
       by_cases c19 : 0 ≤ (rd x6_1 0)
       ·rw [if_pos c19] at H
        have c19b0 : decide (0 ≤ (rd x6_1 0)) = true := decide_eq_true c19
        clear c19
        by_cases c20 : (rd x6_1 0) < (l0_0.length : Int)
        ·rw [if_pos c20] at H
         have c20b0 : decide ((rd x6_1 0) < (l0_0.length : Int)) = true := decide_eq_true c20
         clear c20
         have H' := Aside0.mk H
         clear H
         obtain ⟨Ao21, co21, eo21, _⟩ := Kd.Q_slice HO_6.out
         subst eo21
         have hcz22_0 : wr.cell? ⟨gb175, 0, none⟩ = some (.slice A0_0 l0_0.length c0_0) := (blk_cell BK175.out 0).trans rfl
         have hfz22_0 := kF_ BK175.out 0
         have p186 : 0 ≤ (0 : Int) := (by omega)
         have q186 : 0 < (x6_1.length : Int) := of_decide_eq_true (by first | (with_reducible assumption) | assumption)
         obtain ⟨ad186, e186, hx186_0⟩ := Kd.at_int (Kd.Q_reads' HO_6.out).2.2 0 p186 q186
         cases e186
         have qi186 : (0 < x6_1.length) = True := eq_true (by omega)
         (try rw [show ((0 : Int)).toNat = 0 from rfl] at hx186_0)
         (try rw [Addr.add_zero'] at hx186_0)
         replace p186 := eq_true p186
         replace q186 := eq_true q186
         have p187 : 0 ≤ ((rd x6_1 0) : Int) := of_decide_eq_true (by first | (with_reducible assumption) | assumption)
         have q187 : (rd x6_1 0) < (l0_0.length : Int) := of_decide_eq_true (by first | (with_reducible assumption) | assumption)
         obtain ⟨ad187, A187_0, c187_0, e187, hx187_0, hl187_0, hi187_0⟩ := at_L1 HR0_0.out (rd x6_1 0) p187 q187
         cases e187
         replace hx187_0 := (HB.out.cell (World.block_lt_of_cell? w _ hx187_0)).trans hx187_0
         have HR187_0 := Aside0.mk hi187_0
         have HC187_0 := Aside0.mk hl187_0
         clear hi187_0 hl187_0
         replace p187 := eq_true p187
         replace q187 := eq_true q187
         go_wp2
         repeat (go_quiet (fail); try go_wp2)
         go_loopg [6, 32] k1 (fun kq v6 v32 w' => ∃ (x5_2 : List Int) (x6_2 : List Int) (x32_2 : Int), v32 = .int .i64 x32_2 ∧ Aside0 (impl_Graph_lengths.l1 kq x5_2 x6_2 (rd_L1 l0_0 (rd x6_1 0)) ((rd_L1 l0_0 (rd x6_1 0)).length : Int) x32_2 l0_0 = some r) ∧ Aside0 (kq ≤ k1) ∧ Aside0 (Kd.R (Kd.int .i64) 3 w' w.heap.size (fun k_ => some k_ ≠ (v6 : Value).ownBlock) (.slice (some ⟨go6, 0, none⟩) x5_1.length co6) x5_2) ∧ Aside0 (Kd.Q (Kd.int .i64) 3 w' w.heap.size (fun k_ => some k_ ≠ ((.slice (some ⟨go6, 0, none⟩) x5_1.length co6) : Value).ownBlock) v6 x6_2) ∧ Aside0 (w'.heap[gb175]? = some (.cells #[(.slice (some ad187) l0_0.length c0_0)] 30 (0, 0))) ∧ Aside0 (Below w.heap.size w w'))
         case atStart => exact ⟨(x5_1), (x6_1), (0), (by first | rfl | (simp; done) | (simp [*]; done)), H', ⟨Nat.le_refl _⟩, ⟨by (try simp only [hl5_1]); (with_reducible repeat (first | apply Kd.R_alloc | apply Kd.R_drewN | apply Kd.R_drew)); exact HO_5.out⟩, ⟨by (try simp only [hl5_1]); (with_reducible repeat (first | apply Kd.Q_alloc | apply Kd.Q_drewN | apply Kd.Q_drew)); exact HO_6.out⟩, ⟨by (try simp only [hl5_1]); (with_reducible repeat (first | refine kN_ ?_ _ | refine kD_ ?_ | refine kA_ ?_ _)); exact BK175.out⟩, ⟨by repeat (first | (with_reducible first | exact HB.out | apply bA_ | apply bN_ | apply bD_ | refine bS_ ?_ GE175.out) | exact HB.out)⟩⟩
         case round =>
          clear H'
          try clear c1
          try clear p1
          try clear q1
          try clear hx1
          try clear qi1
          try clear c2
          try clear p2
          try clear c4
          try clear c4b0
          try clear c5
          try clear c5b0
          try clear p6
          try clear q6
          try clear hx6
          try clear hf6
          try clear c11
          try clear c17
          try clear c17b0
          try clear c17b1
          try clear c18
          try clear c18b0
          try clear c18b1
          try clear p18
          try clear q18
          try clear hx18
          try clear qi18
          try clear c19
          try clear c19b0
          try clear c20
          try clear c20b0
          try clear hcz10_0
          try clear hcz22_0
          try clear hfz10_0
          try clear hfz22_0
          try clear hx186_0
          try clear hx187_0
          try clear hx6_0
          try clear p186
          try clear p187
          try clear p2
          try clear p6
          try clear q186
          try clear q187
          try clear q6
          obtain ⟨x5_2, x6_2, x32_2, rfl, HA, HK2, HO_5, HO_6, BK175, HB⟩ := hrel
          have hl5_2 := (Kd.R_reads' HO_5.out).1
          rw [hl5_2] at HO_5
          (try simp only [hl5_2])
          (try simp only [hl5_2] at BK175)
          (try simp only [hl5_2] at HO_6)
          cases gk with
          | zero => exact absurd HA.out (by simp [impl_Graph_lengths.l1])
          | succ k2 =>
           have H := HA.out
           clear HA
           simp only [impl_Graph_lengths.l1] at H
           by_cases c23 : x32_2 < ((rd_L1 l0_0 (rd x6_1 0)).length : Int)
           ·rw [if_pos c23] at H
            have c23b0 : decide (x32_2 < ((rd_L1 l0_0 (rd x6_1 0)).length : Int)) = true := decide_eq_true c23
            clear c23
            by_cases c24 : 0 ≤ x32_2
            ·rw [if_pos c24] at H
             have c24b0 : decide (0 ≤ x32_2) = true := decide_eq_true c24
             clear c24
             by_cases c25 : x32_2 < ((rd_L1 l0_0 (rd x6_1 0)).length : Int)
             ·rw [if_pos c25] at H
              have c25b0 : decide (x32_2 < ((rd_L1 l0_0 (rd x6_1 0)).length : Int)) = true := decide_eq_true c25
              clear c25
              by_cases c26 : 0 ≤ (rd (rd_L1 l0_0 (rd x6_1 0)) x32_2)
              ·rw [if_pos c26] at H
               have c26b0 : decide (0 ≤ (rd (rd_L1 l0_0 (rd x6_1 0)) x32_2)) = true := decide_eq_true c26
               clear c26
               by_cases c27 : (rd (rd_L1 l0_0 (rd x6_1 0)) x32_2) < (x5_2.length : Int)
               ·rw [if_pos c27] at H
                have c27b0 : decide ((rd (rd_L1 l0_0 (rd x6_1 0)) x32_2) < (x5_2.length : Int)) = true := decide_eq_true c27
                clear c27
                by_cases c28 : (rd x5_2 (rd (rd_L1 l0_0 (rd x6_1 0)) x32_2)) < 0
                ·rw [if_pos c28] at H
                 have c28b0 : decide ((rd x5_2 (rd (rd_L1 l0_0 (rd x6_1 0)) x32_2)) < 0) = true := decide_eq_true c28
                 clear c28
                 by_cases c29 : 0 < (x6_2.length : Int)
                 ·rw [if_pos c29] at H
                  have c29b0 : decide (0 < (x6_2.length : Int)) = true := decide_eq_true c29
                  have c29b1 : decide (0 < x6_2.length) = true := decide_eq_true (by omega)
                  clear c29
                  by_cases c30 : 0 ≤ (rd x6_2 0)
                  ·rw [if_pos c30] at H
                   have c30b0 : decide (0 ≤ (rd x6_2 0)) = true := decide_eq_true c30
                   clear c30
                   by_cases c31 : (rd x6_2 0) < (x5_2.length : Int)
                   ·rw [if_pos c31] at H
                    have c31b0 : decide ((rd x6_2 0) < (x5_2.length : Int)) = true := decide_eq_true c31
                    clear c31
                    obtain ⟨y192, hy192⟩ : ∃ y_ : List Int, y_ = (x5_2.set ((rd (rd_L1 l0_0 (rd x6_1 0)) x32_2) : Int).toNat (wrap64 ((rd x5_2 (rd x6_2 0)) + 1))) := ⟨_, rfl⟩
                    replace H : (if x6_2.length < 17592186044416 then (impl_Graph_lengths.l1 k2 y192 (x6_2 ++ [rd (rd_L1 l0_0 (rd x6_1 0)) x32_2]) (rd_L1 l0_0 (rd x6_1 0)) ((rd_L1 l0_0 (rd x6_1 0)).length : Int) (wrap64 (x32_2 + 1)) l0_0) else (none)) = some r := by first | (rw [hy192]; with_reducible exact H) | (have H2_ := (Option.bind_some _ _).symm.trans H; rw [hy192]; with_reducible exact H2_) | (have H2_ := (Option.bind_some _ _).symm.trans H; with_reducible exact H2_) | with_reducible exact H | (rw [hy192]; exact H) | exact H
                    have Ny192 := Aside0.mk hy192
                    clear hy192
                    by_cases c33 : x6_2.length < 17592186044416
                    ·rw [if_pos c33] at H
                     have LMc33 := Aside0.mk c33
                     clear c33
                     obtain ⟨y193, hy193⟩ : ∃ y_ : List Int, y_ = (x6_2 ++ [rd (rd_L1 l0_0 (rd x6_1 0)) x32_2]) := ⟨_, rfl⟩
                     replace H : (impl_Graph_lengths.l1 k2 y192 y193 (rd_L1 l0_0 (rd x6_1 0)) ((rd_L1 l0_0 (rd x6_1 0)).length : Int) (wrap64 (x32_2 + 1)) l0_0) = some r := by first | (rw [hy193]; with_reducible exact H) | (have H2_ := (Option.bind_some _ _).symm.trans H; rw [hy193]; with_reducible exact H2_) | (have H2_ := (Option.bind_some _ _).symm.trans H; with_reducible exact H2_) | with_reducible exact H | (rw [hy193]; exact H) | exact H
                     have Ny193 := Aside0.mk hy193
                     clear hy193
                     have H' := Aside0.mk H
                     clear H
                     have p188 : 0 ≤ (x32_2 : Int) := of_decide_eq_true (by first | (with_reducible assumption) | assumption)
                     have q188 : x32_2 < ((rd_L1 l0_0 (rd x6_1 0)).length : Int) := of_decide_eq_true (by first | (with_reducible assumption) | assumption)
                     obtain ⟨ad188, e188, hx188_0⟩ := Kd.at_int HR187_0.out x32_2 p188 q188
                     cases e188
                     replace hx188_0 := (HB.out.cell (World.block_lt_of_cell? w _ hx188_0)).trans hx188_0
                     replace p188 := eq_true p188
                     replace q188 := eq_true q188
                     have p189 : 0 ≤ ((rd (rd_L1 l0_0 (rd x6_1 0)) x32_2) : Int) := of_decide_eq_true (by first | (with_reducible assumption) | assumption)
                     have q189 : (rd (rd_L1 l0_0 (rd x6_1 0)) x32_2) < (x5_2.length : Int) := of_decide_eq_true (by first | (with_reducible assumption) | assumption)
                     obtain ⟨ad189, e189, hx189_0⟩ := Kd.at_int (Kd.R_reads' HO_5.out).2.2 (rd (rd_L1 l0_0 (rd x6_1 0)) x32_2) p189 q189
                     obtain rfl : (⟨go6, 0, none⟩ : Addr) = ad189 := (by injection e189)
                     (first | simp only [add_plain] at hx189_0 | simp only [add_at] at hx189_0 | simp only [Addr.add, Nat.zero_add] at hx189_0 | skip)
                     replace p189 := eq_true p189
                     replace q189 := eq_true q189
                     obtain ⟨Ao34, co34, eo34, _⟩ := Kd.Q_slice HO_6.out
                     subst eo34
                     have p190 : 0 ≤ (0 : Int) := (by omega)
                     have q190 : 0 < (x6_2.length : Int) := of_decide_eq_true (by first | (with_reducible assumption) | assumption)
                     obtain ⟨ad190, e190, hx190_0⟩ := Kd.at_int (Kd.Q_reads' HO_6.out).2.2 0 p190 q190
                     cases e190
                     have qi190 : (0 < x6_2.length) = True := eq_true (by omega)
                     (try rw [show ((0 : Int)).toNat = 0 from rfl] at hx190_0)
                     (try rw [Addr.add_zero'] at hx190_0)
                     replace p190 := eq_true p190
                     replace q190 := eq_true q190
                     have p191 : 0 ≤ ((rd x6_2 0) : Int) := of_decide_eq_true (by first | (with_reducible assumption) | assumption)
                     have q191 : (rd x6_2 0) < (x5_2.length : Int) := of_decide_eq_true (by first | (with_reducible assumption) | assumption)
                     obtain ⟨ad191, e191, hx191_0⟩ := Kd.at_int (Kd.R_reads' HO_5.out).2.2 (rd x6_2 0) p191 q191
                     obtain rfl : (⟨go6, 0, none⟩ : Addr) = ad191 := (by injection e191)
                     (first | simp only [add_plain] at hx191_0 | simp only [add_at] at hx191_0 | simp only [Addr.add, Nat.zero_add] at hx191_0 | skip)
                     replace p191 := eq_true p191
                     replace q191 := eq_true q191
                     have p32 : 0 ≤ ((rd (rd_L1 l0_0 (rd x6_1 0)) x32_2) : Int) := of_decide_eq_true (by first | (with_reducible assumption) | assumption)
                     have q32 : ((rd (rd_L1 l0_0 (rd x6_1 0)) x32_2) : Int) < ((x5_2.length : Int) : Int) := of_decide_eq_true (by first | (with_reducible assumption) | assumption)
                     obtain ⟨hx32_0, hf32_0⟩ := Kd.R_celln 0 HO_5.out ((rd (rd_L1 l0_0 (rd x6_1 0)) x32_2) : Int) p32 q32
                     replace p32 := eq_true p32
                     replace q32 := eq_true q32
                     have HP35 := Kd.R_putg HO_5.out ((rd (rd_L1 l0_0 (rd x6_1 0)) x32_2) : Int) (wrap64 ((rd x5_2 (rd x6_2 0)) + 1))
                     go_wp2_with (first | ((with_reducible refine gate_store (t := 3) (p := 50) rfl ?_); (try (rw [drewN_self wr]; generalize hq_ : World.drewN wr _ = wr; have n0_ := Aside0.mk (Kd.R_at hq_ HO_5.out); have n1_ := Aside0.mk (Kd.Q_at hq_ HO_6.out); have n2_ := Aside0.mk (blk_at hq_ BK175.out); have n3_ := Aside0.mk (below_at hq_ HB.out); clear hq_ HO_5 HO_6 BK175 HB; have HO_5 := n0_; have HO_6 := n1_; have BK175 := n2_; have HB := n3_; clear n0_ n1_ n2_ n3_; (try (have HP35 := Kd.R_putg HO_5.out ((rd (rd_L1 l0_0 (rd x6_1 0)) x32_2) : Int) (wrap64 ((rd x5_2 (rd x6_2 0)) + 1)))))); refine store_event (t := 3) (p := 50) (v := ?vo_w36) (w1 := (wr.setCell ⟨go6, ((rd (rd_L1 l0_0 (rd x6_1 0)) x32_2) : Int).toNat, none⟩ (.int .i64 (wrap64 ((rd x5_2 (rd x6_2 0)) + 1))))) ?hg ?ho ?hn ?hr ?_; (case ho => rfl); (case hg => rfl); (case hn => rfl); (case hr => first | (go_simp; done) | (go_simp; rfl)); intro w36 hw; have hg : wr.grownBy w36 (some go6) := (by rw [hw]; exact HP35.2); have hp_ : Kd.R (Kd.int .i64) 3 w36 w.heap.size (fun k_ => some k_ ≠ (.slice (some ad190) x6_2.length co34 : Value).ownBlock) (.slice (some ⟨go6, 0, none⟩) x5_2.length co6) y192 := (by rw [hw, Ny192.out]; exact HP35.1); clear HP35; have n0_ := Aside0.mk (hp_); have n1_ := Aside0.mk (Kd.Q_after (v := (.slice (some ⟨go6, 0, none⟩) x5_2.length co6)) (v1 := (.slice (some ⟨go6, 0, none⟩) x5_2.length co6)) (ok := (fun _ => True)) (by (with_reducible repeat (first | apply Kd.Q_alloc | apply Kd.Q_drewN | apply Kd.Q_drew)); exact Kd.Q_mono HO_6.out (fun _ hk => ⟨trivial, hk⟩)) hg (.inl rfl)); have n2_ := Aside0.mk (blk_grown (g := gb175) (o := .cells #[.slice (some ad187) l0_0.length c0_0] 30 (0, 0)) (by (with_reducible repeat (first | refine kN_ ?_ _ | refine kD_ ?_ | refine kA_ ?_ _)); exact BK175.out) hg (Kd.R_ne HO_5.out BK175.out (by decide))); have n3_ := Aside0.mk ((by rw [hw]; exact bS_ (HB.out) GB6.out : Below w.heap.size w w36)); clear HO_5; clear HO_6; clear BK175; clear HB; have HO_5 := n0_; have HO_6 := n1_; have BK175 := n2_; have HB := n3_; clear n0_ n1_ n2_ n3_; clear hg hw hp_) | ((with_reducible refine gate_builtin (b := .append) (xs := #[.tmp 51, .tmp 53]) rfl ?_); at_builtin; refine Kd.Q_append (Kd.int .i64) (w0 := w) w.heap.size rfl (.tmp 51) (.tmp 53) 37 3 (.int .i64 0) 8 rfl Try.underlying37 info3 rfl (by decide) (by omega) (.slice (some ad190) x6_2.length co34) x6_2 (rd (rd_L1 l0_0 (rd x6_1 0)) x32_2) [.int .i64 (rd (rd_L1 l0_0 (rd x6_1 0)) x32_2)] (fun k_ => some k_ ≠ (.slice (some ⟨go6, 0, none⟩) x5_2.length co6 : Value).ownBlock) (fun _ => False) rfl rfl ?aP (fun _ hk => hk.elim) ?aF ?aO ?aB ?aS ?aL ?_; (case aP => exact rfl); (case aB => exact (by repeat (first | (with_reducible first | exact HB.out | apply bA_ | apply bN_ | apply bD_ | refine bS_ ?_ GE175.out) | exact HB.out))); (case aF => exact (fun k_ hk => Kd.fresh' (Kd.R_lt (by (with_reducible repeat (first | apply Kd.R_alloc | apply Kd.R_drewN | apply Kd.R_drew)); exact HO_5.out)) k_ hk)); (case aO => exact (by (with_reducible repeat (first | apply Kd.Q_alloc | apply Kd.Q_drewN | apply Kd.Q_drew)); exact Kd.Q_mono HO_6.out (fun _ hk => hk.2))); (case aS => exact (bZ_ (by repeat (first | (with_reducible first | exact HB.out | apply bA_ | apply bN_ | apply bD_ | refine bS_ ?_ GE175.out) | exact HB.out)))); (case aL => have := LMc33.out; omega); intro v194 w37 ho hb hg hat; rw [← Ny193.out] at ho; have n0_ := Aside0.mk (Kd.R_after (ok := (fun _ => True)) (by (with_reducible repeat (first | apply Kd.R_alloc | apply Kd.R_drewN | apply Kd.R_drew)); exact Kd.R_mono HO_5.out (fun _ hk => ⟨trivial, hk⟩)) hg hat); have n1_ := Aside0.mk (blk_grown (g := gb175) (o := .cells #[.slice (some ad187) l0_0.length c0_0] 30 (0, 0)) (by (with_reducible repeat (first | refine kN_ ?_ _ | refine kD_ ?_ | refine kA_ ?_ _)); exact BK175.out) hg (Kd.Q_ne HO_6.out BK175.out (by decide))); have n2_ := Aside0.mk (hb); have n3_ := Aside0.mk (ho); clear HO_5; clear BK175; clear HB; clear HO_6; have HO_5 := n0_; have BK175 := n1_; have HB := n2_; have HO195 := n3_; clear n0_ n1_ n2_ n3_; clear ho hb hg hat))
                     repeat (go_quiet (first | ((with_reducible refine gate_store (t := 3) (p := 50) rfl ?_); (try (rw [drewN_self wr]; generalize hq_ : World.drewN wr _ = wr; have n0_ := Aside0.mk (Kd.R_at hq_ HO_5.out); have n1_ := Aside0.mk (Kd.Q_at hq_ HO_6.out); have n2_ := Aside0.mk (blk_at hq_ BK175.out); have n3_ := Aside0.mk (below_at hq_ HB.out); clear hq_ HO_5 HO_6 BK175 HB; have HO_5 := n0_; have HO_6 := n1_; have BK175 := n2_; have HB := n3_; clear n0_ n1_ n2_ n3_; (try (have HP35 := Kd.R_putg HO_5.out ((rd (rd_L1 l0_0 (rd x6_1 0)) x32_2) : Int) (wrap64 ((rd x5_2 (rd x6_2 0)) + 1)))))); refine store_event (t := 3) (p := 50) (v := ?vo_w36) (w1 := (wr.setCell ⟨go6, ((rd (rd_L1 l0_0 (rd x6_1 0)) x32_2) : Int).toNat, none⟩ (.int .i64 (wrap64 ((rd x5_2 (rd x6_2 0)) + 1))))) ?hg ?ho ?hn ?hr ?_; (case ho => rfl); (case hg => rfl); (case hn => rfl); (case hr => first | (go_simp; done) | (go_simp; rfl)); intro w36 hw; have hg : wr.grownBy w36 (some go6) := (by rw [hw]; exact HP35.2); have hp_ : Kd.R (Kd.int .i64) 3 w36 w.heap.size (fun k_ => some k_ ≠ (.slice (some ad190) x6_2.length co34 : Value).ownBlock) (.slice (some ⟨go6, 0, none⟩) x5_2.length co6) y192 := (by rw [hw, Ny192.out]; exact HP35.1); clear HP35; have n0_ := Aside0.mk (hp_); have n1_ := Aside0.mk (Kd.Q_after (v := (.slice (some ⟨go6, 0, none⟩) x5_2.length co6)) (v1 := (.slice (some ⟨go6, 0, none⟩) x5_2.length co6)) (ok := (fun _ => True)) (by (with_reducible repeat (first | apply Kd.Q_alloc | apply Kd.Q_drewN | apply Kd.Q_drew)); exact Kd.Q_mono HO_6.out (fun _ hk => ⟨trivial, hk⟩)) hg (.inl rfl)); have n2_ := Aside0.mk (blk_grown (g := gb175) (o := .cells #[.slice (some ad187) l0_0.length c0_0] 30 (0, 0)) (by (with_reducible repeat (first | refine kN_ ?_ _ | refine kD_ ?_ | refine kA_ ?_ _)); exact BK175.out) hg (Kd.R_ne HO_5.out BK175.out (by decide))); have n3_ := Aside0.mk ((by rw [hw]; exact bS_ (HB.out) GB6.out : Below w.heap.size w w36)); clear HO_5; clear HO_6; clear BK175; clear HB; have HO_5 := n0_; have HO_6 := n1_; have BK175 := n2_; have HB := n3_; clear n0_ n1_ n2_ n3_; clear hg hw hp_) | ((with_reducible refine gate_builtin (b := .append) (xs := #[.tmp 51, .tmp 53]) rfl ?_); at_builtin; refine Kd.Q_append (Kd.int .i64) (w0 := w) w.heap.size rfl (.tmp 51) (.tmp 53) 37 3 (.int .i64 0) 8 rfl Try.underlying37 info3 rfl (by decide) (by omega) (.slice (some ad190) x6_2.length co34) x6_2 (rd (rd_L1 l0_0 (rd x6_1 0)) x32_2) [.int .i64 (rd (rd_L1 l0_0 (rd x6_1 0)) x32_2)] (fun k_ => some k_ ≠ (.slice (some ⟨go6, 0, none⟩) x5_2.length co6 : Value).ownBlock) (fun _ => False) rfl rfl ?aP (fun _ hk => hk.elim) ?aF ?aO ?aB ?aS ?aL ?_; (case aP => exact rfl); (case aB => exact (by repeat (first | (with_reducible first | exact HB.out | apply bA_ | apply bN_ | apply bD_ | refine bS_ ?_ GE175.out) | exact HB.out))); (case aF => exact (fun k_ hk => Kd.fresh' (Kd.R_lt (by (with_reducible repeat (first | apply Kd.R_alloc | apply Kd.R_drewN | apply Kd.R_drew)); exact HO_5.out)) k_ hk)); (case aO => exact (by (with_reducible repeat (first | apply Kd.Q_alloc | apply Kd.Q_drewN | apply Kd.Q_drew)); exact Kd.Q_mono HO_6.out (fun _ hk => hk.2))); (case aS => exact (bZ_ (by repeat (first | (with_reducible first | exact HB.out | apply bA_ | apply bN_ | apply bD_ | refine bS_ ?_ GE175.out) | exact HB.out)))); (case aL => have := LMc33.out; omega); intro v194 w37 ho hb hg hat; rw [← Ny193.out] at ho; have n0_ := Aside0.mk (Kd.R_after (ok := (fun _ => True)) (by (with_reducible repeat (first | apply Kd.R_alloc | apply Kd.R_drewN | apply Kd.R_drew)); exact Kd.R_mono HO_5.out (fun _ hk => ⟨trivial, hk⟩)) hg hat); have n1_ := Aside0.mk (blk_grown (g := gb175) (o := .cells #[.slice (some ad187) l0_0.length c0_0] 30 (0, 0)) (by (with_reducible repeat (first | refine kN_ ?_ _ | refine kD_ ?_ | refine kA_ ?_ _)); exact BK175.out) hg (Kd.Q_ne HO_6.out BK175.out (by decide))); have n2_ := Aside0.mk (hb); have n3_ := Aside0.mk (ho); clear HO_5; clear BK175; clear HB; clear HO_6; have HO_5 := n0_; have BK175 := n1_; have HB := n2_; have HO195 := n3_; clear n0_ n1_ n2_ n3_; clear ho hb hg hat)); try go_wp2_with (first | ((with_reducible refine gate_store (t := 3) (p := 50) rfl ?_); (try (rw [drewN_self wr]; generalize hq_ : World.drewN wr _ = wr; have n0_ := Aside0.mk (Kd.R_at hq_ HO_5.out); have n1_ := Aside0.mk (Kd.Q_at hq_ HO_6.out); have n2_ := Aside0.mk (blk_at hq_ BK175.out); have n3_ := Aside0.mk (below_at hq_ HB.out); clear hq_ HO_5 HO_6 BK175 HB; have HO_5 := n0_; have HO_6 := n1_; have BK175 := n2_; have HB := n3_; clear n0_ n1_ n2_ n3_; (try (have HP35 := Kd.R_putg HO_5.out ((rd (rd_L1 l0_0 (rd x6_1 0)) x32_2) : Int) (wrap64 ((rd x5_2 (rd x6_2 0)) + 1)))))); refine store_event (t := 3) (p := 50) (v := ?vo_w36) (w1 := (wr.setCell ⟨go6, ((rd (rd_L1 l0_0 (rd x6_1 0)) x32_2) : Int).toNat, none⟩ (.int .i64 (wrap64 ((rd x5_2 (rd x6_2 0)) + 1))))) ?hg ?ho ?hn ?hr ?_; (case ho => rfl); (case hg => rfl); (case hn => rfl); (case hr => first | (go_simp; done) | (go_simp; rfl)); intro w36 hw; have hg : wr.grownBy w36 (some go6) := (by rw [hw]; exact HP35.2); have hp_ : Kd.R (Kd.int .i64) 3 w36 w.heap.size (fun k_ => some k_ ≠ (.slice (some ad190) x6_2.length co34 : Value).ownBlock) (.slice (some ⟨go6, 0, none⟩) x5_2.length co6) y192 := (by rw [hw, Ny192.out]; exact HP35.1); clear HP35; have n0_ := Aside0.mk (hp_); have n1_ := Aside0.mk (Kd.Q_after (v := (.slice (some ⟨go6, 0, none⟩) x5_2.length co6)) (v1 := (.slice (some ⟨go6, 0, none⟩) x5_2.length co6)) (ok := (fun _ => True)) (by (with_reducible repeat (first | apply Kd.Q_alloc | apply Kd.Q_drewN | apply Kd.Q_drew)); exact Kd.Q_mono HO_6.out (fun _ hk => ⟨trivial, hk⟩)) hg (.inl rfl)); have n2_ := Aside0.mk (blk_grown (g := gb175) (o := .cells #[.slice (some ad187) l0_0.length c0_0] 30 (0, 0)) (by (with_reducible repeat (first | refine kN_ ?_ _ | refine kD_ ?_ | refine kA_ ?_ _)); exact BK175.out) hg (Kd.R_ne HO_5.out BK175.out (by decide))); have n3_ := Aside0.mk ((by rw [hw]; exact bS_ (HB.out) GB6.out : Below w.heap.size w w36)); clear HO_5; clear HO_6; clear BK175; clear HB; have HO_5 := n0_; have HO_6 := n1_; have BK175 := n2_; have HB := n3_; clear n0_ n1_ n2_ n3_; clear hg hw hp_) | ((with_reducible refine gate_builtin (b := .append) (xs := #[.tmp 51, .tmp 53]) rfl ?_); at_builtin; refine Kd.Q_append (Kd.int .i64) (w0 := w) w.heap.size rfl (.tmp 51) (.tmp 53) 37 3 (.int .i64 0) 8 rfl Try.underlying37 info3 rfl (by decide) (by omega) (.slice (some ad190) x6_2.length co34) x6_2 (rd (rd_L1 l0_0 (rd x6_1 0)) x32_2) [.int .i64 (rd (rd_L1 l0_0 (rd x6_1 0)) x32_2)] (fun k_ => some k_ ≠ (.slice (some ⟨go6, 0, none⟩) x5_2.length co6 : Value).ownBlock) (fun _ => False) rfl rfl ?aP (fun _ hk => hk.elim) ?aF ?aO ?aB ?aS ?aL ?_; (case aP => exact rfl); (case aB => exact (by repeat (first | (with_reducible first | exact HB.out | apply bA_ | apply bN_ | apply bD_ | refine bS_ ?_ GE175.out) | exact HB.out))); (case aF => exact (fun k_ hk => Kd.fresh' (Kd.R_lt (by (with_reducible repeat (first | apply Kd.R_alloc | apply Kd.R_drewN | apply Kd.R_drew)); exact HO_5.out)) k_ hk)); (case aO => exact (by (with_reducible repeat (first | apply Kd.Q_alloc | apply Kd.Q_drewN | apply Kd.Q_drew)); exact Kd.Q_mono HO_6.out (fun _ hk => hk.2))); (case aS => exact (bZ_ (by repeat (first | (with_reducible first | exact HB.out | apply bA_ | apply bN_ | apply bD_ | refine bS_ ?_ GE175.out) | exact HB.out)))); (case aL => have := LMc33.out; omega); intro v194 w37 ho hb hg hat; rw [← Ny193.out] at ho; have n0_ := Aside0.mk (Kd.R_after (ok := (fun _ => True)) (by (with_reducible repeat (first | apply Kd.R_alloc | apply Kd.R_drewN | apply Kd.R_drew)); exact Kd.R_mono HO_5.out (fun _ hk => ⟨trivial, hk⟩)) hg hat); have n1_ := Aside0.mk (blk_grown (g := gb175) (o := .cells #[.slice (some ad187) l0_0.length c0_0] 30 (0, 0)) (by (with_reducible repeat (first | refine kN_ ?_ _ | refine kD_ ?_ | refine kA_ ?_ _)); exact BK175.out) hg (Kd.Q_ne HO_6.out BK175.out (by decide))); have n2_ := Aside0.mk (hb); have n3_ := Aside0.mk (ho); clear HO_5; clear BK175; clear HB; clear HO_6; have HO_5 := n0_; have BK175 := n1_; have HB := n2_; have HO195 := n3_; clear n0_ n1_ n2_ n3_; clear ho hb hg hat)))
                     (try simp only [← hl5_2])
                     go_roundg k2
                     case measure => have := HK1.out; have := HK2.out; omega
                     case rel => exact ⟨(y192), (y193), (wrap64 (x32_2 + 1)), (by first | rfl | (simp; done) | (simp [*]; done)), H', ⟨by have := HK1.out; have := HK2.out; omega⟩, ⟨by (try simp only [hl5_1]); (try simp only [hl5_2]); (with_reducible repeat (first | apply Kd.R_alloc | apply Kd.R_drewN | apply Kd.R_drew)); exact Kd.R_mono HO_5.out (fun _ hk => hk.2)⟩, ⟨by (try simp only [hl5_1]); (try simp only [hl5_2]); (with_reducible repeat (first | apply Kd.Q_alloc | apply Kd.Q_drewN | apply Kd.Q_drew)); exact HO195.out⟩, ⟨by (try simp only [hl5_1]); (try simp only [hl5_2]); (with_reducible repeat (first | refine kN_ ?_ _ | refine kD_ ?_ | refine kA_ ?_ _)); exact BK175.out⟩, ⟨by repeat (first | (with_reducible first | exact HB.out | apply bA_ | apply bN_ | apply bD_ | refine bS_ ?_ GE175.out) | exact HB.out)⟩⟩
                    ·rw [if_neg c33] at H
                     exact absurd H (by simp)
                   ·rw [if_neg c31] at H
                    exact absurd H (by simp)
                  ·rw [if_neg c30] at H
                   exact absurd H (by simp)
                 ·rw [if_neg c29] at H
                  exact absurd H (by simp)
                ·rw [if_neg c28] at H
                 have c28b0 : decide ((rd x5_2 (rd (rd_L1 l0_0 (rd x6_1 0)) x32_2)) < 0) = false := decide_eq_false c28
                 clear c28
                 have H' := Aside0.mk H
                 clear H
                 have p188 : 0 ≤ (x32_2 : Int) := of_decide_eq_true (by first | (with_reducible assumption) | assumption)
                 have q188 : x32_2 < ((rd_L1 l0_0 (rd x6_1 0)).length : Int) := of_decide_eq_true (by first | (with_reducible assumption) | assumption)
                 obtain ⟨ad188, e188, hx188_0⟩ := Kd.at_int HR187_0.out x32_2 p188 q188
                 cases e188
                 replace hx188_0 := (HB.out.cell (World.block_lt_of_cell? w _ hx188_0)).trans hx188_0
                 replace p188 := eq_true p188
                 replace q188 := eq_true q188
                 have p189 : 0 ≤ ((rd (rd_L1 l0_0 (rd x6_1 0)) x32_2) : Int) := of_decide_eq_true (by first | (with_reducible assumption) | assumption)
                 have q189 : (rd (rd_L1 l0_0 (rd x6_1 0)) x32_2) < (x5_2.length : Int) := of_decide_eq_true (by first | (with_reducible assumption) | assumption)
                 obtain ⟨ad189, e189, hx189_0⟩ := Kd.at_int (Kd.R_reads' HO_5.out).2.2 (rd (rd_L1 l0_0 (rd x6_1 0)) x32_2) p189 q189
                 obtain rfl : (⟨go6, 0, none⟩ : Addr) = ad189 := (by injection e189)
                 (first | simp only [add_plain] at hx189_0 | simp only [add_at] at hx189_0 | simp only [Addr.add, Nat.zero_add] at hx189_0 | skip)
                 replace p189 := eq_true p189
                 replace q189 := eq_true q189
                 go_wp2
                 repeat (go_quiet (fail); try go_wp2)
                 (try simp only [← hl5_2])
                 go_roundg k2
                 case measure => have := HK1.out; have := HK2.out; omega
                 case rel => exact ⟨(x5_2), (x6_2), (wrap64 (x32_2 + 1)), (by first | rfl | (simp; done) | (simp [*]; done)), H', ⟨by have := HK1.out; have := HK2.out; omega⟩, ⟨by (try simp only [hl5_1]); (try simp only [hl5_2]); (with_reducible repeat (first | apply Kd.R_alloc | apply Kd.R_drewN | apply Kd.R_drew)); exact HO_5.out⟩, ⟨by (try simp only [hl5_1]); (try simp only [hl5_2]); (with_reducible repeat (first | apply Kd.Q_alloc | apply Kd.Q_drewN | apply Kd.Q_drew)); exact HO_6.out⟩, ⟨by (try simp only [hl5_1]); (try simp only [hl5_2]); (with_reducible repeat (first | refine kN_ ?_ _ | refine kD_ ?_ | refine kA_ ?_ _)); exact BK175.out⟩, ⟨by repeat (first | (with_reducible first | exact HB.out | apply bA_ | apply bN_ | apply bD_ | refine bS_ ?_ GE175.out) | exact HB.out)⟩⟩
               ·rw [if_neg c27] at H
                exact absurd H (by simp)
              ·rw [if_neg c26] at H
               exact absurd H (by simp)
             ·rw [if_neg c25] at H
              exact absurd H (by simp)
            ·rw [if_neg c24] at H
             exact absurd H (by simp)
           ·rw [if_neg c23] at H
            have c23b0 : decide (x32_2 < ((rd_L1 l0_0 (rd x6_1 0)).length : Int)) = false := decide_eq_false c23
            clear c23
            by_cases c38 : 1 ≤ (x6_2.length : Int)
            ·rw [if_pos c38] at H
             have c38b0 := eq_true c38
             have c38b1 : decide (1 ≤ (x6_2.length : Int)) = true := decide_eq_true c38
             clear c38
             obtain ⟨y196, hy196⟩ : ∃ y_ : List Int, y_ = (x6_2.drop (1 : Int).toNat) := ⟨_, rfl⟩
             replace H : (impl_Graph_lengths.l0 k2 x5_2 y196 l0_0) = some r := by first | (rw [hy196]; with_reducible exact H) | (have H2_ := (Option.bind_some _ _).symm.trans H; rw [hy196]; with_reducible exact H2_) | (have H2_ := (Option.bind_some _ _).symm.trans H; with_reducible exact H2_) | with_reducible exact H | (rw [hy196]; exact H) | exact H
             have Ny196 := Aside0.mk hy196
             clear hy196
             have H' := Aside0.mk H
             clear H
             obtain ⟨Ao39, co39, eo39, _⟩ := Kd.Q_slice HO_6.out
             subst eo39
             have q40 : (1 : Int) ≤ ((x6_2.length : Int) : Int) := of_decide_eq_true (by first | (with_reducible assumption) | assumption)
             obtain ⟨i040, hi040, _, hsz40, _⟩ := info_parts info3
             have hcut40 := cut_from (P := Try.prog) 37 3 .i64 Try.underlying37 hi040 1 hsz40 Ao39 x6_2.length co39 1 (by omega) q40
             have hr40 := Kd.Q_drop (k := (1 : Int).toNat) HO_6.out (by omega)
             obtain ⟨A40, hA40⟩ : ∃ A1, A1 = (if co39 = (1 : Int).toNat then Ao39 else (Ao39 : Option Addr).map (·.add ((1 : Int).toNat * 1))) := ⟨_, rfl⟩
             obtain ⟨c40, hc40⟩ : ∃ c1, c1 = co39 - (1 : Int).toNat := ⟨_, rfl⟩
             have hy40 : y196.length = x6_2.length - (1 : Int).toNat := (by rw [Ny196.out, List.length_drop])
             rw [← Ny196.out] at hr40
             rw [← hy40, ← hA40, ← hc40] at hcut40
             replace hr40 : Kd.Q (Kd.int .i64) 3 wr w.heap.size (fun k_ => some k_ ≠ (.slice (some ⟨go6, 0, none⟩) x5_2.length co6 : Value).ownBlock) (.slice A40 y196.length c40) y196 := (by rw [hA40, hc40, hy40]; exact hr40)
             have HE40 : Aside0 ((Value.slice A40 y196.length c40).ownBlock = (.slice Ao39 x6_2.length co39 : Value).ownBlock) := ⟨by rw [hA40]; split <;> (cases (Ao39 : Option Addr) <;> rfl)⟩
             clear hy40 hi040 hsz40 HO_6 hA40 hc40
             have HO198 := Aside0.mk hr40
             clear hr40
             replace q40 := eq_true q40
             have n_ := Aside0.mk (Kd.R_mono (ok' := fun k_ => some k_ ≠ (.slice A40 y196.length c40 : Value).ownBlock) HO_5.out (fun k_ hk => (by rw [HE40.out]; exact hk)))
             clear HO_5
             have HO_5 := n_
             clear n_
             go_wp2
             repeat (go_quiet (fail); try go_wp2)
             (try simp only [← hl5_1, ← hl5_2])
             go_roundg k2
             case measure => have := HK1.out; have := HK2.out; omega
             case rel => exact ⟨(x5_2), (y196), H', ⟨by have := HK1.out; have := HK2.out; omega⟩, ⟨by (try simp only [hl5_1]); (try simp only [hl5_2]); (with_reducible repeat (first | apply Kd.R_alloc | apply Kd.R_drewN | apply Kd.R_drew)); exact HO_5.out⟩, ⟨by (try simp only [hl5_1]); (try simp only [hl5_2]); (with_reducible repeat (first | apply Kd.Q_alloc | apply Kd.Q_drewN | apply Kd.Q_drew)); exact HO198.out⟩, ⟨by (try simp only [hl5_1]); (try simp only [hl5_2]); (with_reducible repeat (first | refine kN_ ?_ _ | refine kD_ ?_ | refine kA_ ?_ _)); exact BK175.out⟩, ⟨by repeat (first | (with_reducible first | exact HB.out | apply bA_ | apply bN_ | apply bD_ | refine bS_ ?_ GE175.out) | exact HB.out)⟩⟩
            ·rw [if_neg c38] at H
             exact absurd H (by simp)
        ·rw [if_neg c20] at H
         exact absurd H (by simp)
       ·rw [if_neg c19] at H
        exact absurd H (by simp)
      ·rw [if_neg c18] at H
       exact absurd H (by simp)
     ·rw [if_neg c17] at H
      have c17b0 : decide (0 < (x6_1.length : Int)) = false := decide_eq_false c17
      have c17b1 : decide (0 < x6_1.length) = false := decide_eq_false (by omega)
      clear c17
      obtain rfl := Option.some.inj H
      obtain ⟨Ao41, co41, eo41, _⟩ := Kd.Q_slice HO_6.out
      subst eo41
      go_wp2
      repeat (go_quiet (fail); try go_wp2)
      go_ret
      exact ⟨_, by first | rfl | (simp [errW_none, errW_some] <;> rfl) | (simp [*, errW_none, errW_some] <;> rfl), by (with_reducible repeat (first | apply Kd.R_alloc | apply Kd.R_drewN | apply Kd.R_drew)); exact Kd.R_mono HO_5.out (fun _ hk => trivial), by repeat (first | (with_reducible first | exact HB.out | apply bA_ | apply bN_ | apply bD_ | refine bS_ ?_ GE175.out) | exact HB.out)⟩
  ·rw [if_neg c5] at H
   exact absurd H (by simp)
 ·rw [if_neg c4] at H
  exact absurd H (by simp)
mutual
def impl_canEnd.j0 : Nat → Int → Int → Bool → List (List Int) → Option (Bool)
 | 0, _, _, _, _ => none
 | k + 1, x1, x2, x20, x200000 => if x20 = true then (some false) else (impl_canEnd.l0 k x1 x2 x200000 (x200000.length : Int) 0 x200000)
def impl_canEnd.l0 : Nat → Int → Int → List (List Int) → Int → Int → List (List Int) → Option (Bool)
 | 0, _, _, _, _, _, _ => none
 | k + 1, x1, x2, x22, x23, x24, x200000 => if x24 < x23 then (if 0 ≤ x24 then (if x24 < (x22.length : Int) then ((impl_Graph_lengths.f k x200000 x24).bind fun t205 => (if 0 ≤ x1 then (if x1 < (t205.length : Int) then (if (rd t205 x1) < 0 then (if 0 ≤ x2 then (if x2 < (t205.length : Int) then (if (rd t205 x2) < 0 then (some false) else (if x24 = x1 then (impl_canEnd.l0 k x1 x2 x22 x23 (wrap64 (x24 + 1)) x200000) else (if x24 = x2 then (impl_canEnd.l0 k x1 x2 x22 x23 (wrap64 (x24 + 1)) x200000) else (if ((rd_L1 x22 x24).length : Int) = 0 then (some false) else (impl_canEnd.l0 k x1 x2 x22 x23 (wrap64 (x24 + 1)) x200000))))) else (none)) else (none)) else (if x24 = x1 then (impl_canEnd.l0 k x1 x2 x22 x23 (wrap64 (x24 + 1)) x200000) else (if x24 = x2 then (impl_canEnd.l0 k x1 x2 x22 x23 (wrap64 (x24 + 1)) x200000) else (if ((rd_L1 x22 x24).length : Int) = 0 then (some false) else (impl_canEnd.l0 k x1 x2 x22 x23 (wrap64 (x24 + 1)) x200000))))) else (none)) else (none))) else (none)) else (none)) else (some true)
end
def impl_canEnd.f (k : Nat) (l0_0 : List (List Int)) (a1 : Int) (a2 : Int) : Option (Bool) := (impl_has.f l0_0 (([a1, a2] : List Int))).bind fun t203 => (if t203 = true then (impl_canEnd.j0 k a1 a2 (a1 == a2) l0_0) else (impl_canEnd.j0 k a1 a2 true l0_0))
set_option maxHeartbeats 8000000 in
set_option maxRecDepth 100000 in
theorem impl_canEnd.calls (k : Nat) (A0_0 : Option Addr) (c0_0 : Nat) (l0_0 : List (List Int)) (a1 : Int) (a2 : Int) (r : Bool) (w : World) (hr0_0 : Kd.C (Kd.slice 3 (Kd.int .i64)) w A0_0 l0_0.length l0_0) (hc0_0 : l0_0.length ≤ c0_0) (h : impl_canEnd.f k l0_0 a1 a2 = some r) :
  Calls Try.prog 81 #[.agg #[.slice A0_0 l0_0.length c0_0], .int .i64 a1, .int .i64 a2] w fun e w' => e = .returned (.bool r) ∧ Below w.heap.size w w' := by
 have hu30 := Try.underlying30
 have HR0_0 := Aside0.mk hr0_0
 have HC0_0 := Aside0.mk hc0_0
 clear hr0_0 hc0_0
 have HB := Aside0.mk (Below.refl w.heap.size w)
 have H : ((impl_has.f l0_0 (([a1, a2] : List Int))).bind fun t203 => (if t203 = true then (impl_canEnd.j0 k a1 a2 (a1 == a2) l0_0) else (impl_canEnd.j0 k a1 a2 true l0_0))) = some r := h
 clear h
 have HC4 := Aside0.mk H
 clear H
 go_enter Try.func81, Try.ntmps81
 go_upto_region 1 with (first | ((with_reducible refine gate_dst (N := 3) rfl ?_); (try (refine gate_guard (by rfl) ?_; dsimp only)); refine box_event ?hg (N := 3) ?hd (cs := #[.slice A0_0 l0_0.length c0_0]) (t := 30) ?hr ?_; (case hd => rfl); (case hg => rfl); (case hr => first | (go_simp; done) | (go_simp; rfl)); intro gb199 hg w5 hbox hb; have n0_ := Aside0.mk (bP_ (by repeat (first | (with_reducible first | exact HB.out | apply bA_ | apply bN_ | apply bD_) | exact HB.out)) hb); have n1_ := Aside0.mk (hbox); have n2_ := Aside0.mk ((by rw [hg]; exact (bZ_ (by repeat (first | (with_reducible first | exact HB.out | apply bA_ | apply bN_ | apply bD_) | exact HB.out))) : w.heap.size ≤ gb199)); have n3_ := Aside0.mk ((by rw [hg]; exact (bZ_ (by repeat (first | (with_reducible first | exact HB.out | apply bA_ | apply bN_ | apply bD_) | exact HB.out))) : w.heap.size ≤ gb199)); clear HB; have HB := n0_; have BK199 := n1_; have GW199 := n2_; have GE199 := n3_; clear n0_ n1_ n2_ n3_; clear hb hbox hg))
 (try simp only [Act.put, List.setIfInBounds_toArray, List.set_cons_zero, List.set_cons_succ])
 go_cut [20] (fun v20 wc => ∃ (kq : Nat) (x20_3 : Bool), v20 = .bool x20_3 ∧ Aside0 (impl_canEnd.j0 kq a1 a2 x20_3 l0_0 = some r) ∧ Aside0 (kq ≤ k) ∧ Aside0 (wc.heap[gb199]? = some (.cells #[(.slice A0_0 l0_0.length c0_0)] 30 (0, 0))) ∧ Aside0 (Below w.heap.size w wc))
 case first =>
  have H := HC4.out
  clear HC4
  obtain ⟨y200, hy200⟩ : ∃ y_ : List Int, y_ = (([a1, a2] : List Int)) := ⟨_, rfl⟩
  replace H : ((impl_has.f l0_0 y200).bind fun t203 => (if t203 = true then (impl_canEnd.j0 k a1 a2 (a1 == a2) l0_0) else (impl_canEnd.j0 k a1 a2 true l0_0))) = some r := by first | (rw [hy200]; with_reducible exact H) | (have H2_ := (Option.bind_some _ _).symm.trans H; rw [hy200]; with_reducible exact H2_) | (have H2_ := (Option.bind_some _ _).symm.trans H; with_reducible exact H2_) | with_reducible exact H | (rw [hy200]; exact H) | exact H
  have Ny200 := Aside0.mk hy200
  clear hy200
  replace H := Option.bind_eq_some_iff.mp H
  obtain ⟨t203, A60, H⟩ := H
  replace H : (if t203 = true then (impl_canEnd.j0 k a1 a2 (a1 == a2) l0_0) else (impl_canEnd.j0 k a1 a2 true l0_0)) = some r := H
  have A6 := Aside0.mk A60
  clear A60
  by_cases c7 : t203 = true
  ·subst c7
   have H1 : (impl_canEnd.j0 k a1 a2 (a1 == a2) l0_0) = some r := by rw [if_pos rfl] at H; exact H
   clear H
   have H := H1
   clear H1
   have H' := Aside0.mk H
   clear H
   have hcz8_0 : w5.cell? ⟨gb199, 0, none⟩ = some (.slice A0_0 l0_0.length c0_0) := (blk_cell BK199.out 0).trans rfl
   have hfz8_0 := kF_ BK199.out 0
   go_wp2_with (first | ((with_reducible refine gate_dst (N := 13) rfl ?_); (try (refine gate_guard (by rfl) ?_; dsimp only)); refine Kd.R_lit (Kd.int .i64) _ 3 ?hg (N := 13) ?hd (xs := ([a1, a2] : List Int)) (inner := [.int .i64 a1, .int .i64 a2]) (ok := fun _ => True) (okp := fun _ => True) ?hr ?hp (fun _ hk => hk) trivial (Below.refl _ _) (Nat.le_refl _) (by simp) ?_; (case hd => rfl); (case hg => rfl); (case hr => first | (go_simp; done) | (go_simp; rfl)); (case hp => exact (Reps.one (show Kd.M (Kd.int .i64) _ _ _ a1 [.int .i64 a1] from rfl) (Reps.one (show Kd.M (Kd.int .i64) _ _ _ a2 [.int .i64 a2] from rfl) (Reps.none _ _)))); intro v201 w9 ho10 hb hg_ hnew_; clear hg_ hnew_; (first | rw [← Ny200.out] at ho10 | (simp only [Int.reduceToNat] at ho10; rw [← Ny200.out] at ho10)); have n0_ := Aside0.mk (Kd.R_lower ho10 (bZ_ (by repeat (first | (with_reducible first | exact HB.out | apply bA_ | apply bN_ | apply bD_ | refine bS_ ?_ GE199.out) | exact HB.out)))); have n1_ := Aside0.mk (blk_below (g := gb199) (o := .cells #[.slice A0_0 l0_0.length c0_0] 30 (0, 0)) (by (with_reducible repeat (first | refine kN_ ?_ _ | refine kD_ ?_ | refine kA_ ?_ _)); exact BK199.out) hb); have n2_ := Aside0.mk (bP_ (by repeat (first | (with_reducible first | exact HB.out | apply bA_ | apply bN_ | apply bD_ | refine bS_ ?_ GE199.out) | exact HB.out)) hb); clear BK199; clear HB; have HO202 := n0_; have BK199 := n1_; have HB := n2_; clear n0_ n1_ n2_; clear hb ho10; obtain ⟨Ao11, co11, eo11⟩ := Kd.R_slice HO202.out; subst eo11) | ((with_reducible refine gate_callee (f := 76) rfl ?_); refine goesL_ (some 14) rfl rfl Try.func76 (by kernel_rfl) rfl #[.agg #[.slice A0_0 l0_0.length c0_0], .slice Ao11 y200.length co11] rfl (by (try simp only [List.map_toArray, List.map_cons, List.map_nil]); first | done | rfl | (simp only [List.length_drop, List.length_take]; rfl)) ?_; (with_reducible refine (impl_has.calls _ _ l0_0 _ _ y200 true _ ?side1 ?side2 ?side3 ?side4 A6.out).mono ?_); (case side1 => repeat (first | exact (Kd.C_below HR0_0.out HB.out) | (with_reducible refine Kd.C_alloc ?_ _) | (with_reducible refine Kd.C_drewN ?_ _) | (with_reducible refine Kd.C_drew ?_))); (case side2 => exact HC0_0.out); (case side3 => repeat (first | exact (Kd.R_reads' HO202.out).2.2 | (with_reducible refine Kd.C_alloc ?_ _) | (with_reducible refine Kd.C_drewN ?_ _) | (with_reducible refine Kd.C_drew ?_))); (case side4 => exact (Kd.R_reads' HO202.out).2.1); rintro e w12 ⟨rfl, hb⟩; refine ⟨_, rfl, ?_⟩; have n0_ := Aside0.mk (Kd.R_below (by (with_reducible repeat (first | apply Kd.R_alloc | apply Kd.R_drewN | apply Kd.R_drew)); exact HO202.out) hb); have n1_ := Aside0.mk (blk_below (g := gb199) (o := .cells #[.slice A0_0 l0_0.length c0_0] 30 (0, 0)) (by (with_reducible repeat (first | refine kN_ ?_ _ | refine kD_ ?_ | refine kA_ ?_ _)); exact BK199.out) hb); have n2_ := Aside0.mk (bP_ (by repeat (first | (with_reducible first | exact HB.out | apply bA_ | apply bN_ | apply bD_ | refine bS_ ?_ GE199.out) | exact HB.out)) hb); clear HO202; clear BK199; clear HB; have HO202 := n0_; have BK199 := n1_; have HB := n2_; clear n0_ n1_ n2_; (try clear hb); (try clear hb2); (try clear hk); (try clear hi)))
   go_meet
   case rel => exact ⟨_, ((a1 == a2)), (by first | rfl | (simp; done) | (simp [*]; done)), H', ⟨by first | omega | exact Nat.le_refl _⟩, ⟨by (with_reducible repeat (first | refine kN_ ?_ _ | refine kD_ ?_ | refine kA_ ?_ _)); exact BK199.out⟩, ⟨by repeat (first | (with_reducible first | exact HB.out | apply bA_ | apply bN_ | apply bD_ | refine bS_ ?_ GE199.out) | exact HB.out)⟩⟩
  ·replace c7 := Bool.eq_false_iff.mpr c7
   subst c7
   have H1 : (impl_canEnd.j0 k a1 a2 true l0_0) = some r := by rw [if_neg (show ¬ (false = true) by decide)] at H; exact H
   clear H
   have H := H1
   clear H1
   have H' := Aside0.mk H
   clear H
   have hcz13_0 : w5.cell? ⟨gb199, 0, none⟩ = some (.slice A0_0 l0_0.length c0_0) := (blk_cell BK199.out 0).trans rfl
   have hfz13_0 := kF_ BK199.out 0
   go_wp2_with (first | ((with_reducible refine gate_dst (N := 13) rfl ?_); (try (refine gate_guard (by rfl) ?_; dsimp only)); refine Kd.R_lit (Kd.int .i64) _ 3 ?hg (N := 13) ?hd (xs := ([a1, a2] : List Int)) (inner := [.int .i64 a1, .int .i64 a2]) (ok := fun _ => True) (okp := fun _ => True) ?hr ?hp (fun _ hk => hk) trivial (Below.refl _ _) (Nat.le_refl _) (by simp) ?_; (case hd => rfl); (case hg => rfl); (case hr => first | (go_simp; done) | (go_simp; rfl)); (case hp => exact (Reps.one (show Kd.M (Kd.int .i64) _ _ _ a1 [.int .i64 a1] from rfl) (Reps.one (show Kd.M (Kd.int .i64) _ _ _ a2 [.int .i64 a2] from rfl) (Reps.none _ _)))); intro v201 w14 ho15 hb hg_ hnew_; clear hg_ hnew_; (first | rw [← Ny200.out] at ho15 | (simp only [Int.reduceToNat] at ho15; rw [← Ny200.out] at ho15)); have n0_ := Aside0.mk (Kd.R_lower ho15 (bZ_ (by repeat (first | (with_reducible first | exact HB.out | apply bA_ | apply bN_ | apply bD_ | refine bS_ ?_ GE199.out) | exact HB.out)))); have n1_ := Aside0.mk (blk_below (g := gb199) (o := .cells #[.slice A0_0 l0_0.length c0_0] 30 (0, 0)) (by (with_reducible repeat (first | refine kN_ ?_ _ | refine kD_ ?_ | refine kA_ ?_ _)); exact BK199.out) hb); have n2_ := Aside0.mk (bP_ (by repeat (first | (with_reducible first | exact HB.out | apply bA_ | apply bN_ | apply bD_ | refine bS_ ?_ GE199.out) | exact HB.out)) hb); clear BK199; clear HB; have HO202 := n0_; have BK199 := n1_; have HB := n2_; clear n0_ n1_ n2_; clear hb ho15; obtain ⟨Ao16, co16, eo16⟩ := Kd.R_slice HO202.out; subst eo16) | ((with_reducible refine gate_callee (f := 76) rfl ?_); refine goesL_ (some 14) rfl rfl Try.func76 (by kernel_rfl) rfl #[.agg #[.slice A0_0 l0_0.length c0_0], .slice Ao16 y200.length co16] rfl (by (try simp only [List.map_toArray, List.map_cons, List.map_nil]); first | done | rfl | (simp only [List.length_drop, List.length_take]; rfl)) ?_; (with_reducible refine (impl_has.calls _ _ l0_0 _ _ y200 false _ ?side1 ?side2 ?side3 ?side4 A6.out).mono ?_); (case side1 => repeat (first | exact (Kd.C_below HR0_0.out HB.out) | (with_reducible refine Kd.C_alloc ?_ _) | (with_reducible refine Kd.C_drewN ?_ _) | (with_reducible refine Kd.C_drew ?_))); (case side2 => exact HC0_0.out); (case side3 => repeat (first | exact (Kd.R_reads' HO202.out).2.2 | (with_reducible refine Kd.C_alloc ?_ _) | (with_reducible refine Kd.C_drewN ?_ _) | (with_reducible refine Kd.C_drew ?_))); (case side4 => exact (Kd.R_reads' HO202.out).2.1); rintro e w17 ⟨rfl, hb⟩; refine ⟨_, rfl, ?_⟩; have n0_ := Aside0.mk (Kd.R_below (by (with_reducible repeat (first | apply Kd.R_alloc | apply Kd.R_drewN | apply Kd.R_drew)); exact HO202.out) hb); have n1_ := Aside0.mk (blk_below (g := gb199) (o := .cells #[.slice A0_0 l0_0.length c0_0] 30 (0, 0)) (by (with_reducible repeat (first | refine kN_ ?_ _ | refine kD_ ?_ | refine kA_ ?_ _)); exact BK199.out) hb); have n2_ := Aside0.mk (bP_ (by repeat (first | (with_reducible first | exact HB.out | apply bA_ | apply bN_ | apply bD_ | refine bS_ ?_ GE199.out) | exact HB.out)) hb); clear HO202; clear BK199; clear HB; have HO202 := n0_; have BK199 := n1_; have HB := n2_; clear n0_ n1_ n2_; (try clear hb); (try clear hb2); (try clear hk); (try clear hi)))
   go_meet
   case rel => exact ⟨_, (true), (by first | rfl | (simp; done) | (simp [*]; done)), H', ⟨by first | omega | exact Nat.le_refl _⟩, ⟨by (with_reducible repeat (first | refine kN_ ?_ _ | refine kD_ ?_ | refine kA_ ?_ _)); exact BK199.out⟩, ⟨by repeat (first | (with_reducible first | exact HB.out | apply bA_ | apply bN_ | apply bD_ | refine bS_ ?_ GE199.out) | exact HB.out)⟩⟩
 case rest =>
  clear HC4
  try clear p2
  try clear c7
  try clear c8
  try clear hcz13_0
  try clear hcz8_0
  try clear hfz13_0
  try clear hfz8_0
  obtain ⟨kq, x20_3, rfl, HA, HJ3, BK199, HB⟩ := hcut
  cases kq with
  | zero => exact absurd HA.out (by simp [impl_canEnd.j0])
  | succ kj3 =>
   have H := HA.out
   clear HA
   simp only [impl_canEnd.j0] at H
   by_cases c18 : x20_3 = true
   ·subst c18
    have H1 : (some false) = some r := by rw [if_pos rfl] at H; exact H
    clear H
    have H := H1
    clear H1
    obtain rfl := Option.some.inj H
    go_wp2
    go_ret
    exact ⟨by first | rfl | (simp [errW_none, errW_some] <;> rfl) | (simp [*, errW_none, errW_some] <;> rfl), by repeat (first | (with_reducible first | exact HB.out | apply bA_ | apply bN_ | apply bD_ | refine bS_ ?_ GE199.out) | exact HB.out)⟩
   ·replace c18 := Bool.eq_false_iff.mpr c18
    subst c18
    have H1 : (impl_canEnd.l0 kj3 a1 a2 l0_0 (l0_0.length : Int) 0 l0_0) = some r := by rw [if_neg (show ¬ (false = true) by decide)] at H; exact H
    clear H
    have H := H1
    clear H1
    have H' := Aside0.mk H
    clear H
    have hcz19_0 : wc.cell? ⟨gb199, 0, none⟩ = some (.slice A0_0 l0_0.length c0_0) := (blk_cell BK199.out 0).trans rfl
    have hfz19_0 := kF_ BK199.out 0
    go_wp2
    go_loopg [24] kj3 (fun kq v24 w' => ∃ (x24_2 : Int), v24 = .int .i64 x24_2 ∧ Aside0 (impl_canEnd.l0 kq a1 a2 l0_0 (l0_0.length : Int) x24_2 l0_0 = some r) ∧ Aside0 (kq ≤ kj3) ∧ Aside0 (w'.heap[gb199]? = some (.cells #[(.slice A0_0 l0_0.length c0_0)] 30 (0, 0))) ∧ Aside0 (Below w.heap.size w w'))
    case atStart => exact ⟨(0), (by first | rfl | (simp; done) | (simp [*]; done)), H', ⟨Nat.le_refl _⟩, ⟨by (with_reducible repeat (first | refine kN_ ?_ _ | refine kD_ ?_ | refine kA_ ?_ _)); exact BK199.out⟩, ⟨by repeat (first | (with_reducible first | exact HB.out | apply bA_ | apply bN_ | apply bD_ | refine bS_ ?_ GE199.out) | exact HB.out)⟩⟩
    case round =>
     clear H'
     try clear c1
     try clear p2
     try clear c7
     try clear c8
     try clear c18
     try clear hcz13_0
     try clear hcz19_0
     try clear hcz8_0
     try clear hfz13_0
     try clear hfz19_0
     try clear hfz8_0
     try clear p2
     obtain ⟨x24_2, rfl, HA, HK2, BK199, HB⟩ := hrel
     cases gk with
     | zero => exact absurd HA.out (by simp [impl_canEnd.l0])
     | succ k2 =>
      have H := HA.out
      clear HA
      simp only [impl_canEnd.l0] at H
      by_cases c20 : x24_2 < (l0_0.length : Int)
      ·rw [if_pos c20] at H
       have c20b0 : decide (x24_2 < (l0_0.length : Int)) = true := decide_eq_true c20
       clear c20
       by_cases c21 : 0 ≤ x24_2
       ·rw [if_pos c21] at H
        have c21b0 : decide (0 ≤ x24_2) = true := decide_eq_true c21
        clear c21
        by_cases c22 : x24_2 < (l0_0.length : Int)
        ·rw [if_pos c22] at H
         have c22b0 : decide (x24_2 < (l0_0.length : Int)) = true := decide_eq_true c22
         clear c22
         replace H := Option.bind_eq_some_iff.mp H
         obtain ⟨t205, A230, H⟩ := H
         replace H : (if 0 ≤ a1 then (if a1 < (t205.length : Int) then (if (rd t205 a1) < 0 then (if 0 ≤ a2 then (if a2 < (t205.length : Int) then (if (rd t205 a2) < 0 then (some false) else (if x24_2 = a1 then (impl_canEnd.l0 k2 a1 a2 l0_0 (l0_0.length : Int) (wrap64 (x24_2 + 1)) l0_0) else (if x24_2 = a2 then (impl_canEnd.l0 k2 a1 a2 l0_0 (l0_0.length : Int) (wrap64 (x24_2 + 1)) l0_0) else (if ((rd_L1 l0_0 x24_2).length : Int) = 0 then (some false) else (impl_canEnd.l0 k2 a1 a2 l0_0 (l0_0.length : Int) (wrap64 (x24_2 + 1)) l0_0))))) else (none)) else (none)) else (if x24_2 = a1 then (impl_canEnd.l0 k2 a1 a2 l0_0 (l0_0.length : Int) (wrap64 (x24_2 + 1)) l0_0) else (if x24_2 = a2 then (impl_canEnd.l0 k2 a1 a2 l0_0 (l0_0.length : Int) (wrap64 (x24_2 + 1)) l0_0) else (if ((rd_L1 l0_0 x24_2).length : Int) = 0 then (some false) else (impl_canEnd.l0 k2 a1 a2 l0_0 (l0_0.length : Int) (wrap64 (x24_2 + 1)) l0_0))))) else (none)) else (none)) = some r := H
         have A23 := Aside0.mk A230
         clear A230
         by_cases c24 : 0 ≤ a1
         ·rw [if_pos c24] at H
          have c24b0 : decide (0 ≤ a1) = true := decide_eq_true c24
          clear c24
          by_cases c25 : a1 < (t205.length : Int)
          ·rw [if_pos c25] at H
           have c25b0 : decide (a1 < (t205.length : Int)) = true := decide_eq_true c25
           clear c25
           by_cases c26 : (rd t205 a1) < 0
           ·rw [if_pos c26] at H
            have c26b0 : decide ((rd t205 a1) < 0) = true := decide_eq_true c26
            clear c26
            by_cases c27 : 0 ≤ a2
            ·rw [if_pos c27] at H
             have c27b0 : decide (0 ≤ a2) = true := decide_eq_true c27
             clear c27
             by_cases c28 : a2 < (t205.length : Int)
             ·rw [if_pos c28] at H
              have c28b0 : decide (a2 < (t205.length : Int)) = true := decide_eq_true c28
              clear c28
              by_cases c29 : (rd t205 a2) < 0
              ·rw [if_pos c29] at H
               have c29b0 : decide ((rd t205 a2) < 0) = true := decide_eq_true c29
               clear c29
               obtain rfl := Option.some.inj H
               have p204 : 0 ≤ (x24_2 : Int) := of_decide_eq_true (by first | (with_reducible assumption) | assumption)
               have q204 : x24_2 < (l0_0.length : Int) := of_decide_eq_true (by first | (with_reducible assumption) | assumption)
               obtain ⟨ad204, A204_0, c204_0, e204, hx204_0, hl204_0, hi204_0⟩ := at_L1 HR0_0.out x24_2 p204 q204
               cases e204
               replace hx204_0 := (HB.out.cell (World.block_lt_of_cell? w _ hx204_0)).trans hx204_0
               have HR204_0 := Aside0.mk hi204_0
               have HC204_0 := Aside0.mk hl204_0
               clear hi204_0 hl204_0
               replace p204 := eq_true p204
               replace q204 := eq_true q204
               have hcz30_0 : wr.cell? ⟨gb199, 0, none⟩ = some (.slice (some ad204) l0_0.length c0_0) := (blk_cell BK199.out 0).trans rfl
               have hfz30_0 := kF_ BK199.out 0
               go_wp2_with (first | ((with_reducible refine gate_callee (f := 112) rfl ?_); refine goesL_ (some 31) rfl rfl Try.func112 (by kernel_rfl) rfl #[.agg #[.slice (some ad204) l0_0.length c0_0], .int .i64 x24_2] rfl (by (try simp only [List.map_toArray, List.map_cons, List.map_nil]); first | done | rfl | (simp only [List.length_drop, List.length_take]; rfl)) ?_; (with_reducible refine (impl_Graph_lengths.calls k2 _ _ l0_0 x24_2 t205 _ ?side1 ?side2 A23.out).mono ?_); (case side1 => repeat (first | exact (Kd.C_below HR0_0.out HB.out) | (with_reducible refine Kd.C_alloc ?_ _) | (with_reducible refine Kd.C_drewN ?_ _) | (with_reducible refine Kd.C_drew ?_))); (case side2 => exact HC0_0.out); rintro e w31 ⟨v206, rfl, ho0, hb⟩; refine ⟨_, rfl, ?_⟩; have n0_ := Aside0.mk (Kd.R_lower ho0 (bZ_ (by repeat (first | (with_reducible first | exact HB.out | apply bA_ | apply bN_ | apply bD_ | refine bS_ ?_ GE199.out) | exact HB.out)))); have n1_ := Aside0.mk (blk_below (g := gb199) (o := .cells #[.slice (some ad204) l0_0.length c0_0] 30 (0, 0)) (by (with_reducible repeat (first | refine kN_ ?_ _ | refine kD_ ?_ | refine kA_ ?_ _)); exact BK199.out) hb); have n2_ := Aside0.mk (bP_ (by repeat (first | (with_reducible first | exact HB.out | apply bA_ | apply bN_ | apply bD_ | refine bS_ ?_ GE199.out) | exact HB.out)) hb); clear BK199; clear HB; have HO207 := n0_; have BK199 := n1_; have HB := n2_; clear n0_ n1_ n2_; (try clear hb); (try clear hb2); (try clear hk); (try clear hi); (try clear ho0); obtain ⟨Ao32, co32, eo32⟩ := Kd.R_slice HO207.out; subst eo32; have p208 : 0 ≤ (a1 : Int) := of_decide_eq_true (by first | (with_reducible assumption) | assumption); have q208 : a1 < (t205.length : Int) := of_decide_eq_true (by first | (with_reducible assumption) | assumption); obtain ⟨ad208, e208, hx208_0⟩ := Kd.at_int (Kd.R_reads' HO207.out).2.2 a1 p208 q208; cases e208; replace p208 := eq_true p208; replace q208 := eq_true q208; have p209 : 0 ≤ (a2 : Int) := of_decide_eq_true (by first | (with_reducible assumption) | assumption); have q209 : a2 < (t205.length : Int) := of_decide_eq_true (by first | (with_reducible assumption) | assumption); obtain ⟨ad209, e209, hx209_0⟩ := Kd.at_int (Kd.R_reads' HO207.out).2.2 a2 p209 q209; obtain rfl : ad208 = ad209 := (by injection e209); replace p209 := eq_true p209; replace q209 := eq_true q209))
               go_ret
               exact ⟨by first | rfl | (simp [errW_none, errW_some] <;> rfl) | (simp [*, errW_none, errW_some] <;> rfl), by repeat (first | (with_reducible first | exact HB.out | apply bA_ | apply bN_ | apply bD_ | refine bS_ ?_ GE199.out) | exact HB.out)⟩
              ·rw [if_neg c29] at H
               have c29b0 : decide ((rd t205 a2) < 0) = false := decide_eq_false c29
               clear c29
               by_cases c33 : x24_2 = a1
               ·rw [if_pos c33] at H
                have c33b0 : (x24_2 == a1) = true := beq_iff_eq.mpr c33
                have c33b1 : (x24_2 != a1) = false := bne_eq_false_iff_eq.mpr c33
                clear c33
                have H' := Aside0.mk H
                clear H
                have p204 : 0 ≤ (x24_2 : Int) := of_decide_eq_true (by first | (with_reducible assumption) | assumption)
                have q204 : x24_2 < (l0_0.length : Int) := of_decide_eq_true (by first | (with_reducible assumption) | assumption)
                obtain ⟨ad204, A204_0, c204_0, e204, hx204_0, hl204_0, hi204_0⟩ := at_L1 HR0_0.out x24_2 p204 q204
                cases e204
                replace hx204_0 := (HB.out.cell (World.block_lt_of_cell? w _ hx204_0)).trans hx204_0
                have HR204_0 := Aside0.mk hi204_0
                have HC204_0 := Aside0.mk hl204_0
                clear hi204_0 hl204_0
                replace p204 := eq_true p204
                replace q204 := eq_true q204
                have hcz34_0 : wr.cell? ⟨gb199, 0, none⟩ = some (.slice (some ad204) l0_0.length c0_0) := (blk_cell BK199.out 0).trans rfl
                have hfz34_0 := kF_ BK199.out 0
                go_wp2_with (first | ((with_reducible refine gate_callee (f := 112) rfl ?_); refine goesL_ (some 31) rfl rfl Try.func112 (by kernel_rfl) rfl #[.agg #[.slice (some ad204) l0_0.length c0_0], .int .i64 x24_2] rfl (by (try simp only [List.map_toArray, List.map_cons, List.map_nil]); first | done | rfl | (simp only [List.length_drop, List.length_take]; rfl)) ?_; (with_reducible refine (impl_Graph_lengths.calls k2 _ _ l0_0 x24_2 t205 _ ?side1 ?side2 A23.out).mono ?_); (case side1 => repeat (first | exact (Kd.C_below HR0_0.out HB.out) | (with_reducible refine Kd.C_alloc ?_ _) | (with_reducible refine Kd.C_drewN ?_ _) | (with_reducible refine Kd.C_drew ?_))); (case side2 => exact HC0_0.out); rintro e w35 ⟨v206, rfl, ho0, hb⟩; refine ⟨_, rfl, ?_⟩; have n0_ := Aside0.mk (Kd.R_lower ho0 (bZ_ (by repeat (first | (with_reducible first | exact HB.out | apply bA_ | apply bN_ | apply bD_ | refine bS_ ?_ GE199.out) | exact HB.out)))); have n1_ := Aside0.mk (blk_below (g := gb199) (o := .cells #[.slice (some ad204) l0_0.length c0_0] 30 (0, 0)) (by (with_reducible repeat (first | refine kN_ ?_ _ | refine kD_ ?_ | refine kA_ ?_ _)); exact BK199.out) hb); have n2_ := Aside0.mk (bP_ (by repeat (first | (with_reducible first | exact HB.out | apply bA_ | apply bN_ | apply bD_ | refine bS_ ?_ GE199.out) | exact HB.out)) hb); clear BK199; clear HB; have HO207 := n0_; have BK199 := n1_; have HB := n2_; clear n0_ n1_ n2_; (try clear hb); (try clear hb2); (try clear hk); (try clear hi); (try clear ho0); obtain ⟨Ao36, co36, eo36⟩ := Kd.R_slice HO207.out; subst eo36; have p208 : 0 ≤ (a1 : Int) := of_decide_eq_true (by first | (with_reducible assumption) | assumption); have q208 : a1 < (t205.length : Int) := of_decide_eq_true (by first | (with_reducible assumption) | assumption); obtain ⟨ad208, e208, hx208_0⟩ := Kd.at_int (Kd.R_reads' HO207.out).2.2 a1 p208 q208; cases e208; replace p208 := eq_true p208; replace q208 := eq_true q208; have p209 : 0 ≤ (a2 : Int) := of_decide_eq_true (by first | (with_reducible assumption) | assumption); have q209 : a2 < (t205.length : Int) := of_decide_eq_true (by first | (with_reducible assumption) | assumption); obtain ⟨ad209, e209, hx209_0⟩ := Kd.at_int (Kd.R_reads' HO207.out).2.2 a2 p209 q209; obtain rfl : ad208 = ad209 := (by injection e209); replace p209 := eq_true p209; replace q209 := eq_true q209))
                go_roundg k2
                case measure => have := HJ3.out; have := HK2.out; omega
                case rel => exact ⟨(wrap64 (x24_2 + 1)), (by first | rfl | (simp; done) | (simp [*]; done)), H', ⟨by have := HJ3.out; have := HK2.out; omega⟩, ⟨by (with_reducible repeat (first | refine kN_ ?_ _ | refine kD_ ?_ | refine kA_ ?_ _)); exact BK199.out⟩, ⟨by repeat (first | (with_reducible first | exact HB.out | apply bA_ | apply bN_ | apply bD_ | refine bS_ ?_ GE199.out) | exact HB.out)⟩⟩
               ·rw [if_neg c33] at H
                have c33b0 : (x24_2 == a1) = false := beq_eq_false_iff_ne.mpr c33
                have c33b1 : (x24_2 != a1) = true := bne_iff_ne.mpr c33
                by_cases c37 : x24_2 = a2
                ·rw [if_pos c37] at H
                 have c37b0 : (x24_2 == a2) = true := beq_iff_eq.mpr c37
                 have c37b1 : (x24_2 != a2) = false := bne_eq_false_iff_eq.mpr c37
                 clear c37
                 have H' := Aside0.mk H
                 clear H
                 have p204 : 0 ≤ (x24_2 : Int) := of_decide_eq_true (by first | (with_reducible assumption) | assumption)
                 have q204 : x24_2 < (l0_0.length : Int) := of_decide_eq_true (by first | (with_reducible assumption) | assumption)
                 obtain ⟨ad204, A204_0, c204_0, e204, hx204_0, hl204_0, hi204_0⟩ := at_L1 HR0_0.out x24_2 p204 q204
                 cases e204
                 replace hx204_0 := (HB.out.cell (World.block_lt_of_cell? w _ hx204_0)).trans hx204_0
                 have HR204_0 := Aside0.mk hi204_0
                 have HC204_0 := Aside0.mk hl204_0
                 clear hi204_0 hl204_0
                 replace p204 := eq_true p204
                 replace q204 := eq_true q204
                 have hcz38_0 : wr.cell? ⟨gb199, 0, none⟩ = some (.slice (some ad204) l0_0.length c0_0) := (blk_cell BK199.out 0).trans rfl
                 have hfz38_0 := kF_ BK199.out 0
                 go_wp2_with (first | ((with_reducible refine gate_callee (f := 112) rfl ?_); refine goesL_ (some 31) rfl rfl Try.func112 (by kernel_rfl) rfl #[.agg #[.slice (some ad204) l0_0.length c0_0], .int .i64 x24_2] rfl (by (try simp only [List.map_toArray, List.map_cons, List.map_nil]); first | done | rfl | (simp only [List.length_drop, List.length_take]; rfl)) ?_; (with_reducible refine (impl_Graph_lengths.calls k2 _ _ l0_0 x24_2 t205 _ ?side1 ?side2 A23.out).mono ?_); (case side1 => repeat (first | exact (Kd.C_below HR0_0.out HB.out) | (with_reducible refine Kd.C_alloc ?_ _) | (with_reducible refine Kd.C_drewN ?_ _) | (with_reducible refine Kd.C_drew ?_))); (case side2 => exact HC0_0.out); rintro e w39 ⟨v206, rfl, ho0, hb⟩; refine ⟨_, rfl, ?_⟩; have n0_ := Aside0.mk (Kd.R_lower ho0 (bZ_ (by repeat (first | (with_reducible first | exact HB.out | apply bA_ | apply bN_ | apply bD_ | refine bS_ ?_ GE199.out) | exact HB.out)))); have n1_ := Aside0.mk (blk_below (g := gb199) (o := .cells #[.slice (some ad204) l0_0.length c0_0] 30 (0, 0)) (by (with_reducible repeat (first | refine kN_ ?_ _ | refine kD_ ?_ | refine kA_ ?_ _)); exact BK199.out) hb); have n2_ := Aside0.mk (bP_ (by repeat (first | (with_reducible first | exact HB.out | apply bA_ | apply bN_ | apply bD_ | refine bS_ ?_ GE199.out) | exact HB.out)) hb); clear BK199; clear HB; have HO207 := n0_; have BK199 := n1_; have HB := n2_; clear n0_ n1_ n2_; (try clear hb); (try clear hb2); (try clear hk); (try clear hi); (try clear ho0); obtain ⟨Ao40, co40, eo40⟩ := Kd.R_slice HO207.out; subst eo40; have p208 : 0 ≤ (a1 : Int) := of_decide_eq_true (by first | (with_reducible assumption) | assumption); have q208 : a1 < (t205.length : Int) := of_decide_eq_true (by first | (with_reducible assumption) | assumption); obtain ⟨ad208, e208, hx208_0⟩ := Kd.at_int (Kd.R_reads' HO207.out).2.2 a1 p208 q208; cases e208; replace p208 := eq_true p208; replace q208 := eq_true q208; have p209 : 0 ≤ (a2 : Int) := of_decide_eq_true (by first | (with_reducible assumption) | assumption); have q209 : a2 < (t205.length : Int) := of_decide_eq_true (by first | (with_reducible assumption) | assumption); obtain ⟨ad209, e209, hx209_0⟩ := Kd.at_int (Kd.R_reads' HO207.out).2.2 a2 p209 q209; obtain rfl : ad208 = ad209 := (by injection e209); replace p209 := eq_true p209; replace q209 := eq_true q209))
                 go_roundg k2
                 case measure => have := HJ3.out; have := HK2.out; omega
                 case rel => exact ⟨(wrap64 (x24_2 + 1)), (by first | rfl | (simp; done) | (simp [*]; done)), H', ⟨by have := HJ3.out; have := HK2.out; omega⟩, ⟨by (with_reducible repeat (first | refine kN_ ?_ _ | refine kD_ ?_ | refine kA_ ?_ _)); exact BK199.out⟩, ⟨by repeat (first | (with_reducible first | exact HB.out | apply bA_ | apply bN_ | apply bD_ | refine bS_ ?_ GE199.out) | exact HB.out)⟩⟩
                ·rw [if_neg c37] at H
                 have c37b0 : (x24_2 == a2) = false := beq_eq_false_iff_ne.mpr c37
                 have c37b1 : (x24_2 != a2) = true := bne_iff_ne.mpr c37
                 by_cases c41 : ((rd_L1 l0_0 x24_2).length : Int) = 0
                 ·rw [if_pos c41] at H
                  have c41b0 : (((rd_L1 l0_0 x24_2).length : Int) == 0) = true := beq_iff_eq.mpr c41
                  have c41b1 : (((rd_L1 l0_0 x24_2).length : Int) != 0) = false := bne_eq_false_iff_eq.mpr c41
                  clear c41
                  obtain rfl := Option.some.inj H
                  have p204 : 0 ≤ (x24_2 : Int) := of_decide_eq_true (by first | (with_reducible assumption) | assumption)
                  have q204 : x24_2 < (l0_0.length : Int) := of_decide_eq_true (by first | (with_reducible assumption) | assumption)
                  obtain ⟨ad204, A204_0, c204_0, e204, hx204_0, hl204_0, hi204_0⟩ := at_L1 HR0_0.out x24_2 p204 q204
                  cases e204
                  replace hx204_0 := (HB.out.cell (World.block_lt_of_cell? w _ hx204_0)).trans hx204_0
                  have HR204_0 := Aside0.mk hi204_0
                  have HC204_0 := Aside0.mk hl204_0
                  clear hi204_0 hl204_0
                  replace p204 := eq_true p204
                  replace q204 := eq_true q204
                  have hcz42_0 : wr.cell? ⟨gb199, 0, none⟩ = some (.slice (some ad204) l0_0.length c0_0) := (blk_cell BK199.out 0).trans rfl
                  have hfz42_0 := kF_ BK199.out 0
                  go_wp2_with (first | ((with_reducible refine gate_callee (f := 112) rfl ?_); refine goesL_ (some 31) rfl rfl Try.func112 (by kernel_rfl) rfl #[.agg #[.slice (some ad204) l0_0.length c0_0], .int .i64 x24_2] rfl (by (try simp only [List.map_toArray, List.map_cons, List.map_nil]); first | done | rfl | (simp only [List.length_drop, List.length_take]; rfl)) ?_; (with_reducible refine (impl_Graph_lengths.calls k2 _ _ l0_0 x24_2 t205 _ ?side1 ?side2 A23.out).mono ?_); (case side1 => repeat (first | exact (Kd.C_below HR0_0.out HB.out) | (with_reducible refine Kd.C_alloc ?_ _) | (with_reducible refine Kd.C_drewN ?_ _) | (with_reducible refine Kd.C_drew ?_))); (case side2 => exact HC0_0.out); rintro e w43 ⟨v206, rfl, ho0, hb⟩; refine ⟨_, rfl, ?_⟩; have n0_ := Aside0.mk (Kd.R_lower ho0 (bZ_ (by repeat (first | (with_reducible first | exact HB.out | apply bA_ | apply bN_ | apply bD_ | refine bS_ ?_ GE199.out) | exact HB.out)))); have n1_ := Aside0.mk (blk_below (g := gb199) (o := .cells #[.slice (some ad204) l0_0.length c0_0] 30 (0, 0)) (by (with_reducible repeat (first | refine kN_ ?_ _ | refine kD_ ?_ | refine kA_ ?_ _)); exact BK199.out) hb); have n2_ := Aside0.mk (bP_ (by repeat (first | (with_reducible first | exact HB.out | apply bA_ | apply bN_ | apply bD_ | refine bS_ ?_ GE199.out) | exact HB.out)) hb); clear BK199; clear HB; have HO207 := n0_; have BK199 := n1_; have HB := n2_; clear n0_ n1_ n2_; (try clear hb); (try clear hb2); (try clear hk); (try clear hi); (try clear ho0); obtain ⟨Ao44, co44, eo44⟩ := Kd.R_slice HO207.out; subst eo44; have p208 : 0 ≤ (a1 : Int) := of_decide_eq_true (by first | (with_reducible assumption) | assumption); have q208 : a1 < (t205.length : Int) := of_decide_eq_true (by first | (with_reducible assumption) | assumption); obtain ⟨ad208, e208, hx208_0⟩ := Kd.at_int (Kd.R_reads' HO207.out).2.2 a1 p208 q208; cases e208; replace p208 := eq_true p208; replace q208 := eq_true q208; have p209 : 0 ≤ (a2 : Int) := of_decide_eq_true (by first | (with_reducible assumption) | assumption); have q209 : a2 < (t205.length : Int) := of_decide_eq_true (by first | (with_reducible assumption) | assumption); obtain ⟨ad209, e209, hx209_0⟩ := Kd.at_int (Kd.R_reads' HO207.out).2.2 a2 p209 q209; obtain rfl : ad208 = ad209 := (by injection e209); replace p209 := eq_true p209; replace q209 := eq_true q209))
                  go_ret
                  exact ⟨by first | rfl | (simp [errW_none, errW_some] <;> rfl) | (simp [*, errW_none, errW_some] <;> rfl), by repeat (first | (with_reducible first | exact HB.out | apply bA_ | apply bN_ | apply bD_ | refine bS_ ?_ GE199.out) | exact HB.out)⟩
                 ·rw [if_neg c41] at H
                  have c41b0 : (((rd_L1 l0_0 x24_2).length : Int) == 0) = false := beq_eq_false_iff_ne.mpr c41
                  have c41b1 : (((rd_L1 l0_0 x24_2).length : Int) != 0) = true := bne_iff_ne.mpr c41
                  have c41b2 : ¬ ((rd_L1 l0_0 x24_2) = []) := fun h_ => c41 (by rw [h_]; rfl)
                  have H' := Aside0.mk H
                  clear H
                  have p204 : 0 ≤ (x24_2 : Int) := of_decide_eq_true (by first | (with_reducible assumption) | assumption)
                  have q204 : x24_2 < (l0_0.length : Int) := of_decide_eq_true (by first | (with_reducible assumption) | assumption)
                  obtain ⟨ad204, A204_0, c204_0, e204, hx204_0, hl204_0, hi204_0⟩ := at_L1 HR0_0.out x24_2 p204 q204
                  cases e204
                  replace hx204_0 := (HB.out.cell (World.block_lt_of_cell? w _ hx204_0)).trans hx204_0
                  have HR204_0 := Aside0.mk hi204_0
                  have HC204_0 := Aside0.mk hl204_0
                  clear hi204_0 hl204_0
                  replace p204 := eq_true p204
                  replace q204 := eq_true q204
                  have hcz45_0 : wr.cell? ⟨gb199, 0, none⟩ = some (.slice (some ad204) l0_0.length c0_0) := (blk_cell BK199.out 0).trans rfl
                  have hfz45_0 := kF_ BK199.out 0
                  go_wp2_with (first | ((with_reducible refine gate_callee (f := 112) rfl ?_); refine goesL_ (some 31) rfl rfl Try.func112 (by kernel_rfl) rfl #[.agg #[.slice (some ad204) l0_0.length c0_0], .int .i64 x24_2] rfl (by (try simp only [List.map_toArray, List.map_cons, List.map_nil]); first | done | rfl | (simp only [List.length_drop, List.length_take]; rfl)) ?_; (with_reducible refine (impl_Graph_lengths.calls k2 _ _ l0_0 x24_2 t205 _ ?side1 ?side2 A23.out).mono ?_); (case side1 => repeat (first | exact (Kd.C_below HR0_0.out HB.out) | (with_reducible refine Kd.C_alloc ?_ _) | (with_reducible refine Kd.C_drewN ?_ _) | (with_reducible refine Kd.C_drew ?_))); (case side2 => exact HC0_0.out); rintro e w46 ⟨v206, rfl, ho0, hb⟩; refine ⟨_, rfl, ?_⟩; have n0_ := Aside0.mk (Kd.R_lower ho0 (bZ_ (by repeat (first | (with_reducible first | exact HB.out | apply bA_ | apply bN_ | apply bD_ | refine bS_ ?_ GE199.out) | exact HB.out)))); have n1_ := Aside0.mk (blk_below (g := gb199) (o := .cells #[.slice (some ad204) l0_0.length c0_0] 30 (0, 0)) (by (with_reducible repeat (first | refine kN_ ?_ _ | refine kD_ ?_ | refine kA_ ?_ _)); exact BK199.out) hb); have n2_ := Aside0.mk (bP_ (by repeat (first | (with_reducible first | exact HB.out | apply bA_ | apply bN_ | apply bD_ | refine bS_ ?_ GE199.out) | exact HB.out)) hb); clear BK199; clear HB; have HO207 := n0_; have BK199 := n1_; have HB := n2_; clear n0_ n1_ n2_; (try clear hb); (try clear hb2); (try clear hk); (try clear hi); (try clear ho0); obtain ⟨Ao47, co47, eo47⟩ := Kd.R_slice HO207.out; subst eo47; have p208 : 0 ≤ (a1 : Int) := of_decide_eq_true (by first | (with_reducible assumption) | assumption); have q208 : a1 < (t205.length : Int) := of_decide_eq_true (by first | (with_reducible assumption) | assumption); obtain ⟨ad208, e208, hx208_0⟩ := Kd.at_int (Kd.R_reads' HO207.out).2.2 a1 p208 q208; cases e208; replace p208 := eq_true p208; replace q208 := eq_true q208; have p209 : 0 ≤ (a2 : Int) := of_decide_eq_true (by first | (with_reducible assumption) | assumption); have q209 : a2 < (t205.length : Int) := of_decide_eq_true (by first | (with_reducible assumption) | assumption); obtain ⟨ad209, e209, hx209_0⟩ := Kd.at_int (Kd.R_reads' HO207.out).2.2 a2 p209 q209; obtain rfl : ad208 = ad209 := (by injection e209); replace p209 := eq_true p209; replace q209 := eq_true q209))
                  go_roundg k2
                  case measure => have := HJ3.out; have := HK2.out; omega
                  case rel => exact ⟨(wrap64 (x24_2 + 1)), (by first | rfl | (simp; done) | (simp [*]; done)), H', ⟨by have := HJ3.out; have := HK2.out; omega⟩, ⟨by (with_reducible repeat (first | refine kN_ ?_ _ | refine kD_ ?_ | refine kA_ ?_ _)); exact BK199.out⟩, ⟨by repeat (first | (with_reducible first | exact HB.out | apply bA_ | apply bN_ | apply bD_ | refine bS_ ?_ GE199.out) | exact HB.out)⟩⟩
             ·rw [if_neg c28] at H
              exact absurd H (by simp)
            ·rw [if_neg c27] at H
             exact absurd H (by simp)
           ·rw [if_neg c26] at H
            have c26b0 : decide ((rd t205 a1) < 0) = false := decide_eq_false c26
            clear c26
            by_cases c48 : x24_2 = a1
            ·rw [if_pos c48] at H
             have c48b0 : (x24_2 == a1) = true := beq_iff_eq.mpr c48
             have c48b1 : (x24_2 != a1) = false := bne_eq_false_iff_eq.mpr c48
             clear c48
             have H' := Aside0.mk H
             clear H
             have p204 : 0 ≤ (x24_2 : Int) := of_decide_eq_true (by first | (with_reducible assumption) | assumption)
             have q204 : x24_2 < (l0_0.length : Int) := of_decide_eq_true (by first | (with_reducible assumption) | assumption)
             obtain ⟨ad204, A204_0, c204_0, e204, hx204_0, hl204_0, hi204_0⟩ := at_L1 HR0_0.out x24_2 p204 q204
             cases e204
             replace hx204_0 := (HB.out.cell (World.block_lt_of_cell? w _ hx204_0)).trans hx204_0
             have HR204_0 := Aside0.mk hi204_0
             have HC204_0 := Aside0.mk hl204_0
             clear hi204_0 hl204_0
             replace p204 := eq_true p204
             replace q204 := eq_true q204
             have hcz49_0 : wr.cell? ⟨gb199, 0, none⟩ = some (.slice (some ad204) l0_0.length c0_0) := (blk_cell BK199.out 0).trans rfl
             have hfz49_0 := kF_ BK199.out 0
             go_wp2_with (first | ((with_reducible refine gate_callee (f := 112) rfl ?_); refine goesL_ (some 31) rfl rfl Try.func112 (by kernel_rfl) rfl #[.agg #[.slice (some ad204) l0_0.length c0_0], .int .i64 x24_2] rfl (by (try simp only [List.map_toArray, List.map_cons, List.map_nil]); first | done | rfl | (simp only [List.length_drop, List.length_take]; rfl)) ?_; (with_reducible refine (impl_Graph_lengths.calls k2 _ _ l0_0 x24_2 t205 _ ?side1 ?side2 A23.out).mono ?_); (case side1 => repeat (first | exact (Kd.C_below HR0_0.out HB.out) | (with_reducible refine Kd.C_alloc ?_ _) | (with_reducible refine Kd.C_drewN ?_ _) | (with_reducible refine Kd.C_drew ?_))); (case side2 => exact HC0_0.out); rintro e w50 ⟨v206, rfl, ho0, hb⟩; refine ⟨_, rfl, ?_⟩; have n0_ := Aside0.mk (Kd.R_lower ho0 (bZ_ (by repeat (first | (with_reducible first | exact HB.out | apply bA_ | apply bN_ | apply bD_ | refine bS_ ?_ GE199.out) | exact HB.out)))); have n1_ := Aside0.mk (blk_below (g := gb199) (o := .cells #[.slice (some ad204) l0_0.length c0_0] 30 (0, 0)) (by (with_reducible repeat (first | refine kN_ ?_ _ | refine kD_ ?_ | refine kA_ ?_ _)); exact BK199.out) hb); have n2_ := Aside0.mk (bP_ (by repeat (first | (with_reducible first | exact HB.out | apply bA_ | apply bN_ | apply bD_ | refine bS_ ?_ GE199.out) | exact HB.out)) hb); clear BK199; clear HB; have HO207 := n0_; have BK199 := n1_; have HB := n2_; clear n0_ n1_ n2_; (try clear hb); (try clear hb2); (try clear hk); (try clear hi); (try clear ho0); obtain ⟨Ao51, co51, eo51⟩ := Kd.R_slice HO207.out; subst eo51; have p208 : 0 ≤ (a1 : Int) := of_decide_eq_true (by first | (with_reducible assumption) | assumption); have q208 : a1 < (t205.length : Int) := of_decide_eq_true (by first | (with_reducible assumption) | assumption); obtain ⟨ad208, e208, hx208_0⟩ := Kd.at_int (Kd.R_reads' HO207.out).2.2 a1 p208 q208; cases e208; replace p208 := eq_true p208; replace q208 := eq_true q208))
             go_roundg k2
             case measure => have := HJ3.out; have := HK2.out; omega
             case rel => exact ⟨(wrap64 (x24_2 + 1)), (by first | rfl | (simp; done) | (simp [*]; done)), H', ⟨by have := HJ3.out; have := HK2.out; omega⟩, ⟨by (with_reducible repeat (first | refine kN_ ?_ _ | refine kD_ ?_ | refine kA_ ?_ _)); exact BK199.out⟩, ⟨by repeat (first | (with_reducible first | exact HB.out | apply bA_ | apply bN_ | apply bD_ | refine bS_ ?_ GE199.out) | exact HB.out)⟩⟩
            ·rw [if_neg c48] at H
             have c48b0 : (x24_2 == a1) = false := beq_eq_false_iff_ne.mpr c48
             have c48b1 : (x24_2 != a1) = true := bne_iff_ne.mpr c48
             by_cases c52 : x24_2 = a2
             ·rw [if_pos c52] at H
              have c52b0 : (x24_2 == a2) = true := beq_iff_eq.mpr c52
              have c52b1 : (x24_2 != a2) = false := bne_eq_false_iff_eq.mpr c52
              clear c52
              have H' := Aside0.mk H
              clear H
              have p204 : 0 ≤ (x24_2 : Int) := of_decide_eq_true (by first | (with_reducible assumption) | assumption)
              have q204 : x24_2 < (l0_0.length : Int) := of_decide_eq_true (by first | (with_reducible assumption) | assumption)
              obtain ⟨ad204, A204_0, c204_0, e204, hx204_0, hl204_0, hi204_0⟩ := at_L1 HR0_0.out x24_2 p204 q204
              cases e204
              replace hx204_0 := (HB.out.cell (World.block_lt_of_cell? w _ hx204_0)).trans hx204_0
              have HR204_0 := Aside0.mk hi204_0
              have HC204_0 := Aside0.mk hl204_0
              clear hi204_0 hl204_0
              replace p204 := eq_true p204
              replace q204 := eq_true q204
              have hcz53_0 : wr.cell? ⟨gb199, 0, none⟩ = some (.slice (some ad204) l0_0.length c0_0) := (blk_cell BK199.out 0).trans rfl
              have hfz53_0 := kF_ BK199.out 0
              go_wp2_with (first | ((with_reducible refine gate_callee (f := 112) rfl ?_); refine goesL_ (some 31) rfl rfl Try.func112 (by kernel_rfl) rfl #[.agg #[.slice (some ad204) l0_0.length c0_0], .int .i64 x24_2] rfl (by (try simp only [List.map_toArray, List.map_cons, List.map_nil]); first | done | rfl | (simp only [List.length_drop, List.length_take]; rfl)) ?_; (with_reducible refine (impl_Graph_lengths.calls k2 _ _ l0_0 x24_2 t205 _ ?side1 ?side2 A23.out).mono ?_); (case side1 => repeat (first | exact (Kd.C_below HR0_0.out HB.out) | (with_reducible refine Kd.C_alloc ?_ _) | (with_reducible refine Kd.C_drewN ?_ _) | (with_reducible refine Kd.C_drew ?_))); (case side2 => exact HC0_0.out); rintro e w54 ⟨v206, rfl, ho0, hb⟩; refine ⟨_, rfl, ?_⟩; have n0_ := Aside0.mk (Kd.R_lower ho0 (bZ_ (by repeat (first | (with_reducible first | exact HB.out | apply bA_ | apply bN_ | apply bD_ | refine bS_ ?_ GE199.out) | exact HB.out)))); have n1_ := Aside0.mk (blk_below (g := gb199) (o := .cells #[.slice (some ad204) l0_0.length c0_0] 30 (0, 0)) (by (with_reducible repeat (first | refine kN_ ?_ _ | refine kD_ ?_ | refine kA_ ?_ _)); exact BK199.out) hb); have n2_ := Aside0.mk (bP_ (by repeat (first | (with_reducible first | exact HB.out | apply bA_ | apply bN_ | apply bD_ | refine bS_ ?_ GE199.out) | exact HB.out)) hb); clear BK199; clear HB; have HO207 := n0_; have BK199 := n1_; have HB := n2_; clear n0_ n1_ n2_; (try clear hb); (try clear hb2); (try clear hk); (try clear hi); (try clear ho0); obtain ⟨Ao55, co55, eo55⟩ := Kd.R_slice HO207.out; subst eo55; have p208 : 0 ≤ (a1 : Int) := of_decide_eq_true (by first | (with_reducible assumption) | assumption); have q208 : a1 < (t205.length : Int) := of_decide_eq_true (by first | (with_reducible assumption) | assumption); obtain ⟨ad208, e208, hx208_0⟩ := Kd.at_int (Kd.R_reads' HO207.out).2.2 a1 p208 q208; cases e208; replace p208 := eq_true p208; replace q208 := eq_true q208))
              go_roundg k2
              case measure => have := HJ3.out; have := HK2.out; omega
              case rel => exact ⟨(wrap64 (x24_2 + 1)), (by first | rfl | (simp; done) | (simp [*]; done)), H', ⟨by have := HJ3.out; have := HK2.out; omega⟩, ⟨by (with_reducible repeat (first | refine kN_ ?_ _ | refine kD_ ?_ | refine kA_ ?_ _)); exact BK199.out⟩, ⟨by repeat (first | (with_reducible first | exact HB.out | apply bA_ | apply bN_ | apply bD_ | refine bS_ ?_ GE199.out) | exact HB.out)⟩⟩
             ·rw [if_neg c52] at H
              have c52b0 : (x24_2 == a2) = false := beq_eq_false_iff_ne.mpr c52
              have c52b1 : (x24_2 != a2) = true := bne_iff_ne.mpr c52
              by_cases c56 : ((rd_L1 l0_0 x24_2).length : Int) = 0
              ·rw [if_pos c56] at H
               have c56b0 : (((rd_L1 l0_0 x24_2).length : Int) == 0) = true := beq_iff_eq.mpr c56
               have c56b1 : (((rd_L1 l0_0 x24_2).length : Int) != 0) = false := bne_eq_false_iff_eq.mpr c56
               clear c56
               obtain rfl := Option.some.inj H
               have p204 : 0 ≤ (x24_2 : Int) := of_decide_eq_true (by first | (with_reducible assumption) | assumption)
               have q204 : x24_2 < (l0_0.length : Int) := of_decide_eq_true (by first | (with_reducible assumption) | assumption)
               obtain ⟨ad204, A204_0, c204_0, e204, hx204_0, hl204_0, hi204_0⟩ := at_L1 HR0_0.out x24_2 p204 q204
               cases e204
               replace hx204_0 := (HB.out.cell (World.block_lt_of_cell? w _ hx204_0)).trans hx204_0
               have HR204_0 := Aside0.mk hi204_0
               have HC204_0 := Aside0.mk hl204_0
               clear hi204_0 hl204_0
               replace p204 := eq_true p204
               replace q204 := eq_true q204
               have hcz57_0 : wr.cell? ⟨gb199, 0, none⟩ = some (.slice (some ad204) l0_0.length c0_0) := (blk_cell BK199.out 0).trans rfl
               have hfz57_0 := kF_ BK199.out 0
               go_wp2_with (first | ((with_reducible refine gate_callee (f := 112) rfl ?_); refine goesL_ (some 31) rfl rfl Try.func112 (by kernel_rfl) rfl #[.agg #[.slice (some ad204) l0_0.length c0_0], .int .i64 x24_2] rfl (by (try simp only [List.map_toArray, List.map_cons, List.map_nil]); first | done | rfl | (simp only [List.length_drop, List.length_take]; rfl)) ?_; (with_reducible refine (impl_Graph_lengths.calls k2 _ _ l0_0 x24_2 t205 _ ?side1 ?side2 A23.out).mono ?_); (case side1 => repeat (first | exact (Kd.C_below HR0_0.out HB.out) | (with_reducible refine Kd.C_alloc ?_ _) | (with_reducible refine Kd.C_drewN ?_ _) | (with_reducible refine Kd.C_drew ?_))); (case side2 => exact HC0_0.out); rintro e w58 ⟨v206, rfl, ho0, hb⟩; refine ⟨_, rfl, ?_⟩; have n0_ := Aside0.mk (Kd.R_lower ho0 (bZ_ (by repeat (first | (with_reducible first | exact HB.out | apply bA_ | apply bN_ | apply bD_ | refine bS_ ?_ GE199.out) | exact HB.out)))); have n1_ := Aside0.mk (blk_below (g := gb199) (o := .cells #[.slice (some ad204) l0_0.length c0_0] 30 (0, 0)) (by (with_reducible repeat (first | refine kN_ ?_ _ | refine kD_ ?_ | refine kA_ ?_ _)); exact BK199.out) hb); have n2_ := Aside0.mk (bP_ (by repeat (first | (with_reducible first | exact HB.out | apply bA_ | apply bN_ | apply bD_ | refine bS_ ?_ GE199.out) | exact HB.out)) hb); clear BK199; clear HB; have HO207 := n0_; have BK199 := n1_; have HB := n2_; clear n0_ n1_ n2_; (try clear hb); (try clear hb2); (try clear hk); (try clear hi); (try clear ho0); obtain ⟨Ao59, co59, eo59⟩ := Kd.R_slice HO207.out; subst eo59; have p208 : 0 ≤ (a1 : Int) := of_decide_eq_true (by first | (with_reducible assumption) | assumption); have q208 : a1 < (t205.length : Int) := of_decide_eq_true (by first | (with_reducible assumption) | assumption); obtain ⟨ad208, e208, hx208_0⟩ := Kd.at_int (Kd.R_reads' HO207.out).2.2 a1 p208 q208; cases e208; replace p208 := eq_true p208; replace q208 := eq_true q208))
               go_ret
               exact ⟨by first | rfl | (simp [errW_none, errW_some] <;> rfl) | (simp [*, errW_none, errW_some] <;> rfl), by repeat (first | (with_reducible first | exact HB.out | apply bA_ | apply bN_ | apply bD_ | refine bS_ ?_ GE199.out) | exact HB.out)⟩
              ·rw [if_neg c56] at H
               have c56b0 : (((rd_L1 l0_0 x24_2).length : Int) == 0) = false := beq_eq_false_iff_ne.mpr c56
               have c56b1 : (((rd_L1 l0_0 x24_2).length : Int) != 0) = true := bne_iff_ne.mpr c56
               have c56b2 : ¬ ((rd_L1 l0_0 x24_2) = []) := fun h_ => c56 (by rw [h_]; rfl)
               have H' := Aside0.mk H
               clear H
               have p204 : 0 ≤ (x24_2 : Int) := of_decide_eq_true (by first | (with_reducible assumption) | assumption)
               have q204 : x24_2 < (l0_0.length : Int) := of_decide_eq_true (by first | (with_reducible assumption) | assumption)
               obtain ⟨ad204, A204_0, c204_0, e204, hx204_0, hl204_0, hi204_0⟩ := at_L1 HR0_0.out x24_2 p204 q204
               cases e204
               replace hx204_0 := (HB.out.cell (World.block_lt_of_cell? w _ hx204_0)).trans hx204_0
               have HR204_0 := Aside0.mk hi204_0
               have HC204_0 := Aside0.mk hl204_0
               clear hi204_0 hl204_0
               replace p204 := eq_true p204
               replace q204 := eq_true q204
               have hcz60_0 : wr.cell? ⟨gb199, 0, none⟩ = some (.slice (some ad204) l0_0.length c0_0) := (blk_cell BK199.out 0).trans rfl
               have hfz60_0 := kF_ BK199.out 0
               go_wp2_with (first | ((with_reducible refine gate_callee (f := 112) rfl ?_); refine goesL_ (some 31) rfl rfl Try.func112 (by kernel_rfl) rfl #[.agg #[.slice (some ad204) l0_0.length c0_0], .int .i64 x24_2] rfl (by (try simp only [List.map_toArray, List.map_cons, List.map_nil]); first | done | rfl | (simp only [List.length_drop, List.length_take]; rfl)) ?_; (with_reducible refine (impl_Graph_lengths.calls k2 _ _ l0_0 x24_2 t205 _ ?side1 ?side2 A23.out).mono ?_); (case side1 => repeat (first | exact (Kd.C_below HR0_0.out HB.out) | (with_reducible refine Kd.C_alloc ?_ _) | (with_reducible refine Kd.C_drewN ?_ _) | (with_reducible refine Kd.C_drew ?_))); (case side2 => exact HC0_0.out); rintro e w61 ⟨v206, rfl, ho0, hb⟩; refine ⟨_, rfl, ?_⟩; have n0_ := Aside0.mk (Kd.R_lower ho0 (bZ_ (by repeat (first | (with_reducible first | exact HB.out | apply bA_ | apply bN_ | apply bD_ | refine bS_ ?_ GE199.out) | exact HB.out)))); have n1_ := Aside0.mk (blk_below (g := gb199) (o := .cells #[.slice (some ad204) l0_0.length c0_0] 30 (0, 0)) (by (with_reducible repeat (first | refine kN_ ?_ _ | refine kD_ ?_ | refine kA_ ?_ _)); exact BK199.out) hb); have n2_ := Aside0.mk (bP_ (by repeat (first | (with_reducible first | exact HB.out | apply bA_ | apply bN_ | apply bD_ | refine bS_ ?_ GE199.out) | exact HB.out)) hb); clear BK199; clear HB; have HO207 := n0_; have BK199 := n1_; have HB := n2_; clear n0_ n1_ n2_; (try clear hb); (try clear hb2); (try clear hk); (try clear hi); (try clear ho0); obtain ⟨Ao62, co62, eo62⟩ := Kd.R_slice HO207.out; subst eo62; have p208 : 0 ≤ (a1 : Int) := of_decide_eq_true (by first | (with_reducible assumption) | assumption); have q208 : a1 < (t205.length : Int) := of_decide_eq_true (by first | (with_reducible assumption) | assumption); obtain ⟨ad208, e208, hx208_0⟩ := Kd.at_int (Kd.R_reads' HO207.out).2.2 a1 p208 q208; cases e208; replace p208 := eq_true p208; replace q208 := eq_true q208))
               go_roundg k2
               case measure => have := HJ3.out; have := HK2.out; omega
               case rel => exact ⟨(wrap64 (x24_2 + 1)), (by first | rfl | (simp; done) | (simp [*]; done)), H', ⟨by have := HJ3.out; have := HK2.out; omega⟩, ⟨by (with_reducible repeat (first | refine kN_ ?_ _ | refine kD_ ?_ | refine kA_ ?_ _)); exact BK199.out⟩, ⟨by repeat (first | (with_reducible first | exact HB.out | apply bA_ | apply bN_ | apply bD_ | refine bS_ ?_ GE199.out) | exact HB.out)⟩⟩
          ·rw [if_neg c25] at H
           exact absurd H (by simp)
         ·rw [if_neg c24] at H
          exact absurd H (by simp)
        ·rw [if_neg c22] at H
         exact absurd H (by simp)
       ·rw [if_neg c21] at H
        exact absurd H (by simp)
      ·rw [if_neg c20] at H
       have c20b0 : decide (x24_2 < (l0_0.length : Int)) = false := decide_eq_false c20
       clear c20
       obtain rfl := Option.some.inj H
       go_wp2
       go_ret
       exact ⟨by first | rfl | (simp [errW_none, errW_some] <;> rfl) | (simp [*, errW_none, errW_some] <;> rfl), by repeat (first | (with_reducible first | exact HB.out | apply bA_ | apply bN_ | apply bD_ | refine bS_ ?_ GE199.out) | exact HB.out)⟩
end Go.Proofs.Ytnbnalbomflafaa.HB
namespace Go.Proofs.Ytnbnalbomflafaa.KA
open Go.RowKit YtnbnalbomflafaaW.PrintWords YtnbnalbomflafaaW.PrintLast
open GA GB HB
theorem rdHB (l : List (List Int)) (i : Int) : HB.rd_L1 l i = GA.rd_L1 l i := rfl
theorem rdGB (l : List (List Int)) (i : Int) : GB.rd_L1 l i = GA.rd_L1 l i := rfl
def neg : List Int → Nat
 | [] => 0
 | x :: t => (if x < 0 then 1 else 0) + neg t
theorem neg_set : ∀ (l : List Int) (i : Nat) (v : Int) (h : i < l.length), l[i] < 0 → 0 ≤ v → neg (l.set i v) + 1 = neg l
 | x :: t, 0, v, h, hx, hv => by
  simp only [List.set_cons_zero, neg]
  rw [List.getElem_cons_zero] at hx
  rw [if_neg (by omega), if_pos hx]
  omega
 | x :: t, i + 1, v, h, hx, hv => by
  simp only [List.set_cons_succ, neg]
  rw [List.getElem_cons_succ] at hx
  have := neg_set t i v (by simpa using h) hx hv
  omega
theorem neg_repl (n : Nat) : neg (List.replicate n (-1)) = n := by
 induction n with
 | zero => rfl
 | succ n ih =>
  rw [List.replicate_succ]
  simp only [neg]
  rw [ih, if_pos (by decide)]
  omega
def relax (h : Int) : List Int → List Int → List Int × List Int
 | [], far => (far, [])
 | q :: row, far => if rd far q < 0 then ((relax h row (far.set q.toNat (wrap64 (rd far h + 1)))).1, q :: (relax h row (far.set q.toNat (wrap64 (rd far h + 1)))).2) else relax h row far
structure Fine (n : Nat) (far : List Int) : Prop where
 len : far.length = n
 up : ∀ x ∈ far, x + (neg far : Int) ≤ n
theorem rd_mem {far : List Int} {v : Int} (h0 : 0 ≤ v) (h1 : v < far.length) : rd far v ∈ far := by
 obtain ⟨i, rfl⟩ := Int.eq_ofNat_of_zero_le h0
 rw [rd_at far i (by omega)]
 exact List.getElem_mem _
theorem rd_set_other {far : List Int} {q v : Int} (y : Int) (h0 : 0 ≤ q) (h1 : 0 ≤ v) (hne : v ≠ q) : rd (far.set q.toNat y) v = rd far v := by
 unfold rd
 rw [List.getD_eq_getElem?_getD, List.getElem?_set_ne (by omega), ← List.getD_eq_getElem?_getD]
theorem rd_set_same {far : List Int} {q : Int} (y : Int) (h0 : 0 ≤ q) (h1 : q < far.length) : rd (far.set q.toNat y) q = y := by
 unfold rd
 rw [List.getD_eq_getElem?_getD, List.getElem?_set_self (by omega)]
 rfl
theorem fine_set {n : Nat} {far : List Int} {h q : Int} (hn : n ≤ 100) (f : Fine n far) (h0 : 0 ≤ h) (h1 : h < n) (hh : 0 ≤ rd far h) (q0 : 0 ≤ q) (q1 : q < n) (hq : rd far q < 0) :
  Fine n (far.set q.toNat (wrap64 (rd far h + 1))) ∧ neg (far.set q.toNat (wrap64 (rd far h + 1))) + 1 = neg far ∧ wrap64 (rd far h + 1) = rd far h + 1 := by
 have hl := f.len
 have hu := f.up _ (rd_mem h0 (by omega))
 have hw : wrap64 (rd far h + 1) = rd far h + 1 := wrap_id (by omega) (by omega)
 obtain ⟨i, rfl⟩ := Int.eq_ofNat_of_zero_le q0
 rw [Int.toNat_natCast, hw]
 rw [rd_at far i (by omega)] at hq
 have hs := neg_set far i (rd far h + 1) (by omega) hq (by omega)
 refine ⟨⟨by rw [List.length_set]; exact hl, fun x hx => ?_⟩, hs, rfl⟩
 rcases List.mem_or_eq_of_mem_set hx with h' | rfl
 ·have := f.up x h'; omega
 ·omega
structure Relaxed (n : Nat) (far : List Int) (r : List Int × List Int) : Prop where
 fine : Fine n r.1
 cnt : neg r.1 + r.2.length = neg far
 new : ∀ q ∈ r.2, 0 ≤ q ∧ q < n ∧ 0 ≤ rd r.1 q
 keep : ∀ v : Int, 0 ≤ v → v < n → 0 ≤ rd far v → 0 ≤ rd r.1 v
theorem relaxed {n : Nat} (hn : n ≤ 100) {h : Int} (h0 : 0 ≤ h) (h1 : h < n) : ∀ (row far : List Int), Fine n far → 0 ≤ rd far h → (∀ q ∈ row, 0 ≤ q ∧ q < n) → Relaxed n far (relax h row far)
 | [], far, f, hh, hr => ⟨f, rfl, by simp [relax], fun _ _ _ h => h⟩
 | q :: row, far, f, hh, hr => by
  have hq := hr q List.mem_cons_self
  have hr' : ∀ q ∈ row, 0 ≤ q ∧ q < n := fun x hx => hr x (List.mem_cons_of_mem _ hx)
  unfold relax
  split
  ·rename_i hneg
   obtain ⟨f1, c1, w1⟩ := fine_set hn f h0 h1 hh hq.1 hq.2 hneg
   have hl := f.len
   have kq : ∀ v : Int, 0 ≤ v → v < n → 0 ≤ rd far v → 0 ≤ rd (far.set q.toNat (wrap64 (rd far h + 1))) v := fun v v0 v1 hv => by
    have hne : v ≠ q := by rintro rfl; omega
    rw [rd_set_other _ hq.1 v0 hne]; exact hv
   have ih := relaxed hn h0 h1 row _ f1 (kq h h0 h1 hh) hr'
   refine ⟨ih.fine, by have := ih.cnt; simp only [List.length_cons]; omega, fun x hx => ?_, fun v v0 v1 hv => ih.keep v v0 v1 (kq v v0 v1 hv)⟩
   rcases List.mem_cons.1 hx with rfl | hx
   ·refine ⟨hq.1, hq.2, ih.keep x hq.1 hq.2 ?_⟩
    rw [rd_set_same _ hq.1 (by omega), w1]
    omega
   ·exact ih.new x hx
  ·exact relaxed hn h0 h1 row far f hh hr'
section
variable {l : List (List Int)} (hg : isGraphB l = true)
include hg
theorem impl_inner (h : Int) (h0 : 0 ≤ h) (h1 : h < l.length) (row : List Int) (hrow : ∀ q ∈ row, 0 ≤ q ∧ q < l.length) (h5 : row.length ≤ 5) (d : Nat) : ∀ (k i : Nat) (far rest : List Int), i + d = row.length → d < k → Fine l.length far → 0 ≤ rd far h → rest.length + neg far ≤ 100 →
  impl_Graph_lengths.l1 k far (h :: rest) row (row.length : Int) (i : Int) l = impl_Graph_lengths.l0 (k - d - 1) (relax h (row.drop i) far).1 (rest ++ (relax h (row.drop i) far).2) l := by
 have hn := (graph_len hg).2
 induction d with
 | zero =>
  intro k i far rest hi hk f hh hc
  obtain ⟨k, rfl⟩ := succ_of hk
  rw [List.drop_of_length_le (by omega)]
  simp only [impl_Graph_lengths.l1, relax, List.append_nil]
  rw [if_neg (by omega), if_pos (by simp only [List.length_cons]; omega)]
  rfl
 | succ d ih =>
  intro k i far rest hi hk f hh hc
  obtain ⟨k, rfl⟩ := succ_of hk
  have hlt : i < row.length := by omega
  have hq := hrow _ (List.getElem_mem hlt)
  have hl := f.len
  rw [List.drop_eq_getElem_cons hlt]
  simp only [impl_Graph_lengths.l1, relax]
  rw [if_pos (by omega), if_pos (by omega), if_pos (by omega), rd_at row i hlt, if_pos hq.1, if_pos (by omega), wrap_up hlt (by omega)]
  by_cases hneg : rd far row[i] < 0
  ·obtain ⟨f1, c1, w1⟩ := fine_set (by omega) f h0 h1 hh hq.1 hq.2 hneg
   have hne : h ≠ row[i] := by intro e; rw [e] at hh; omega
   have e0 : rd (h :: rest) 0 = h := rfl
   have hh1 : 0 ≤ rd (far.set row[i].toNat (wrap64 (rd far h + 1))) h := by rw [rd_set_other _ hq.1 h0 hne]; exact hh
   rw [if_pos hneg, if_pos hneg, e0, if_pos (by simp only [List.length_cons]; omega), if_pos h0, if_pos (by omega), if_pos (by simp only [List.length_cons]; omega), List.cons_append]
   rw [ih k (i + 1) _ (rest ++ [row[i]]) (by omega) (by omega) f1 hh1 (by simp only [List.length_append, List.length_cons, List.length_nil]; omega)]
   rw [show k + 1 - (d + 1) - 1 = k - d - 1 by omega, List.append_assoc]
   rfl
  ·rw [if_neg hneg, if_neg hneg, ih k (i + 1) far rest (by omega) (by omega) f hh hc, show k + 1 - (d + 1) - 1 = k - d - 1 by omega]
theorem spec_inner (h : Int) (h0 : 0 ≤ h) (h1 : h < l.length) (row : List Int) (hrow : ∀ q ∈ row, 0 ≤ q ∧ q < l.length) (h5 : row.length ≤ 5) (j : Nat) (d : Nat) : ∀ (k i : Nat) (far queue : List Int), i + d = row.length → d < k → Fine l.length far → 0 ≤ rd far h → queue.length + neg far ≤ 100 → j < queue.length → rd queue (j : Int) = h →
  spec_grFar.l2 k far queue (j : Int) row (row.length : Int) (i : Int) l = spec_grFar.l1 (k - d - 1) (relax h (row.drop i) far).1 (queue ++ (relax h (row.drop i) far).2) ((j + 1 : Nat) : Int) l := by
 have hn := (graph_len hg).2
 induction d with
 | zero =>
  intro k i far queue hi hk f hh hc hj hjh
  obtain ⟨k, rfl⟩ := succ_of hk
  rw [List.drop_of_length_le (by omega)]
  simp only [spec_grFar.l2, relax, List.append_nil]
  rw [if_neg (by omega), wrap_up hj (by omega)]
  rfl
 | succ d ih =>
  intro k i far queue hi hk f hh hc hj hjh
  obtain ⟨k, rfl⟩ := succ_of hk
  have hlt : i < row.length := by omega
  have hq := hrow _ (List.getElem_mem hlt)
  have hl := f.len
  rw [List.drop_eq_getElem_cons hlt]
  simp only [spec_grFar.l2, relax]
  rw [if_pos (by omega), if_pos (by omega), if_pos (by omega), rd_at row i hlt, if_pos hq.1, if_pos (by omega), wrap_up hlt (by omega), hjh]
  by_cases hneg : rd far row[i] < 0
  ·obtain ⟨f1, c1, w1⟩ := fine_set (by omega) f h0 h1 hh hq.1 hq.2 hneg
   have hne : h ≠ row[i] := by intro e; rw [e] at hh; omega
   have hh1 : 0 ≤ rd (far.set row[i].toNat (wrap64 (rd far h + 1))) h := by rw [rd_set_other _ hq.1 h0 hne]; exact hh
   have hjh1 : rd (queue ++ [row[i]]) (j : Int) = h := by
    rw [← hjh, rd_at _ j hj, rd_at _ j (by simp; omega)]
    exact List.getElem_append_left hj
   rw [if_pos hneg, if_pos hneg, if_pos (by omega), if_pos (by omega), if_pos h0, if_pos (by omega), if_pos (by omega)]
   rw [ih k (i + 1) _ (queue ++ [row[i]]) (by omega) (by omega) f1 hh1 (by simp only [List.length_append, List.length_cons, List.length_nil]; omega) (by simp; omega) hjh1]
   rw [show k + 1 - (d + 1) - 1 = k - d - 1 by omega, List.append_assoc]
   rfl
  ·rw [if_neg hneg, if_neg hneg, ih k (i + 1) far queue (by omega) (by omega) f hh hc hj hjh, show k + 1 - (d + 1) - 1 = k - d - 1 by omega]
theorem both_outer (M : Nat) : ∀ (far queue : List Int) (j : Nat), Fine l.length far → j ≤ queue.length → neg far + (queue.drop j).length ≤ M → queue.length + neg far ≤ 50 → (∀ q ∈ queue.drop j, 0 ≤ q ∧ q < l.length ∧ 0 ≤ rd far q) →
  ∃ X, X.length = l.length ∧ ∀ k, 8 * M + 1 ≤ k → impl_Graph_lengths.l0 k far (queue.drop j) l = some X ∧ spec_grFar.l1 k far queue (j : Int) l = some X := by
 have hn := (graph_len hg).2
 induction M with
 | zero =>
  intro far queue j f hj hM hc hq
  refine ⟨far, f.len, fun k hk => ?_⟩
  obtain ⟨k, rfl⟩ := succ_of (show 0 < k by omega)
  have h0 : (queue.drop j).length = 0 := by omega
  have h1 : queue.drop j = [] := List.eq_nil_of_length_eq_zero h0
  rw [List.length_drop] at h0
  simp only [impl_Graph_lengths.l0, spec_grFar.l1]
  rw [h1, if_neg (by simp), if_neg (by omega)]
  exact ⟨rfl, rfl⟩
 | succ M ih =>
  intro far queue j f hj hM hc hq
  by_cases hlt : j < queue.length
  ·have hd : queue.drop j = queue[j] :: queue.drop (j + 1) := List.drop_eq_getElem_cons hlt
   have hh := hq queue[j] (by rw [hd]; exact List.mem_cons_self)
   obtain ⟨a, ha⟩ : ∃ a : Nat, queue[j] = (a : Int) := ⟨queue[j].toNat, by omega⟩
   have hal : a < l.length := by omega
   obtain ⟨h5, hrow⟩ := graph_row hg (List.getElem_mem hal)
   have R := relaxed (by omega) hh.1 hh.2.1 l[a] far f hh.2.2 hrow
   have hlen : (queue.drop j).length = (queue.drop (j + 1)).length + 1 := by rw [hd]; rfl
   have hcnt := R.cnt
   have hq1 : ∀ q ∈ (queue ++ (relax queue[j] l[a] far).2).drop (j + 1), 0 ≤ q ∧ q < l.length ∧ 0 ≤ rd (relax queue[j] l[a] far).1 q := by
    intro q hq'
    rw [List.drop_append_of_le_length (by omega)] at hq'
    rcases List.mem_append.1 hq' with h' | h'
    ·have := hq q (by rw [hd]; exact List.mem_cons_of_mem _ h')
     exact ⟨this.1, this.2.1, R.keep q this.1 this.2.1 this.2.2⟩
    ·exact R.new q h'
   obtain ⟨X, hX, hk⟩ := ih (relax queue[j] l[a] far).1 (queue ++ (relax queue[j] l[a] far).2) (j + 1) R.fine (by rw [List.length_append]; omega) (by rw [List.drop_append_of_le_length (by omega), List.length_append]; omega) (by rw [List.length_append]; omega) hq1
   refine ⟨X, hX, fun k hk' => ?_⟩
   obtain ⟨k, rfl⟩ := succ_of (show 0 < k by omega)
   have e0 : rd (queue[j] :: queue.drop (j + 1)) 0 = queue[j] := rfl
   have e1 : GA.rd_L1 l queue[j] = l[a] := by rw [ha]; exact rdL_at l a hal
   have hk2 := hk (k - l[a].length - 1) (by omega)
   rw [List.drop_append_of_le_length (by omega)] at hk2
   simp only [impl_Graph_lengths.l0, spec_grFar.l1]
   constructor
   ·rw [hd, if_pos (by simp only [List.length_cons]; omega), if_pos (by simp only [List.length_cons]; omega), e0, if_pos hh.1, if_pos hh.2.1, rdHB, e1]
    have := impl_inner hg queue[j] hh.1 hh.2.1 l[a] hrow h5 l[a].length k 0 far (queue.drop (j + 1)) (by omega) (by omega) f hh.2.2 (by rw [List.length_drop]; omega)
    rw [List.drop_zero] at this
    rw [show (0 : Int) = ((0 : Nat) : Int) from rfl, this]
    exact hk2.1
   ·rw [if_pos (by omega), if_pos (by omega), rd_at queue j hlt, if_pos hh.1, if_pos hh.2.1, rdGB, e1]
    have := spec_inner hg queue[j] hh.1 hh.2.1 l[a] hrow h5 j l[a].length k 0 far queue (by omega) (by omega) f hh.2.2 (by omega) hlt (rd_at queue j hlt)
    rw [List.drop_zero] at this
    rw [show (0 : Int) = ((0 : Nat) : Int) from rfl, this]
    exact hk2.2
  ·refine ⟨far, f.len, fun k hk => ?_⟩
   obtain ⟨k, rfl⟩ := succ_of (show 0 < k by omega)
   have h1 : queue.drop j = [] := List.drop_of_length_le (by omega)
   simp only [impl_Graph_lengths.l0, spec_grFar.l1]
   rw [h1, if_neg (by simp), if_neg (by omega)]
   exact ⟨rfl, rfl⟩
omit hg in
theorem far_fill (p : Nat) (n : Nat) (hn : n ≤ 100) (d : Nat) : ∀ (k i : Nat) (x : List Int), i + d = n → x.length = n → x.take i = List.replicate i (-1) → d < k →
  spec_grFar.l0 k (p : Int) x (n : Int) (i : Int) l = spec_grFar.l0 (k - d) (p : Int) (List.replicate n (-1)) (n : Int) (n : Int) l := by
 induction d with
 | zero =>
  intro k i x hi hx ht hk
  obtain rfl : i = n := by omega
  rw [List.take_of_length_le (by omega)] at ht
  rw [ht]
  rfl
 | succ d ih =>
  intro k i x hi hx ht hk
  obtain ⟨k, rfl⟩ := succ_of hk
  conv => lhs; unfold spec_grFar.l0
  rw [if_pos (by omega), if_pos (by omega), if_pos (by omega), wrap_up (n := n) (by omega) (by omega), Int.toNat_natCast]
  rw [ih k (i + 1) _ (by omega) (by rw [List.length_set]; exact hx) ?_ (by omega), show k + 1 - (d + 1) = k - d by omega]
  rw [List.take_succ_eq_append_getElem (by rw [List.length_set]; omega), List.take_set_of_le (Nat.le_refl _), ht, List.replicate_succ']
  simp
theorem both_far (p : Nat) (hp : p < l.length) : ∃ X, X.length = l.length ∧ ∀ k, 200 ≤ k → impl_Graph_lengths.f k l (p : Int) = some X ∧ spec_grFar.f k l (p : Int) = some X := by
 have hn := graph_len hg
 have hr : ((List.replicate l.length (-1 : Int)).set p 0).length = l.length := by simp
 have hs := neg_set (List.replicate l.length (-1)) p 0 (by simpa using hp) (by simp) (by decide)
 rw [neg_repl] at hs
 have f0 : Fine l.length ((List.replicate l.length (-1 : Int)).set p 0) := ⟨hr, fun x hx => by
  rcases List.mem_or_eq_of_mem_set hx with h' | rfl
  ·have := List.eq_of_mem_replicate h'; omega
  ·omega⟩
 obtain ⟨X, hX, hk⟩ := both_outer hg 10 ((List.replicate l.length (-1 : Int)).set p 0) [(p : Int)] 0 f0 (by simp) (by simp; omega) (by simp; omega) (by
  intro q hq
  simp at hq
  subst hq
  refine ⟨by omega, by omega, ?_⟩
  rw [rd_at _ p (by rw [hr]; exact hp)]
  simp)
 refine ⟨X, hX, fun k hk' => ⟨?_, ?_⟩⟩
 ·unfold impl_Graph_lengths.f slices_Repeat_int_int.f
  simp only
  rw [if_pos (by omega)]
  simp only [Option.bind_some]
  rw [if_pos (by omega), if_pos (by simp; omega), Int.toNat_natCast, Int.toNat_natCast]
  have := (hk k (by omega)).1
  rw [List.drop_zero] at this
  exact this
 ·unfold spec_grFar.f
  rw [if_pos (by omega), if_pos (by omega)]
  simp only [Option.bind_some]
  have hl0 : (List.replicate ((l.length : Int)).toNat (0 : Int)).length = l.length := by simp
  rw [hl0, Int.toNat_natCast]
  have := far_fill (l := l) p l.length (by omega) l.length k 0 (List.replicate l.length 0) (by omega) (by simp) (by simp) (by omega)
  rw [show (0 : Int) = ((0 : Nat) : Int) from rfl] at this ⊢
  rw [this]
  obtain ⟨m, hm⟩ := succ_of (show 0 < k - l.length by omega)
  rw [hm]
  unfold spec_grFar.l0
  rw [if_neg (by omega), if_pos (by omega), if_pos (by simp; omega), Int.toNat_natCast]
  exact (hk m (by omega)).2
end
end Go.Proofs.Ytnbnalbomflafaa.KA
namespace Go.Proofs.Ytnbnalbomflafaa.KA
open Go.RowKit YtnbnalbomflafaaW.PrintWords YtnbnalbomflafaaW.PrintLast
open GA GB HB
section
variable {l : List (List Int)} (hg : isGraphB l = true) (a b : Nat) (ha : a < l.length) (hb : b < l.length)
include hg ha hb
theorem can_loop (d : Nat) : ∀ i : Nat, i + d = l.length → ∃ u, ∀ k, d + 250 ≤ k → spec_hiCan.l0 k (a : Int) (b : Int) l (l.length : Int) (i : Int) l = some u ∧ impl_canEnd.l0 k (a : Int) (b : Int) l (l.length : Int) (i : Int) l = some u := by
 have hn := (graph_len hg).2
 induction d with
 | zero =>
  intro i hi
  refine ⟨true, fun k hk => ?_⟩
  obtain ⟨k, rfl⟩ := succ_of (show 0 < k by omega)
  simp only [spec_hiCan.l0, impl_canEnd.l0]
  rw [if_neg (by omega), if_neg (by omega)]
  exact ⟨rfl, rfl⟩
 | succ d ih =>
  intro i hi
  have hlt : i < l.length := by omega
  obtain ⟨X, hX, hf⟩ := both_far hg i hlt
  obtain ⟨u, hu⟩ := ih (i + 1) (by omega)
  obtain ⟨t, ht⟩ : ∃ t : Bool, t = (if rd X (a : Int) < 0 then (if rd X (b : Int) < 0 then false else (if (i : Int) = (a : Int) then u else if (i : Int) = (b : Int) then u else if ((l[i]).length : Int) = 0 then false else u)) else (if (i : Int) = (a : Int) then u else if (i : Int) = (b : Int) then u else if ((l[i]).length : Int) = 0 then false else u)) := ⟨_, rfl⟩
  refine ⟨t, fun k hk => ?_⟩
  obtain ⟨k, rfl⟩ := succ_of (show 0 < k by omega)
  have h1 := hf k (by omega)
  have h2 := hu k (by omega)
  refine ⟨?_, ?_⟩
  ·simp only [spec_hiCan.l0]
   rw [if_pos (by omega), if_pos (by omega), if_pos (by omega), h1.2]
   simp only [Option.bind_some]
   rw [rdGB, rdL_at l i hlt, wrap_up hlt (by omega), h2.1, if_pos (show 0 ≤ (a : Int) by omega), if_pos (show (a : Int) < X.length by omega), if_pos (show 0 ≤ (b : Int) by omega), if_pos (show (b : Int) < X.length by omega), ht]
   (repeat' split) <;> rfl
  ·simp only [impl_canEnd.l0]
   rw [if_pos (by omega), if_pos (by omega), if_pos (by omega), h1.1]
   simp only [Option.bind_some]
   rw [rdHB, rdL_at l i hlt, wrap_up hlt (by omega), h2.2, if_pos (show 0 ≤ (a : Int) by omega), if_pos (show (a : Int) < X.length by omega), if_pos (show 0 ≤ (b : Int) by omega), if_pos (show (b : Int) < X.length by omega), ht]
   (repeat' split) <;> rfl
end
theorem goals_eq (l : List (List Int)) (a b : Int) (k : Nat) (hk : 20 ≤ k) : spec_hiGoals.f k l a b = some (placeB l a && placeB l b && (a != b)) := by
 unfold spec_hiGoals.f
 rw [grPlace_eq l a k hk, grPlace_eq l b k hk]
 cases placeB l a <;> cases placeB l b <;> simp
theorem can_both (l : List (List Int)) (a b : Int) (h : (placeB l a && placeB l b && (a != b)) = true) : ∃ u, ∀ k, 300 ≤ k → spec_hiCan.f k l a b = some u ∧ impl_canEnd.f k l a b = some u := by
 simp only [Bool.and_eq_true, bne_iff_ne] at h
 obtain ⟨⟨h1, h2⟩, h3⟩ := h
 obtain ⟨hg, _, h8, ha0, ha⟩ := place_is h1
 obtain ⟨_, _, _, hb0, hb⟩ := place_is h2
 obtain ⟨a, rfl⟩ := Int.eq_ofNat_of_zero_le ha0
 obtain ⟨b, rfl⟩ := Int.eq_ofNat_of_zero_le hb0
 obtain ⟨u, hu⟩ := can_loop hg a b (by omega) (by omega) l.length 0 (by omega)
 refine ⟨u, fun k hk => ⟨?_, ?_⟩⟩
 ·exact (hu k (by omega)).1
 ·unfold impl_canEnd.f impl_has.f
  rw [hasB_two, h1, h2]
  simp only [Option.bind_some, Bool.and_self, if_true]
  obtain ⟨k, rfl⟩ := succ_of (show 0 < k by omega)
  simp only [impl_canEnd.j0]
  rw [if_neg (by simpa using h3)]
  exact (hu k (by omega)).2
theorem can_none (l : List (List Int)) (a b : Int) (h : (placeB l a && placeB l b && (a != b)) = false) (k : Nat) (hk : 300 ≤ k) : impl_canEnd.f k l a b = some false := by
 obtain ⟨k, rfl⟩ := succ_of (show 0 < k by omega)
 unfold impl_canEnd.f impl_has.f
 rw [hasB_two]
 simp only [Option.bind_some]
 cases hp : placeB l a && placeB l b with
 | false => simp [impl_canEnd.j0]
 | true =>
  rw [hp, Bool.true_and] at h
  have e : (a == b) = true := by simpa using h
  rw [if_pos rfl, e]
  simp [impl_canEnd.j0]
end Go.Proofs.Ytnbnalbomflafaa.KA
namespace Go.Proofs.Ytnbnalbomflafaa.RA
open Go.RowKit YtnbnalbomflafaaW.PrintWords YtnbnalbomflafaaW.PrintLast YtnbnalbomflafaaW.PrintMore
open GA
open GB hiding rd_L1 at_L1
open KA
inductive Reach (l : List (List Int)) (p : Int) : Int → Prop
 | here : Reach l p p
 | step {v q : Int} : Reach l p v → q ∈ GA.rd_L1 l v → Reach l p q
def Told (l : List (List Int)) (p : Int) (X : List Int) : Prop := ∀ v : Int, 0 ≤ v → v < X.length → 0 ≤ rd X v → Reach l p v
theorem told_set {l : List (List Int)} {p : Int} {X : List Int} (h : Told l p X) {q : Int} (y : Int) (h0 : 0 ≤ q) (h1 : q < X.length) (hq : Reach l p q) : Told l p (X.set q.toNat y) := by
 intro v hv0 hv1 hv2
 rw [List.length_set] at hv1
 by_cases hvq : v = q
 ·rw [hvq]; exact hq
 ·rw [rd_set_other y h0 hv0 hvq] at hv2
  exact h v hv0 hv1 hv2
theorem rd_in {x : List Int} {v : Int} (h0 : 0 ≤ v) (h1 : v < x.length) : rd x v ∈ x := KA.rd_mem h0 h1
theorem ifn {α : Type} {c : Prop} [Decidable c] {t : Option α} {X : α} (h : (if c then t else none) = some X) : c ∧ t = some X := by
 by_cases hc : c
 ·rw [if_pos hc] at h; exact ⟨hc, h⟩
 ·rw [if_neg hc] at h; cases h
theorem far12 (l : List (List Int)) (p : Int) : ∀ k, (∀ x5 x7 x8 X, Told l p x5 → (∀ q ∈ x7, Reach l p q) → spec_grFar.l1 k x5 x7 x8 l = some X → Told l p X) ∧
  (∀ x5 x7 x8 x42 x43 x44 X, Told l p x5 → (∀ q ∈ x7, Reach l p q) → (∀ q ∈ x42, Reach l p q) → spec_grFar.l2 k x5 x7 x8 x42 x43 x44 l = some X → Told l p X)
 | 0 => ⟨fun _ _ _ _ _ _ h => by simp [spec_grFar.l1] at h, fun _ _ _ _ _ _ _ _ _ _ h => by simp [spec_grFar.l2] at h⟩
 | k + 1 => by
  obtain ⟨i1, i2⟩ := far12 l p k
  constructor
  ·intro x5 x7 x8 X hT hQ h
   unfold spec_grFar.l1 at h
   by_cases c1 : x8 < (x7.length : Int)
   ·rw [if_pos c1] at h
    obtain ⟨c2, h⟩ := ifn h
    obtain ⟨_, h⟩ := ifn h
    obtain ⟨_, h⟩ := ifn h
    refine i2 _ _ _ _ _ _ X hT hQ (fun q hq => ?_) h
    exact Reach.step (hQ _ (rd_in c2 c1)) hq
   ·rw [if_neg c1] at h
    injection h with h
    rw [← h]; exact hT
  ·intro x5 x7 x8 x42 x43 x44 X hT hQ hR h
   unfold spec_grFar.l2 at h
   by_cases c1 : x44 < x43
   ·rw [if_pos c1] at h
    obtain ⟨c2, h⟩ := ifn h
    obtain ⟨c3, h⟩ := ifn h
    obtain ⟨c4, h⟩ := ifn h
    obtain ⟨c5, h⟩ := ifn h
    have hq := hR _ (rd_in c2 c3)
    by_cases c6 : rd x5 (rd x42 x44) < 0
    ·rw [if_pos c6] at h
     obtain ⟨_, h⟩ := ifn h
     obtain ⟨_, h⟩ := ifn h
     obtain ⟨_, h⟩ := ifn h
     obtain ⟨_, h⟩ := ifn h
     obtain ⟨_, h⟩ := ifn h
     refine i2 _ _ _ _ _ _ X (told_set hT _ c4 c5 hq) (fun q hq2 => ?_) hR h
     rcases List.mem_append.1 hq2 with hq2 | hq2
     ·exact hQ q hq2
     ·rw [List.mem_singleton.1 hq2]; exact hq
    ·rw [if_neg c6] at h
     exact i2 _ _ _ _ _ _ X hT hQ hR h
   ·rw [if_neg c1] at h
    exact i1 _ _ _ X hT hQ h
theorem far0 (l : List (List Int)) (p : Int) : ∀ k (x5 : List Int) (i : Int) X, 0 ≤ i → x5.length ≤ 1000 → (∀ v : Int, 0 ≤ v → v < i → v < x5.length → rd x5 v < 0) → spec_grFar.l0 k p x5 (x5.length : Int) i l = some X → Told l p X
 | 0, _, _, _, _, _, _, h => by simp [spec_grFar.l0] at h
 | k + 1, x5, i, X, hi, hl, hv, h => by
  unfold spec_grFar.l0 at h
  by_cases c1 : i < (x5.length : Int)
  ·rw [if_pos c1] at h
   obtain ⟨_, h⟩ := ifn h
   obtain ⟨_, h⟩ := ifn h
   rw [wrap_id (by omega) (by omega)] at h
   have hv2 : ∀ v : Int, 0 ≤ v → v < i + 1 → v < (x5.set i.toNat (-1)).length → rd (x5.set i.toNat (-1)) v < 0 := by
    intro v h0 h1 h2
    rw [List.length_set] at h2
    by_cases hvi : v = i
    ·rw [hvi, rd_set_same (-1) hi c1]; omega
    ·rw [rd_set_other (-1) hi h0 hvi]
     exact hv v h0 (by omega) h2
   refine far0 l p k (x5.set i.toNat (-1)) (i + 1) X (by omega) (by simpa using hl) hv2 ?_
   rw [show ((x5.set i.toNat (-1)).length : Int) = (x5.length : Int) by rw [List.length_set]]
   exact h
  ·rw [if_neg c1] at h
   obtain ⟨c2, h⟩ := ifn h
   obtain ⟨c3, h⟩ := ifn h
   refine (far12 l p k).1 _ _ _ X (fun v h0 h1 h2 => ?_) (fun q hq => ?_) h
   ·rw [List.length_set] at h1
    by_cases hvp : v = p
    ·rw [hvp]; exact Reach.here
    ·rw [rd_set_other 0 c2 h0 hvp] at h2
     have := hv v h0 (by omega) h1
     omega
   ·rw [List.mem_singleton.1 hq]; exact Reach.here
theorem far_told (l : List (List Int)) (p : Int) (k : Nat) (X : List Int) (hl : l.length ≤ 1000) (h : spec_grFar.f k l p = some X) : Told l p X := by
 unfold spec_grFar.f at h
 rw [if_pos (by omega), if_pos (by omega)] at h
 simp only [Option.bind_some] at h
 exact far0 l p k _ 0 X (by omega) (by simp; omega) (fun v h0 h1 _ => by omega) h
def Ends (l : List (List Int)) (a b v : Int) : Prop := (Reach l v a ∨ Reach l v b) ∧ (v = a ∨ v = b ∨ (GA.rd_L1 l v).length ≠ 0)
theorem can_told (l : List (List Int)) (a b : Int) (hl : l.length ≤ 1000) : ∀ k (i : Int), 0 ≤ i → spec_hiCan.l0 k a b l (l.length : Int) i l = some true → ∀ v : Int, i ≤ v → v < l.length → Ends l a b v
 | 0, _, _, h => by simp [spec_hiCan.l0] at h
 | k + 1, i, hi, h => by
  intro v h1 h2
  unfold spec_hiCan.l0 at h
  rw [if_pos (by omega), if_pos hi, if_pos (by omega)] at h
  obtain ⟨X, hX, h⟩ := Option.bind_eq_some_iff.1 h
  have hT := far_told l i k X hl hX
  rw [wrap_id (x := i + 1) (by omega) (by omega)] at h
  have key : Ends l a b i ∧ spec_hiCan.l0 k a b l (l.length : Int) (i + 1) l = some true := by
   have tail : ∀ (_ : Reach l i a ∨ Reach l i b), (if i = a then spec_hiCan.l0 k a b l (l.length : Int) (i + 1) l else if i = b then spec_hiCan.l0 k a b l (l.length : Int) (i + 1) l else if ((GB.rd_L1 l i).length : Int) = 0 then some false else spec_hiCan.l0 k a b l (l.length : Int) (i + 1) l) = some true → Ends l a b i ∧ spec_hiCan.l0 k a b l (l.length : Int) (i + 1) l = some true := by
    intro hr h
    split at h
    ·rename_i c
     exact ⟨⟨hr, Or.inl c⟩, h⟩
    ·split at h
     ·rename_i c
      exact ⟨⟨hr, Or.inr (Or.inl c)⟩, h⟩
     ·split at h
      ·cases h
      ·rename_i c
       refine ⟨⟨hr, Or.inr (Or.inr ?_)⟩, h⟩
       intro hz
       apply c
       rw [rdGB]
       omega
   split at h
   ·rename_i c1
    split at h
    ·rename_i c2
     split at h
     ·split at h
      ·rename_i c4
       split at h
       ·rename_i c5
        split at h
        ·cases h
        ·rename_i c6
         exact tail (Or.inr (hT b c4 c5 (by omega))) h
       ·cases h
      ·cases h
     ·rename_i c3
      exact tail (Or.inl (hT a c1 c2 (by omega))) h
    ·cases h
   ·cases h
  by_cases hv : v = i
  ·rw [hv]; exact key.1
  ·exact can_told l a b hl k (i + 1) (by omega) key.2 v (by omega) h2
end Go.Proofs.Ytnbnalbomflafaa.RA
namespace Go.Proofs.Ytnbnalbomflafaa.RA
open Go.RowKit YtnbnalbomflafaaW.PrintWords YtnbnalbomflafaaW.PrintLast YtnbnalbomflafaaW.PrintMore
open GA
open GD hiding rd_L1 at_L1
theorem box_10 (w : World) (v : Value) (t : TypeId) : (w.alloc (.cells #[v] t)).cell? ⟨w.heap.size, 0, none⟩ = some v := (blk_cell (blk_new w _) 0).trans rfl
theorem toL_c (w : World) (v : Value) (l : List Int) (h : ListC w v l) (hs : SmallL l) : Calls Try.prog 28 #[v] w fun e w' => ∃ u, e = .returned u ∧ Below w.heap.size w w' ∧ Aside0 (ListD w' w.heap.size u l) := toIntS_calls w v l h (by unfold SmallL at hs; omega)
theorem szG_c (w : World) (v : Value) (l : List (List Int)) (h : RowsC w v l) (x : Int) (hx : 0 ≤ x ∧ x ≤ 1048576) : Calls Try.prog 19 #[.agg #[v], .int .i64 x] w fun e w' => e = .returned (.int .i64 (szZ l x)) ∧ Below w.heap.size w w' := by
 have h2 := szSS_f l x hx h.maxs.1 h.maxs.2
 have h3 := szZ_is l x hx
 obtain ⟨A, c, rfl, hc, hC⟩ := h
 refine laws_szGraph.calls (l.length + 1) A c l x _ w hC hc ?_
 unfold laws_szGraph.f
 rw [h2, Option.bind_some]
 rcases h3 with h3 | ⟨h3, _⟩
 ·rw [h3]; rfl
 ·rw [if_neg (by omega)]
theorem toG_c (w : World) (v : Value) (l : List (List Int)) (h : RowsC w v l) (hs : Small l) : Calls Try.prog 21 #[.agg #[v]] w fun e w' => ∃ u, e = .returned (.agg #[u]) ∧ Below w.heap.size w w' ∧ Aside0 (RowsD w' w.heap.size u l) := by
 obtain ⟨A, c, rfl, hc, hC⟩ := h
 refine (laws_toGraph.calls (1048576 + l.length + 2) A c l l w hC hc ?_).mono ?_
 ·unfold laws_toGraph.f
  rw [toSS_is l hs.1 hs.2.2]
  rfl
 ·rintro e w' ⟨u, rfl, hS, hB⟩
  exact ⟨u, rfl, hB, ⟨rowsD_of_S hS⟩⟩
theorem eqG_c (w : World) (v u : Value) (l : List (List Int)) (hv : RowsC w v l) (hu : RowsC w u l) (hs : Small l) : Calls Try.prog 24 #[.agg #[v], .agg #[u]] w fun e w' => e = .returned (.bool true) ∧ Below w.heap.size w w' := by
 obtain ⟨A, c, rfl, hc, hC⟩ := hv
 obtain ⟨A2, c2, rfl, hc2, hC2⟩ := hu
 refine laws_eqGraph.calls (1048576 + l.length + 2) A c l A2 c2 l true w hC hc hC2 hc2 ?_
 unfold laws_eqGraph.f
 rw [eqIntSS_refl l (by have := hs.1; omega) 1048576 hs.2.2 (by decide)]
 rfl
end Go.Proofs.Ytnbnalbomflafaa.RA
namespace Go.Proofs.Ytnbnalbomflafaa.RA
open Go.RowKit YtnbnalbomflafaaW.PrintWords YtnbnalbomflafaaW.PrintLast YtnbnalbomflafaaW.PrintMore
open GA
open GD hiding rd_L1 at_L1
open GR hiding rd_L1 at_L1
open KA (placeB succ_of wrap_up)
theorem rdD (l : List (List Int)) (i : Int) : GD.rd_L1 l i = GA.rd_L1 l i := rfl
theorem rdR (l : List (List Int)) (i : Int) : GR.rd_L1 l i = GA.rd_L1 l i := rfl
end Go.Proofs.Ytnbnalbomflafaa.RA
namespace Go.Proofs.Ytnbnalbomflafaa.RA
open Go.RowKit YtnbnalbomflafaaW.PrintWords YtnbnalbomflafaaW.PrintLast YtnbnalbomflafaaW.PrintMore
open GA
open GD hiding rd_L1 at_L1
open GR hiding rd_L1 at_L1
open KA
def okWalk : List (List Int) → List Int → Bool
 | r :: l, x :: s => inB x 0 (max ((r.length : Int) - 1) 0) && okWalk l s
 | _, _ => true
def walkB (l : List (List Int)) (x : List Int) (a : Int) : Bool := placeB l a && decide (x.length = l.length) && okWalk l x
theorem okWalk_drop (l : List (List Int)) (s : List Int) (i : Nat) (h1 : i < l.length) (h2 : i < s.length) : okWalk (l.drop i) (s.drop i) = (inB s[i] 0 (max ((l[i].length : Int) - 1) 0) && okWalk (l.drop (i + 1)) (s.drop (i + 1))) := by
 rw [List.drop_eq_getElem_cons h1, List.drop_eq_getElem_cons h2]
 rfl
theorem most_eq (a b : Int) : spec_l1Most.f a b = some (max b a) := by
 unfold spec_l1Most.f
 split <;> congr 1 <;> omega
theorem waGood_loop (l : List (List Int)) (s : List Int) (hn : l.length ≤ 8) (hsl : s.length = l.length) (h5 : ∀ r ∈ l, r.length ≤ 5) (a : Int) (d : Nat) : ∀ (k i : Nat), i + d = l.length → d < k → spec_waGood.l0 k l (l.length : Int) (i : Int) s a = some (okWalk (l.drop i) (s.drop i)) := by
 induction d with
 | zero =>
  intro k i hi hk
  obtain ⟨k, rfl⟩ := succ_of hk
  unfold spec_waGood.l0
  rw [if_neg (by omega), List.drop_of_length_le (by omega), List.drop_of_length_le (by omega)]
  rfl
 | succ d ih =>
  intro k i hi hk
  obtain ⟨k, rfl⟩ := succ_of hk
  have hlt : i < s.length := by omega
  have hil : i < l.length := by omega
  have := h5 _ (List.getElem_mem hil)
  unfold spec_waGood.l0
  rw [if_pos (by omega), if_pos (by omega), if_pos (by omega), if_pos (by omega), rdD, rdL_at l i hil, rd_at s i hlt, okWalk_drop l s i hil hlt, most_eq, wrap_id (by omega) (by omega)]
  simp only [Option.bind_some, l1In_eq]
  cases inB s[i] 0 (max ((l[i].length : Int) - 1) 0) with
  | true => rw [if_pos rfl, wrap_up hil (by omega), ih k (i + 1) (by omega) (by omega), Bool.true_and]
  | false => rw [if_neg (by decide), Bool.false_and]
theorem isWalk_loop (l : List (List Int)) (s : List Int) (hn : l.length ≤ 8) (hsl : s.length = l.length) (h5 : ∀ r ∈ l, r.length ≤ 5) (d : Nat) : ∀ (k i : Nat), i + d = s.length → d < k → impl_isWalk.l0 k s (s.length : Int) (i : Int) l = some (okWalk (l.drop i) (s.drop i)) := by
 induction d with
 | zero =>
  intro k i hi hk
  obtain ⟨k, rfl⟩ := succ_of hk
  unfold impl_isWalk.l0
  rw [if_neg (by omega), List.drop_of_length_le (by omega), List.drop_of_length_le (by omega)]
  rfl
 | succ d ih =>
  intro k i hi hk
  obtain ⟨k, rfl⟩ := succ_of hk
  have hlt : i < s.length := by omega
  have hil : i < l.length := by omega
  have := h5 _ (List.getElem_mem hil)
  unfold impl_isWalk.l0
  rw [if_pos (by omega), if_pos (by omega), if_pos (by omega), if_pos (by omega), rdR, rdL_at l i hil, rd_at s i hlt, okWalk_drop l s i hil hlt, wrap_id (by omega) (by omega)]
  rw [in_eq, show mx ((l[i].length : Int) - 1) 0 = max ((l[i].length : Int) - 1) 0 by unfold mx; omega]
  simp only [Option.bind_some]
  cases inB s[i] 0 (max ((l[i].length : Int) - 1) 0) with
  | true => rw [if_pos rfl, wrap_up hlt (by omega), ih k (i + 1) (by omega) (by omega), Bool.true_and]
  | false => rw [if_neg (by decide), Bool.false_and]
theorem waGood_eq (l : List (List Int)) (s : List Int) (a : Int) (k : Nat) (hk : 100 ≤ k) : spec_waGood.f k l s a = some (walkB l s a) := by
 obtain ⟨k, rfl⟩ := succ_of (show 0 < k by omega)
 unfold spec_waGood.f walkB
 rw [grPlace_eq l a _ (by omega)]
 simp only [Option.bind_some]
 cases hp : placeB l a with
 | false => simp [spec_waGood.j0]
 | true =>
  obtain ⟨hg, h1, h8, ha0, hal⟩ := place_is hp
  rw [if_pos rfl]
  simp only [spec_waGood.j0]
  by_cases hsl : s.length = l.length
  ·rw [show ((s.length : Int) != (l.length : Int)) = false by simp [hsl], if_neg (by decide)]
   have := waGood_loop l s h8 hsl (fun r hr => (graph_row hg hr).1) a l.length k 0 (by omega) (by omega)
   rw [List.drop_zero, List.drop_zero] at this
   rw [show (0 : Int) = ((0 : Nat) : Int) from rfl, this]
   simp [hsl]
  ·rw [show ((s.length : Int) != (l.length : Int)) = true by simp; omega, if_pos rfl]
   simp [hsl]
theorem place_zero {l : List (List Int)} {a : Int} (h : placeB l a = true) : placeB l 0 = true := by
 obtain ⟨hg, h1, h8, ha0, hal⟩ := place_is h
 unfold placeB inB
 rw [hg, Bool.true_and, decide_eq_true_eq]
 omega
theorem isWalk_eq (l : List (List Int)) (s : List Int) (a : Int) (k : Nat) (hk : 100 ≤ k) : impl_isWalk.f k l s a = some (walkB l s a) := by
 obtain ⟨k, rfl⟩ := succ_of (show 0 < k by omega)
 unfold impl_isWalk.f walkB impl_has.f
 rw [hasB_one]
 simp only [Option.bind_some]
 cases hp : placeB l a with
 | false => simp [impl_isWalk.j0]
 | true =>
  obtain ⟨hg, h1, h8, ha0, hal⟩ := place_is hp
  rw [if_pos rfl]
  simp only [impl_isWalk.j0]
  by_cases hsl : s.length = l.length
  ·rw [show ((s.length : Int) != (l.length : Int)) = false by simp [hsl], if_neg (by decide)]
   have := isWalk_loop l s h8 hsl (fun r hr => (graph_row hg hr).1) s.length k 0 (by omega) (by omega)
   rw [List.drop_zero, List.drop_zero] at this
   rw [show (0 : Int) = ((0 : Nat) : Int) from rfl, this]
   simp [hsl]
  ·rw [show ((s.length : Int) != (l.length : Int)) = true by simp; omega, if_pos rfl]
   simp [hsl]
theorem areRotors_eq (l : List (List Int)) (s : List Int) (a : Int) (hp : placeB l a = true) (k : Nat) (hk : 100 ≤ k) : impl_areRotors.f k l s = some (walkB l s a) := by
 unfold impl_areRotors.f
 rw [isWalk_eq l s 0 k hk]
 unfold walkB
 rw [hp, place_zero hp]
 rfl
theorem walk_is {l : List (List Int)} {s : List Int} {a : Int} (h : walkB l s a = true) : placeB l a = true ∧ s.length = l.length ∧ okWalk l s = true := by
 unfold walkB at h
 simp only [Bool.and_eq_true, decide_eq_true_eq] at h
 exact ⟨h.1.1, h.1.2, h.2⟩
end Go.Proofs.Ytnbnalbomflafaa.RA
namespace Go.Proofs.Ytnbnalbomflafaa.RA
open Go.RowKit YtnbnalbomflafaaW.PrintWords YtnbnalbomflafaaW.PrintLast YtnbnalbomflafaaW.PrintMore
open KA
def Dist (l : List (List Int)) (a b : Int) : Nat → Int → Prop
 | 0, v => v = a ∨ v = b
 | m + 1, v => v = a ∨ v = b ∨ ∃ q ∈ GA.rd_L1 l v, Dist l a b m q
theorem dist_of {l : List (List Int)} {a b p q : Int} (h : Reach l p q) : ∀ m, Dist l a b m q → ∃ m', Dist l a b m' p := by
 induction h with
 | here => exact fun m h => ⟨m, h⟩
 | step h1 h2 ih => exact fun m hm => ih (m + 1) (Or.inr (Or.inr ⟨_, h2, hm⟩))
theorem dist_ends {l : List (List Int)} {a b v : Int} (h : Ends l a b v) : ∃ m, Dist l a b m v := by
 rcases h.1 with h | h
 ·exact dist_of h 0 (Or.inl rfl)
 ·exact dist_of h 0 (Or.inr rfl)
theorem least_of {P : Nat → Prop} : ∀ m, P m → ∃ n, P n ∧ ∀ k, k < n → ¬ P k := by
 intro m
 induction m using Nat.strongRecOn with
 | ind m ih =>
  intro hm
  by_cases h : ∃ k, k < m ∧ P k
  ·obtain ⟨k, hk, hp⟩ := h
   exact ih k hk hp
  ·exact ⟨m, hm, fun k hk hp => h ⟨k, hk, hp⟩⟩
theorem dist_fun (l : List (List Int)) (a b : Int) (n : Nat) (hE : ∀ v : Int, 0 ≤ v → v < n → ∃ m, Dist l a b m v) (hrow : ∀ v : Int, 0 ≤ v → v < n → ∀ q ∈ GA.rd_L1 l v, 0 ≤ q ∧ q < n) :
  ∃ d : Int → Nat, ∀ v : Int, 0 ≤ v → v < n → v ≠ a → v ≠ b → ∃ q ∈ GA.rd_L1 l v, d q < d v := by
 classical
 refine ⟨fun v => if h : ∃ m, Dist l a b m v ∧ ∀ k, k < m → ¬ Dist l a b k v then h.choose else 0, fun v h0 h1 ha hb => ?_⟩
 have key : ∀ v : Int, 0 ≤ v → v < n → ∃ m, Dist l a b m v ∧ ∀ k, k < m → ¬ Dist l a b k v := fun v h0 h1 => by
  obtain ⟨m, hm⟩ := hE v h0 h1
  exact least_of m hm
 have hv := key v h0 h1
 simp only [dif_pos hv]
 obtain ⟨hm, hleast⟩ := hv.choose_spec
 cases hc : hv.choose with
 | zero =>
  rw [hc] at hm
  rcases hm with hm | hm
  ·exact absurd hm ha
  ·exact absurd hm hb
 | succ m =>
  rw [hc] at hm
  rcases hm with hm | hm | ⟨q, hq, hd⟩
  ·exact absurd hm ha
  ·exact absurd hm hb
  ·refine ⟨q, hq, ?_⟩
   have hqn := hrow v h0 h1 q hq
   have hk := key q hqn.1 hqn.2
   rw [dif_pos hk]
   have := hk.choose_spec.2
   rcases Nat.lt_or_ge m hk.choose with h | h
   ·exact absurd hd (this m h)
   ·omega
def sumTo (f : Nat → Nat) : Nat → Nat
 | 0 => 0
 | n + 1 => sumTo f n + f n
theorem sumTo_same (f g : Nat → Nat) : ∀ n, (∀ i, i < n → f i = g i) → sumTo f n = sumTo g n
 | 0, _ => rfl
 | n + 1, h => by
  unfold sumTo
  rw [sumTo_same f g n (fun i hi => h i (by omega)), h n (by omega)]
theorem sumTo_one (f g : Nat → Nat) (i : Nat) : ∀ n, i < n → (∀ j, j < n → j ≠ i → f j = g j) → sumTo f n + g i = sumTo g n + f i
 | 0, h, _ => by omega
 | n + 1, h, hj => by
  unfold sumTo
  by_cases hin : i = n
  ·rw [hin, sumTo_same f g n (fun j hj2 => hj j (by omega) (by omega))]
   omega
  ·have := sumTo_one f g i n (by omega) (fun j h1 h2 => hj j (by omega) h2)
   have := hj n (by omega) (by omega)
   omega
theorem sumTo_le (f : Nat → Nat) : ∀ n i, i < n → f i ≤ sumTo f n
 | 0, i, h => by omega
 | n + 1, i, h => by
  unfold sumTo
  by_cases hin : i = n
  ·rw [hin]; omega
  ·have := sumTo_le f n i (by omega); omega
def xs : Nat → Nat
 | 0 => 0
 | e + 1 => 5 * xs e + 5
theorem xs_mono : ∀ {e f : Nat}, e ≤ f → xs e ≤ xs f := by
 intro e f h
 induction h with
 | refl => exact Nat.le_refl _
 | step _ ih => exact Nat.le_trans ih (by show _ ≤ 5 * xs _ + 5; omega)
def turns (deg j r : Nat) : Nat := (j + deg - 1 - r) % deg + 1
theorem turns_step (deg j r : Nat) (h5 : deg ≤ 5) (hj : j < deg) (hr : r < deg) : ((r + 1) % deg = j ∧ turns deg j r = 1 ∧ turns deg j ((r + 1) % deg) ≤ 5) ∨ (turns deg j ((r + 1) % deg) + 1 = turns deg j r) := by
 unfold turns
 have h : deg = 1 ∨ deg = 2 ∨ deg = 3 ∨ deg = 4 ∨ deg = 5 := by omega
 rcases h with rfl | rfl | rfl | rfl | rfl <;> omega
end Go.Proofs.Ytnbnalbomflafaa.RA
namespace Go.Proofs.Ytnbnalbomflafaa.RA
open Go.RowKit YtnbnalbomflafaaW.PrintWords YtnbnalbomflafaaW.PrintLast YtnbnalbomflafaaW.PrintMore
open KA
inductive Run (l : List (List Int)) (a b : Int) : Nat → Int → List Int → Int → Int → List Int → Int → Prop
 | stop (v : Int) (rot : List Int) (st : Int) (h : v = a ∨ v = b) : Run l a b 0 v rot st v rot st
 | go (s : Nat) (v : Int) (rot : List Int) (st v1 : Int) (rot1 : List Int) (st1 : Int) (ha : v ≠ a) (hb : v ≠ b) (h0 : 0 ≤ v) (h1 : v < l.length) (hr : v < rot.length) (k : Nat) (hk : k < (GA.rd_L1 l v).length)
   (hkr : Int.tmod (wrap64 (rd rot v + 1)) ((GA.rd_L1 l v).length : Int) = (k : Int)) (h : Run l a b s (rd (GA.rd_L1 l v) k) (rot.set v.toNat k) (wrap64 (st + 1)) v1 rot1 st1) : Run l a b (s + 1) v rot st v1 rot1 st1
def Rots (l : List (List Int)) (rot : List Int) : Prop := rot.length = l.length ∧ ∀ v : Int, 0 ≤ v → v < l.length → 0 < (GA.rd_L1 l v).length → 0 ≤ rd rot v ∧ rd rot v < (GA.rd_L1 l v).length
theorem rots_set {l : List (List Int)} {rot : List Int} (h : Rots l rot) {v : Int} (h0 : 0 ≤ v) (h1 : v < l.length) {k : Nat} (hk : k < (GA.rd_L1 l v).length) : Rots l (rot.set v.toNat k) := by
 refine ⟨by rw [List.length_set]; exact h.1, fun u u0 u1 hd => ?_⟩
 have hl := h.1
 by_cases hu : u = v
 ·rw [hu, rd_set_same _ h0 (by omega)]
  omega
 ·rw [rd_set_other _ h0 u0 hu]
  exact h.2 u u0 u1 hd
theorem run_ex (l : List (List Int)) (a b : Int) (h5 : ∀ v : Int, 0 ≤ v → v < l.length → (GA.rd_L1 l v).length ≤ 5) (hrow : ∀ v : Int, 0 ≤ v → v < l.length → ∀ q ∈ GA.rd_L1 l v, 0 ≤ q ∧ q < l.length)
  (hE : ∀ v : Int, 0 ≤ v → v < l.length → Ends l a b v) : ∀ (rot : List Int) (v st : Int), Rots l rot → 0 ≤ v → v < l.length → ∃ s v1 rot1 st1, Run l a b s v rot st v1 rot1 st1 ∧ Rots l rot1 := by
 classical
 obtain ⟨d, hd⟩ := dist_fun l a b l.length (fun v h0 h1 => dist_ends (hE v h0 h1)) hrow
 have hg : ∀ v : Int, ∃ j : Nat, 0 ≤ v → v < l.length → v ≠ a → v ≠ b → j < (GA.rd_L1 l v).length ∧ d (rd (GA.rd_L1 l v) j) < d v := fun v => by
  by_cases hv : 0 ≤ v ∧ v < l.length ∧ v ≠ a ∧ v ≠ b
  ·obtain ⟨q, hq, hlt⟩ := hd v hv.1 hv.2.1 hv.2.2.1 hv.2.2.2
   obtain ⟨j, hj, hjq⟩ := List.mem_iff_getElem.1 hq
   exact ⟨j, fun _ _ _ _ => ⟨hj, by rw [rd_at _ j hj, hjq]; exact hlt⟩⟩
  ·exact ⟨0, fun h0 h1 h2 h3 => absurd ⟨h0, h1, h2, h3⟩ hv⟩
 let g : Int → Nat := fun v => (hg v).choose
 have hgs : ∀ v : Int, 0 ≤ v → v < l.length → v ≠ a → v ≠ b → g v < (GA.rd_L1 l v).length ∧ d (rd (GA.rd_L1 l v) (g v)) < d v := fun v => (hg v).choose_spec
 obtain ⟨M, hM⟩ : ∃ M, ∀ v : Int, 0 ≤ v → v < l.length → d v ≤ M := ⟨sumTo (fun i => d (i : Int)) l.length, fun v h0 h1 => by
  obtain ⟨i, rfl⟩ := Int.eq_ofNat_of_zero_le h0
  exact sumTo_le (fun i => d (i : Int)) l.length i (by omega)⟩
 let T : List Int → Nat → Nat := fun rot i => (xs (M - d (i : Int)) + 1) * turns (GA.rd_L1 l (i : Int)).length (g (i : Int)) (rd rot (i : Int)).toNat
 suffices H : ∀ (m : Nat) (rot : List Int) (v st : Int), Rots l rot → 0 ≤ v → v < l.length → sumTo (T rot) l.length + (xs M - xs (M - d v)) < m → ∃ s v1 rot1 st1, Run l a b s v rot st v1 rot1 st1 ∧ Rots l rot1 from
  fun rot v st hR h0 h1 => H _ rot v st hR h0 h1 (Nat.lt_succ_self _)
 intro m
 induction m with
 | zero => intro rot v st _ _ _ h; omega
 | succ m ih =>
  intro rot v st hR h0 h1 hm
  by_cases ha : v = a
  ·exact ⟨0, v, rot, st, Run.stop v rot st (Or.inl ha), hR⟩
  by_cases hb : v = b
  ·exact ⟨0, v, rot, st, Run.stop v rot st (Or.inr hb), hR⟩
  obtain ⟨hj, hdj⟩ := hgs v h0 h1 ha hb
  have hdeg : 0 < (GA.rd_L1 l v).length := by omega
  have hdeg5 := h5 v h0 h1
  obtain ⟨hr0, hr1⟩ := hR.2 v h0 h1 hdeg
  obtain ⟨r, hr⟩ := Int.eq_ofNat_of_zero_le hr0
  have hrl : r < (GA.rd_L1 l v).length := by omega
  have hk : (r + 1) % (GA.rd_L1 l v).length < (GA.rd_L1 l v).length := Nat.mod_lt _ hdeg
  have hkr : Int.tmod (wrap64 (rd rot v + 1)) ((GA.rd_L1 l v).length : Int) = (((r + 1) % (GA.rd_L1 l v).length : Nat) : Int) := by
   rw [hr, wrap_id (by omega) (by omega)]
   rfl
  have hts := turns_step (GA.rd_L1 l v).length (g v) r hdeg5 hj hrl
  generalize hkk : (r + 1) % (GA.rd_L1 l v).length = k at hk hkr hts
  have hR2 := rots_set hR h0 h1 hk
  have hw := hrow v h0 h1 (rd (GA.rd_L1 l v) k) (by rw [rd_at _ k hk]; exact List.getElem_mem hk)
  have hrl2 := hR.1
  obtain ⟨i, rfl⟩ := Int.eq_ofNat_of_zero_le h0
  have hsum := sumTo_one (T (rot.set (i : Int).toNat k)) (T rot) i l.length (by omega) (fun j hj hji => by
   show _ * turns _ _ (rd (rot.set (i : Int).toNat k) (j : Int)).toNat = _ * turns _ _ (rd rot (j : Int)).toNat
   rw [rd_set_other _ h0 (by omega) (by omega)])
  have hTn : T (rot.set (i : Int).toNat k) i = (xs (M - d (i : Int)) + 1) * turns (GA.rd_L1 l (i : Int)).length (g (i : Int)) k := by
   show _ * turns _ _ (rd (rot.set (i : Int).toNat k) (i : Int)).toNat = _
   rw [rd_set_same _ h0 (by omega), Int.toNat_natCast]
  have hTo : T rot i = (xs (M - d (i : Int)) + 1) * turns (GA.rd_L1 l (i : Int)).length (g (i : Int)) r := by
   show _ * turns _ _ (rd rot (i : Int)).toNat = _
   rw [hr, Int.toNat_natCast]
  have hdM := hM (i : Int) h0 h1
  have hxM : xs (M - d (i : Int)) ≤ xs M := xs_mono (by omega)
  have hlt : sumTo (T (rot.set (i : Int).toNat k)) l.length + (xs M - xs (M - d (rd (GA.rd_L1 l (i : Int)) k))) < m := by
   rcases hts with ⟨h1_, h2_, h3_⟩ | h1_
   ·rw [h1_] at hkk ⊢
    have hlow : xs (M - d (i : Int) + 1) ≤ xs (M - d (rd (GA.rd_L1 l (i : Int)) (g (i : Int)))) := xs_mono (by omega)
    have hhigh : xs (M - d (rd (GA.rd_L1 l (i : Int)) (g (i : Int)))) ≤ xs M := xs_mono (by omega)
    have hx : xs (M - d (i : Int) + 1) = 5 * xs (M - d (i : Int)) + 5 := rfl
    rw [h2_, Nat.mul_one] at hTo
    have hle := Nat.mul_le_mul_left (xs (M - d (i : Int)) + 1) h3_
    rw [← hTn] at hle
    rw [h1_] at hsum hle
    omega
   ·rw [← h1_, Nat.mul_add, Nat.mul_one] at hTo
    rw [← hTn] at hTo
    omega
  obtain ⟨s, v1, rot1, st1, hrun, hR1⟩ := ih (rot.set (i : Int).toNat k) (rd (GA.rd_L1 l (i : Int)) k) (wrap64 (st + 1)) hR2 hw.1 hw.2 hlt
  exact ⟨s + 1, v1, rot1, st1, Run.go s _ rot st v1 rot1 st1 ha hb h0 h1 (by omega) k hk hkr hrun, hR1⟩
end Go.Proofs.Ytnbnalbomflafaa.RA
namespace Go.Proofs.Ytnbnalbomflafaa.RA
open Go.RowKit
theorem field80_0 (a b c : Value) (w : World) : (Instr.field 80 (.agg #[a, b, c]) 0).run Try.prog w = .ok a w := by kernel_rfl
theorem field80_1 (a b c : Value) (w : World) : (Instr.field 80 (.agg #[a, b, c]) 1).run Try.prog w = .ok b w := by kernel_rfl
theorem field80_2 (a b c : Value) (w : World) : (Instr.field 80 (.agg #[a, b, c]) 2).run Try.prog w = .ok c w := by kernel_rfl
end Go.Proofs.Ytnbnalbomflafaa.RA
namespace Go.Proofs.Ytnbnalbomflafaa.GQ
open Go.RowKit YtnbnalbomflafaaW.PrintWords YtnbnalbomflafaaW.PrintLast YtnbnalbomflafaaW.PrintMore
open GA GB GD KA GR
attribute [local go_sem] RA.field80_0 RA.field80_1 RA.field80_2 max2_int min2_int max_two min_two max_three min_three max_four min_four
def errW : Option Int → Value
 | none => .nilIface
 | some c => .iface 0 (.int .i64 c)
theorem errW_none : errW none = .nilIface := rfl
theorem errW_some (c : Int) : errW (some c) = .iface 0 (.int .i64 c) := rfl
theorem info3 : (Try.prog.info? 3).map (fun i => (i.zero, i.size, i.bytes)) = some (some (.int .i64 0), 1, 8) := by kernel_rfl
def rd_L1 (xs : List (List Int)) (i : Int) : (List Int) := xs.getD i.toNat ([] : List Int)
theorem at_L1 {w : World} {A : Option Addr} {n : Nat} {xs : List (List Int)} (h : Kd.C (Kd.slice 3 (Kd.int .i64)) w A n xs) (i : Int) (h0 : 0 ≤ i) (h1 : i < n) : ∃ ad A0 c0, A = some ad ∧ w.cell? (ad.add i.toNat) = some (.slice A0 (rd_L1 xs i).length c0) ∧ (rd_L1 xs i).length ≤ c0 ∧ (Kd.int .i64).C w A0 (rd_L1 xs i).length (rd_L1 xs i) := by
 obtain ⟨ad, c, e, _, hK, hc0⟩ := Kd.C_get h ([] : List Int) i h0 h1
 have hc : ∀ j u, c[j]? = some u → w.cell? (ad.add (i.toNat * 1 + j)) = some u := hc0
 obtain ⟨A0, c0, rfl, l0, g0⟩ := hK
 exact ⟨ad, A0, c0, e, by have hq := hc 0 _ rfl; rwa [Nat.mul_one, Nat.add_zero] at hq, l0, g0⟩
end Go.Proofs.Ytnbnalbomflafaa.GQ
namespace Go.Proofs.Ytnbnalbomflafaa.GQ
open Go.RowKit YtnbnalbomflafaaW.PrintWords YtnbnalbomflafaaW.PrintLast YtnbnalbomflafaaW.PrintMore
open GA GB GD KA GR
attribute [local go_sem] RA.field80_0 RA.field80_1 RA.field80_2 max2_int min2_int max_two min_two max_three min_three max_four min_four
def spec_hiGood.f (k : Nat) (l0_0 : List (List Int)) (a1 : Int) (a2 : Int) : Option (Bool) := (spec_hiGoals.f k l0_0 a1 a2).bind fun t140 => (if t140 = true then ((spec_hiCan.f k l0_0 a1 a2).bind fun t141 => (some t141)) else (some false))
set_option maxHeartbeats 8000000 in
set_option maxRecDepth 100000 in
theorem spec_hiGood.calls (k : Nat) (A0_0 : Option Addr) (c0_0 : Nat) (l0_0 : List (List Int)) (a1 : Int) (a2 : Int) (r : Bool) (w : World) (hr0_0 : Kd.C (Kd.slice 3 (Kd.int .i64)) w A0_0 l0_0.length l0_0) (hc0_0 : l0_0.length ≤ c0_0) (h : spec_hiGood.f k l0_0 a1 a2 = some r) :
  Calls Try.prog 87 #[.agg #[.slice A0_0 l0_0.length c0_0], .int .i64 a1, .int .i64 a2] w fun e w' => e = .returned (.bool r) ∧ Below w.heap.size w w' := by
 have hu30 := Try.underlying30
 have HR0_0 := Aside0.mk hr0_0
 have HC0_0 := Aside0.mk hc0_0
 clear hr0_0 hc0_0
 have HB := Aside0.mk (Below.refl w.heap.size w)
 have H : ((spec_hiGoals.f k l0_0 a1 a2).bind fun t140 => (if t140 = true then ((spec_hiCan.f k l0_0 a1 a2).bind fun t141 => (some t141)) else (some false))) = some r := h
 clear h
 replace H := Option.bind_eq_some_iff.mp H
 obtain ⟨t140, A40, H⟩ := H
 replace H : (if t140 = true then ((spec_hiCan.f k l0_0 a1 a2).bind fun t141 => (some t141)) else (some false)) = some r := H
 have A4 := Aside0.mk A40
 clear A40
 by_cases c5 : t140 = true
 ·subst c5
  have H1 : ((spec_hiCan.f k l0_0 a1 a2).bind fun t141 => (some t141)) = some r := by rw [if_pos rfl] at H; exact H
  clear H
  have H := H1
  clear H1
  replace H := Option.bind_eq_some_iff.mp H
  obtain ⟨t141, A60, H⟩ := H
  replace H : (some t141) = some r := H
  have A6 := Aside0.mk A60
  clear A60
  obtain rfl := Option.some.inj H
  go_enter Try.func87, Try.ntmps87
  go_wp2_with (first | ((with_reducible refine gate_dst (N := 3) rfl ?_); refine box_event ?hg (N := 3) ?hd (cs := #[.slice A0_0 l0_0.length c0_0]) (t := 30) ?hr ?_; (case hd => rfl); (case hg => rfl); (case hr => first | (go_simp; done) | (go_simp; rfl)); intro gb139 hg w7 hbox hb; have n0_ := Aside0.mk (bP_ (by repeat (first | (with_reducible first | exact HB.out | apply bA_ | apply bN_ | apply bD_) | exact HB.out)) hb); have n1_ := Aside0.mk (hbox); have n2_ := Aside0.mk ((by rw [hg]; exact (bZ_ (by repeat (first | (with_reducible first | exact HB.out | apply bA_ | apply bN_ | apply bD_) | exact HB.out))) : w.heap.size ≤ gb139)); have n3_ := Aside0.mk ((by rw [hg]; exact (bZ_ (by repeat (first | (with_reducible first | exact HB.out | apply bA_ | apply bN_ | apply bD_) | exact HB.out))) : w.heap.size ≤ gb139)); clear HB; have HB := n0_; have BK139 := n1_; have GW139 := n2_; have GE139 := n3_; clear n0_ n1_ n2_ n3_; clear hb hbox hg; have hcz8_0 : w7.cell? ⟨gb139, 0, none⟩ = some (.slice A0_0 l0_0.length c0_0) := (blk_cell BK139.out 0).trans rfl; have hfz8_0 := kF_ BK139.out 0) | ((with_reducible refine gate_callee (f := 79) rfl ?_); refine goesL_ (some 10) rfl rfl Try.func79 (by kernel_rfl) rfl #[.agg #[.slice A0_0 l0_0.length c0_0], .int .i64 a1, .int .i64 a2] rfl (by (try simp only [List.map_toArray, List.map_cons, List.map_nil]); first | done | rfl | (simp only [List.length_drop, List.length_take]; rfl)) ?_; (with_reducible refine (spec_hiGoals.calls k _ _ l0_0 a1 a2 true _ ?side1 ?side2 A4.out).mono ?_); (case side1 => repeat (first | exact (Kd.C_below HR0_0.out HB.out) | (with_reducible refine Kd.C_alloc ?_ _) | (with_reducible refine Kd.C_drewN ?_ _) | (with_reducible refine Kd.C_drew ?_))); (case side2 => exact HC0_0.out); rintro e w9 ⟨rfl, hb⟩; refine ⟨_, rfl, ?_⟩; have n0_ := Aside0.mk (blk_below (g := gb139) (o := .cells #[.slice A0_0 l0_0.length c0_0] 30 (0, 0)) (by (with_reducible repeat (first | refine kN_ ?_ _ | refine kD_ ?_ | refine kA_ ?_ _)); exact BK139.out) hb); have n1_ := Aside0.mk (bP_ (by repeat (first | (with_reducible first | exact HB.out | apply bA_ | apply bN_ | apply bD_ | refine bS_ ?_ GE139.out) | exact HB.out)) hb); clear BK139; clear HB; have BK139 := n0_; have HB := n1_; clear n0_ n1_; (try clear hb); (try clear hb2); (try clear hk); (try clear hi); have hcz10_0 : w9.cell? ⟨gb139, 0, none⟩ = some (.slice A0_0 l0_0.length c0_0) := (blk_cell BK139.out 0).trans rfl; have hfz10_0 := kF_ BK139.out 0) | (go_at_call 80; (with_reducible refine (spec_hiCan.calls k _ _ l0_0 a1 a2 t141 _ ?side1 ?side2 A6.out).mono ?_); (case side1 => repeat (first | exact (Kd.C_below HR0_0.out HB.out) | (with_reducible refine Kd.C_alloc ?_ _) | (with_reducible refine Kd.C_drewN ?_ _) | (with_reducible refine Kd.C_drew ?_))); (case side2 => exact HC0_0.out); rintro e w11 ⟨rfl, hb⟩; have n0_ := Aside0.mk (blk_below (g := gb139) (o := .cells #[.slice A0_0 l0_0.length c0_0] 30 (0, 0)) (by (with_reducible repeat (first | refine kN_ ?_ _ | refine kD_ ?_ | refine kA_ ?_ _)); exact BK139.out) hb); have n1_ := Aside0.mk (bP_ (by repeat (first | (with_reducible first | exact HB.out | apply bA_ | apply bN_ | apply bD_ | refine bS_ ?_ GE139.out) | exact HB.out)) hb); clear BK139; clear HB; have BK139 := n0_; have HB := n1_; clear n0_ n1_; (try clear hb); (try clear hb2); (try clear hk); (try clear hi)))
  go_ret
  exact ⟨by first | rfl | (simp [errW_none, errW_some] <;> rfl) | (simp [*, errW_none, errW_some] <;> rfl), by repeat (first | (with_reducible first | exact HB.out | apply bA_ | apply bN_ | apply bD_ | refine bS_ ?_ GE139.out) | exact HB.out)⟩
 ·replace c5 := Bool.eq_false_iff.mpr c5
  subst c5
  have H1 : (some false) = some r := by rw [if_neg (show ¬ (false = true) by decide)] at H; exact H
  clear H
  have H := H1
  clear H1
  obtain rfl := Option.some.inj H
  go_enter Try.func87, Try.ntmps87
  go_wp2_with (first | ((with_reducible refine gate_dst (N := 3) rfl ?_); refine box_event ?hg (N := 3) ?hd (cs := #[.slice A0_0 l0_0.length c0_0]) (t := 30) ?hr ?_; (case hd => rfl); (case hg => rfl); (case hr => first | (go_simp; done) | (go_simp; rfl)); intro gb139 hg w12 hbox hb; have n0_ := Aside0.mk (bP_ (by repeat (first | (with_reducible first | exact HB.out | apply bA_ | apply bN_ | apply bD_) | exact HB.out)) hb); have n1_ := Aside0.mk (hbox); have n2_ := Aside0.mk ((by rw [hg]; exact (bZ_ (by repeat (first | (with_reducible first | exact HB.out | apply bA_ | apply bN_ | apply bD_) | exact HB.out))) : w.heap.size ≤ gb139)); have n3_ := Aside0.mk ((by rw [hg]; exact (bZ_ (by repeat (first | (with_reducible first | exact HB.out | apply bA_ | apply bN_ | apply bD_) | exact HB.out))) : w.heap.size ≤ gb139)); clear HB; have HB := n0_; have BK139 := n1_; have GW139 := n2_; have GE139 := n3_; clear n0_ n1_ n2_ n3_; clear hb hbox hg; have hcz13_0 : w12.cell? ⟨gb139, 0, none⟩ = some (.slice A0_0 l0_0.length c0_0) := (blk_cell BK139.out 0).trans rfl; have hfz13_0 := kF_ BK139.out 0) | ((with_reducible refine gate_callee (f := 79) rfl ?_); refine goesL_ (some 10) rfl rfl Try.func79 (by kernel_rfl) rfl #[.agg #[.slice A0_0 l0_0.length c0_0], .int .i64 a1, .int .i64 a2] rfl (by (try simp only [List.map_toArray, List.map_cons, List.map_nil]); first | done | rfl | (simp only [List.length_drop, List.length_take]; rfl)) ?_; (with_reducible refine (spec_hiGoals.calls k _ _ l0_0 a1 a2 false _ ?side1 ?side2 A4.out).mono ?_); (case side1 => repeat (first | exact (Kd.C_below HR0_0.out HB.out) | (with_reducible refine Kd.C_alloc ?_ _) | (with_reducible refine Kd.C_drewN ?_ _) | (with_reducible refine Kd.C_drew ?_))); (case side2 => exact HC0_0.out); rintro e w14 ⟨rfl, hb⟩; refine ⟨_, rfl, ?_⟩; have n0_ := Aside0.mk (blk_below (g := gb139) (o := .cells #[.slice A0_0 l0_0.length c0_0] 30 (0, 0)) (by (with_reducible repeat (first | refine kN_ ?_ _ | refine kD_ ?_ | refine kA_ ?_ _)); exact BK139.out) hb); have n1_ := Aside0.mk (bP_ (by repeat (first | (with_reducible first | exact HB.out | apply bA_ | apply bN_ | apply bD_ | refine bS_ ?_ GE139.out) | exact HB.out)) hb); clear BK139; clear HB; have BK139 := n0_; have HB := n1_; clear n0_ n1_; (try clear hb); (try clear hb2); (try clear hk); (try clear hi)))
  go_ret
  exact ⟨by first | rfl | (simp [errW_none, errW_some] <;> rfl) | (simp [*, errW_none, errW_some] <;> rfl), by repeat (first | (with_reducible first | exact HB.out | apply bA_ | apply bN_ | apply bD_ | refine bS_ ?_ GE139.out) | exact HB.out)⟩
def spec_hiAsked.f (k : Nat) (l0_0 : List (List Int)) (l1 : List Int) (a2 : Int) (a3 : Int) (a4 : Int) (a5 : Int) : Option (Bool) := (spec_hiGood.f k l0_0 a3 a4).bind fun t150 => (if t150 = true then ((spec_waGood.f k l0_0 l1 a2).bind fun t151 => (if t151 = true then ((spec_l1In.f a5 0 100).bind fun t152 => (some t152)) else (some false))) else (some false))
set_option maxHeartbeats 8000000 in
set_option maxRecDepth 100000 in
theorem spec_hiAsked.calls (k : Nat) (A0_0 : Option Addr) (c0_0 : Nat) (l0_0 : List (List Int)) (A1 : Option Addr) (c1 : Nat) (l1 : List Int) (a2 : Int) (a3 : Int) (a4 : Int) (a5 : Int) (r : Bool) (w : World) (hr0_0 : Kd.C (Kd.slice 3 (Kd.int .i64)) w A0_0 l0_0.length l0_0) (hc0_0 : l0_0.length ≤ c0_0) (hr1 : Kd.C (Kd.int .i64) w A1 l1.length l1) (hc1 : l1.length ≤ c1) (h : spec_hiAsked.f k l0_0 l1 a2 a3 a4 a5 = some r) :
  Calls Try.prog 82 #[.agg #[.slice A0_0 l0_0.length c0_0], .slice A1 l1.length c1, .int .i64 a2, .int .i64 a3, .int .i64 a4, .int .i64 a5] w fun e w' => e = .returned (.bool r) ∧ Below w.heap.size w w' := by
 have hu30 := Try.underlying30
 have hu98 := Try.underlying98
 have HR0_0 := Aside0.mk hr0_0
 have HC0_0 := Aside0.mk hc0_0
 clear hr0_0 hc0_0
 have HR1 := Aside0.mk hr1
 have HC1 := Aside0.mk hc1
 clear hr1 hc1
 have HB := Aside0.mk (Below.refl w.heap.size w)
 have H : ((spec_hiGood.f k l0_0 a3 a4).bind fun t150 => (if t150 = true then ((spec_waGood.f k l0_0 l1 a2).bind fun t151 => (if t151 = true then ((spec_l1In.f a5 0 100).bind fun t152 => (some t152)) else (some false))) else (some false))) = some r := h
 clear h
 replace H := Option.bind_eq_some_iff.mp H
 obtain ⟨t150, A70, H⟩ := H
 replace H : (if t150 = true then ((spec_waGood.f k l0_0 l1 a2).bind fun t151 => (if t151 = true then ((spec_l1In.f a5 0 100).bind fun t152 => (some t152)) else (some false))) else (some false)) = some r := H
 have A7 := Aside0.mk A70
 clear A70
 by_cases c8 : t150 = true
 ·subst c8
  have H1 : ((spec_waGood.f k l0_0 l1 a2).bind fun t151 => (if t151 = true then ((spec_l1In.f a5 0 100).bind fun t152 => (some t152)) else (some false))) = some r := by rw [if_pos rfl] at H; exact H
  clear H
  have H := H1
  clear H1
  replace H := Option.bind_eq_some_iff.mp H
  obtain ⟨t151, A90, H⟩ := H
  replace H : (if t151 = true then ((spec_l1In.f a5 0 100).bind fun t152 => (some t152)) else (some false)) = some r := H
  have A9 := Aside0.mk A90
  clear A90
  by_cases c10 : t151 = true
  ·subst c10
   have H1 : ((spec_l1In.f a5 0 100).bind fun t152 => (some t152)) = some r := by rw [if_pos rfl] at H; exact H
   clear H
   have H := H1
   clear H1
   replace H := Option.bind_eq_some_iff.mp H
   obtain ⟨t152, A110, H⟩ := H
   replace H : (some t152) = some r := H
   have A11 := Aside0.mk A110
   clear A110
   obtain rfl := Option.some.inj H
   go_enter Try.func82, Try.ntmps82
   go_wp2_with (first | ((with_reducible refine gate_dst (N := 6) rfl ?_); refine box_event ?hg (N := 6) ?hd (cs := #[.slice A0_0 l0_0.length c0_0]) (t := 30) ?hr ?_; (case hd => rfl); (case hg => rfl); (case hr => first | (go_simp; done) | (go_simp; rfl)); intro gb149 hg w12 hbox hb; have n0_ := Aside0.mk (bP_ (by repeat (first | (with_reducible first | exact HB.out | apply bA_ | apply bN_ | apply bD_) | exact HB.out)) hb); have n1_ := Aside0.mk (hbox); have n2_ := Aside0.mk ((by rw [hg]; exact (bZ_ (by repeat (first | (with_reducible first | exact HB.out | apply bA_ | apply bN_ | apply bD_) | exact HB.out))) : w.heap.size ≤ gb149)); have n3_ := Aside0.mk ((by rw [hg]; exact (bZ_ (by repeat (first | (with_reducible first | exact HB.out | apply bA_ | apply bN_ | apply bD_) | exact HB.out))) : w.heap.size ≤ gb149)); clear HB; have HB := n0_; have BK149 := n1_; have GW149 := n2_; have GE149 := n3_; clear n0_ n1_ n2_ n3_; clear hb hbox hg; have hcz13_0 : w12.cell? ⟨gb149, 0, none⟩ = some (.slice A0_0 l0_0.length c0_0) := (blk_cell BK149.out 0).trans rfl; have hfz13_0 := kF_ BK149.out 0) | ((with_reducible refine gate_callee (f := 87) rfl ?_); refine goesL_ (some 16) rfl rfl Try.func87 (by kernel_rfl) rfl #[.agg #[.slice A0_0 l0_0.length c0_0], .int .i64 a3, .int .i64 a4] rfl (by (try simp only [List.map_toArray, List.map_cons, List.map_nil]); first | done | rfl | (simp only [List.length_drop, List.length_take]; rfl)) ?_; (with_reducible refine (spec_hiGood.calls k _ _ l0_0 a3 a4 true _ ?side1 ?side2 A7.out).mono ?_); (case side1 => repeat (first | exact (Kd.C_below HR0_0.out HB.out) | (with_reducible refine Kd.C_alloc ?_ _) | (with_reducible refine Kd.C_drewN ?_ _) | (with_reducible refine Kd.C_drew ?_))); (case side2 => exact HC0_0.out); rintro e w14 ⟨rfl, hb⟩; refine ⟨_, rfl, ?_⟩; have n0_ := Aside0.mk (blk_below (g := gb149) (o := .cells #[.slice A0_0 l0_0.length c0_0] 30 (0, 0)) (by (with_reducible repeat (first | refine kN_ ?_ _ | refine kD_ ?_ | refine kA_ ?_ _)); exact BK149.out) hb); have n1_ := Aside0.mk (bP_ (by repeat (first | (with_reducible first | exact HB.out | apply bA_ | apply bN_ | apply bD_ | refine bS_ ?_ GE149.out) | exact HB.out)) hb); clear BK149; clear HB; have BK149 := n0_; have HB := n1_; clear n0_ n1_; (try clear hb); (try clear hb2); (try clear hk); (try clear hi); have hcz15_0 : w14.cell? ⟨gb149, 0, none⟩ = some (.slice A0_0 l0_0.length c0_0) := (blk_cell BK149.out 0).trans rfl; have hfz15_0 := kF_ BK149.out 0) | (go_at_call 101; (with_reducible refine (spec_waGood.calls k _ _ l0_0 _ _ l1 a2 true _ ?side1 ?side2 ?side3 ?side4 A9.out).mono ?_); (case side1 => repeat (first | exact (Kd.C_below HR0_0.out HB.out) | (with_reducible refine Kd.C_alloc ?_ _) | (with_reducible refine Kd.C_drewN ?_ _) | (with_reducible refine Kd.C_drew ?_))); (case side2 => exact HC0_0.out); (case side3 => repeat (first | exact (Kd.C_below HR1.out HB.out) | (with_reducible refine Kd.C_alloc ?_ _) | (with_reducible refine Kd.C_drewN ?_ _) | (with_reducible refine Kd.C_drew ?_))); (case side4 => exact HC1.out); rintro e w16 ⟨rfl, hb⟩; have n0_ := Aside0.mk (blk_below (g := gb149) (o := .cells #[.slice A0_0 l0_0.length c0_0] 30 (0, 0)) (by (with_reducible repeat (first | refine kN_ ?_ _ | refine kD_ ?_ | refine kA_ ?_ _)); exact BK149.out) hb); have n1_ := Aside0.mk (bP_ (by repeat (first | (with_reducible first | exact HB.out | apply bA_ | apply bN_ | apply bD_ | refine bS_ ?_ GE149.out) | exact HB.out)) hb); clear BK149; clear HB; have BK149 := n0_; have HB := n1_; clear n0_ n1_; (try clear hb); (try clear hb2); (try clear hk); (try clear hi)) | (go_at_call 73; (with_reducible refine (spec_l1In.calls a5 0 100 t152 _ A11.out).mono ?_); rintro e w' ⟨rfl, ⟨nd, rfl⟩⟩))
   go_ret
   exact ⟨by first | rfl | (simp [errW_none, errW_some] <;> rfl) | (simp [*, errW_none, errW_some] <;> rfl), by repeat (first | (with_reducible first | exact HB.out | apply bA_ | apply bN_ | apply bD_ | refine bS_ ?_ GE149.out) | exact HB.out)⟩
  ·replace c10 := Bool.eq_false_iff.mpr c10
   subst c10
   have H1 : (some false) = some r := by rw [if_neg (show ¬ (false = true) by decide)] at H; exact H
   clear H
   have H := H1
   clear H1
   obtain rfl := Option.some.inj H
   go_enter Try.func82, Try.ntmps82
   go_wp2_with (first | ((with_reducible refine gate_dst (N := 6) rfl ?_); refine box_event ?hg (N := 6) ?hd (cs := #[.slice A0_0 l0_0.length c0_0]) (t := 30) ?hr ?_; (case hd => rfl); (case hg => rfl); (case hr => first | (go_simp; done) | (go_simp; rfl)); intro gb149 hg w17 hbox hb; have n0_ := Aside0.mk (bP_ (by repeat (first | (with_reducible first | exact HB.out | apply bA_ | apply bN_ | apply bD_) | exact HB.out)) hb); have n1_ := Aside0.mk (hbox); have n2_ := Aside0.mk ((by rw [hg]; exact (bZ_ (by repeat (first | (with_reducible first | exact HB.out | apply bA_ | apply bN_ | apply bD_) | exact HB.out))) : w.heap.size ≤ gb149)); have n3_ := Aside0.mk ((by rw [hg]; exact (bZ_ (by repeat (first | (with_reducible first | exact HB.out | apply bA_ | apply bN_ | apply bD_) | exact HB.out))) : w.heap.size ≤ gb149)); clear HB; have HB := n0_; have BK149 := n1_; have GW149 := n2_; have GE149 := n3_; clear n0_ n1_ n2_ n3_; clear hb hbox hg; have hcz18_0 : w17.cell? ⟨gb149, 0, none⟩ = some (.slice A0_0 l0_0.length c0_0) := (blk_cell BK149.out 0).trans rfl; have hfz18_0 := kF_ BK149.out 0) | ((with_reducible refine gate_callee (f := 87) rfl ?_); refine goesL_ (some 16) rfl rfl Try.func87 (by kernel_rfl) rfl #[.agg #[.slice A0_0 l0_0.length c0_0], .int .i64 a3, .int .i64 a4] rfl (by (try simp only [List.map_toArray, List.map_cons, List.map_nil]); first | done | rfl | (simp only [List.length_drop, List.length_take]; rfl)) ?_; (with_reducible refine (spec_hiGood.calls k _ _ l0_0 a3 a4 true _ ?side1 ?side2 A7.out).mono ?_); (case side1 => repeat (first | exact (Kd.C_below HR0_0.out HB.out) | (with_reducible refine Kd.C_alloc ?_ _) | (with_reducible refine Kd.C_drewN ?_ _) | (with_reducible refine Kd.C_drew ?_))); (case side2 => exact HC0_0.out); rintro e w19 ⟨rfl, hb⟩; refine ⟨_, rfl, ?_⟩; have n0_ := Aside0.mk (blk_below (g := gb149) (o := .cells #[.slice A0_0 l0_0.length c0_0] 30 (0, 0)) (by (with_reducible repeat (first | refine kN_ ?_ _ | refine kD_ ?_ | refine kA_ ?_ _)); exact BK149.out) hb); have n1_ := Aside0.mk (bP_ (by repeat (first | (with_reducible first | exact HB.out | apply bA_ | apply bN_ | apply bD_ | refine bS_ ?_ GE149.out) | exact HB.out)) hb); clear BK149; clear HB; have BK149 := n0_; have HB := n1_; clear n0_ n1_; (try clear hb); (try clear hb2); (try clear hk); (try clear hi); have hcz20_0 : w19.cell? ⟨gb149, 0, none⟩ = some (.slice A0_0 l0_0.length c0_0) := (blk_cell BK149.out 0).trans rfl; have hfz20_0 := kF_ BK149.out 0) | (go_at_call 101; (with_reducible refine (spec_waGood.calls k _ _ l0_0 _ _ l1 a2 false _ ?side1 ?side2 ?side3 ?side4 A9.out).mono ?_); (case side1 => repeat (first | exact (Kd.C_below HR0_0.out HB.out) | (with_reducible refine Kd.C_alloc ?_ _) | (with_reducible refine Kd.C_drewN ?_ _) | (with_reducible refine Kd.C_drew ?_))); (case side2 => exact HC0_0.out); (case side3 => repeat (first | exact (Kd.C_below HR1.out HB.out) | (with_reducible refine Kd.C_alloc ?_ _) | (with_reducible refine Kd.C_drewN ?_ _) | (with_reducible refine Kd.C_drew ?_))); (case side4 => exact HC1.out); rintro e w21 ⟨rfl, hb⟩; have n0_ := Aside0.mk (blk_below (g := gb149) (o := .cells #[.slice A0_0 l0_0.length c0_0] 30 (0, 0)) (by (with_reducible repeat (first | refine kN_ ?_ _ | refine kD_ ?_ | refine kA_ ?_ _)); exact BK149.out) hb); have n1_ := Aside0.mk (bP_ (by repeat (first | (with_reducible first | exact HB.out | apply bA_ | apply bN_ | apply bD_ | refine bS_ ?_ GE149.out) | exact HB.out)) hb); clear BK149; clear HB; have BK149 := n0_; have HB := n1_; clear n0_ n1_; (try clear hb); (try clear hb2); (try clear hk); (try clear hi)))
   go_ret
   exact ⟨by first | rfl | (simp [errW_none, errW_some] <;> rfl) | (simp [*, errW_none, errW_some] <;> rfl), by repeat (first | (with_reducible first | exact HB.out | apply bA_ | apply bN_ | apply bD_ | refine bS_ ?_ GE149.out) | exact HB.out)⟩
 ·replace c8 := Bool.eq_false_iff.mpr c8
  subst c8
  have H1 : (some false) = some r := by rw [if_neg (show ¬ (false = true) by decide)] at H; exact H
  clear H
  have H := H1
  clear H1
  obtain rfl := Option.some.inj H
  go_enter Try.func82, Try.ntmps82
  go_wp2_with (first | ((with_reducible refine gate_dst (N := 6) rfl ?_); refine box_event ?hg (N := 6) ?hd (cs := #[.slice A0_0 l0_0.length c0_0]) (t := 30) ?hr ?_; (case hd => rfl); (case hg => rfl); (case hr => first | (go_simp; done) | (go_simp; rfl)); intro gb149 hg w22 hbox hb; have n0_ := Aside0.mk (bP_ (by repeat (first | (with_reducible first | exact HB.out | apply bA_ | apply bN_ | apply bD_) | exact HB.out)) hb); have n1_ := Aside0.mk (hbox); have n2_ := Aside0.mk ((by rw [hg]; exact (bZ_ (by repeat (first | (with_reducible first | exact HB.out | apply bA_ | apply bN_ | apply bD_) | exact HB.out))) : w.heap.size ≤ gb149)); have n3_ := Aside0.mk ((by rw [hg]; exact (bZ_ (by repeat (first | (with_reducible first | exact HB.out | apply bA_ | apply bN_ | apply bD_) | exact HB.out))) : w.heap.size ≤ gb149)); clear HB; have HB := n0_; have BK149 := n1_; have GW149 := n2_; have GE149 := n3_; clear n0_ n1_ n2_ n3_; clear hb hbox hg; have hcz23_0 : w22.cell? ⟨gb149, 0, none⟩ = some (.slice A0_0 l0_0.length c0_0) := (blk_cell BK149.out 0).trans rfl; have hfz23_0 := kF_ BK149.out 0) | ((with_reducible refine gate_callee (f := 87) rfl ?_); refine goesL_ (some 16) rfl rfl Try.func87 (by kernel_rfl) rfl #[.agg #[.slice A0_0 l0_0.length c0_0], .int .i64 a3, .int .i64 a4] rfl (by (try simp only [List.map_toArray, List.map_cons, List.map_nil]); first | done | rfl | (simp only [List.length_drop, List.length_take]; rfl)) ?_; (with_reducible refine (spec_hiGood.calls k _ _ l0_0 a3 a4 false _ ?side1 ?side2 A7.out).mono ?_); (case side1 => repeat (first | exact (Kd.C_below HR0_0.out HB.out) | (with_reducible refine Kd.C_alloc ?_ _) | (with_reducible refine Kd.C_drewN ?_ _) | (with_reducible refine Kd.C_drew ?_))); (case side2 => exact HC0_0.out); rintro e w24 ⟨rfl, hb⟩; refine ⟨_, rfl, ?_⟩; have n0_ := Aside0.mk (blk_below (g := gb149) (o := .cells #[.slice A0_0 l0_0.length c0_0] 30 (0, 0)) (by (with_reducible repeat (first | refine kN_ ?_ _ | refine kD_ ?_ | refine kA_ ?_ _)); exact BK149.out) hb); have n1_ := Aside0.mk (bP_ (by repeat (first | (with_reducible first | exact HB.out | apply bA_ | apply bN_ | apply bD_ | refine bS_ ?_ GE149.out) | exact HB.out)) hb); clear BK149; clear HB; have BK149 := n0_; have HB := n1_; clear n0_ n1_; (try clear hb); (try clear hb2); (try clear hk); (try clear hi)))
  go_ret
  exact ⟨by first | rfl | (simp [errW_none, errW_some] <;> rfl) | (simp [*, errW_none, errW_some] <;> rfl), by repeat (first | (with_reducible first | exact HB.out | apply bA_ | apply bN_ | apply bD_ | refine bS_ ?_ GE149.out) | exact HB.out)⟩
mutual
def spec_hiRun.l0 : Nat → Int → Int → Int → Int → List (List Int) → List Int → List Int → Int → Option (List Int × List Int × Int)
 | 0, _, _, _, _, _, _, _, _ => none
 | k + 1, x2, x3, x4, x5, x160000, x165000, x165001, x165002 => if x5 > 0 then (spec_hiRun.l1 k x2 x3 x4 x5 x2 x160000 x165000 x165001 x165002) else (some (x165000, x165001, x165002))
def spec_hiRun.l1 : Nat → Int → Int → Int → Int → Int → List (List Int) → List Int → List Int → Int → Option (List Int × List Int × Int)
 | 0, _, _, _, _, _, _, _, _, _ => none
 | k + 1, x2, x3, x4, x5, x14, x160000, x165000, x165001, x165002 => if x14 = x3 then (if x165000.length < 17592186044416 then (spec_hiRun.l0 k x2 x3 x4 (wrap64 (x5 - 1)) x160000 (x165000 ++ [1]) x165001 x165002) else (none)) else (if x14 = x4 then (if x165000.length < 17592186044416 then (spec_hiRun.l0 k x2 x3 x4 (wrap64 (x5 - 1)) x160000 (x165000 ++ [0]) x165001 x165002) else (none)) else (if 0 ≤ x14 then (if x14 < (x160000.length : Int) then (if x14 < (x165001.length : Int) then (if ((rd_L1 x160000 x14).length : Int) = 0 then (none) else (if 0 ≤ (Int.tmod (wrap64 ((rd x165001 x14) + 1)) ((rd_L1 x160000 x14).length : Int)) then (if (Int.tmod (wrap64 ((rd x165001 x14) + 1)) ((rd_L1 x160000 x14).length : Int)) < ((rd_L1 x160000 x14).length : Int) then (spec_hiRun.l1 k x2 x3 x4 x5 (rd (rd_L1 x160000 x14) (Int.tmod (wrap64 ((rd x165001 x14) + 1)) ((rd_L1 x160000 x14).length : Int))) x160000 x165000 (x165001.set (x14 : Int).toNat (Int.tmod (wrap64 ((rd x165001 x14) + 1)) ((rd_L1 x160000 x14).length : Int))) (wrap64 (x165002 + 1))) else (none)) else (none))) else (none)) else (none)) else (none)))
end
def spec_hiRun.f (k : Nat) (l0_0 : List (List Int)) (l1 : List Int) (a2 : Int) (a3 : Int) (a4 : Int) (a5 : Int) : Option (List Int × List Int × Int) := (spec_l1Own.f l1).bind fun t161 => (spec_hiRun.l0 k a2 a3 a4 a5 l0_0 ([] : List Int) t161 0)
set_option maxHeartbeats 8000000 in
set_option maxRecDepth 100000 in
theorem spec_hiRun.calls (k : Nat) (A0_0 : Option Addr) (c0_0 : Nat) (l0_0 : List (List Int)) (A1 : Option Addr) (c1 : Nat) (l1 : List Int) (a2 : Int) (a3 : Int) (a4 : Int) (a5 : Int) (r1 : List Int) (r2 : List Int) (r3 : Int) (w : World) (hr0_0 : Kd.C (Kd.slice 3 (Kd.int .i64)) w A0_0 l0_0.length l0_0) (hc0_0 : l0_0.length ≤ c0_0) (hr1 : Kd.C (Kd.int .i64) w A1 l1.length l1) (hc1 : l1.length ≤ c1) (h : spec_hiRun.f k l0_0 l1 a2 a3 a4 a5 = some (r1, r2, r3)) :
  Calls Try.prog 83 #[.agg #[.slice A0_0 l0_0.length c0_0], .slice A1 l1.length c1, .int .i64 a2, .int .i64 a3, .int .i64 a4, .int .i64 a5] w fun e w' => ∃ v0_ v1_ : Value, e = .returned (.agg #[v0_, v1_, .int .i64 r3]) ∧ Kd.R (Kd.int .i64) 3 w' w.heap.size (fun k_ => some k_ ≠ (v1_ : Value).ownBlock) v0_ r1 ∧ Kd.R (Kd.int .i64) 3 w' w.heap.size (fun k_ => some k_ ≠ (v0_ : Value).ownBlock) v1_ r2 ∧ Below w.heap.size w w' := by
 have hu30 := Try.underlying30
 have hu80 := Try.underlying80
 have HR0_0 := Aside0.mk hr0_0
 have HC0_0 := Aside0.mk hc0_0
 clear hr0_0 hc0_0
 have HR1 := Aside0.mk hr1
 have HC1 := Aside0.mk hc1
 clear hr1 hc1
 have HB := Aside0.mk (Below.refl w.heap.size w)
 have H : ((spec_l1Own.f l1).bind fun t161 => (spec_hiRun.l0 k a2 a3 a4 a5 l0_0 ([] : List Int) t161 0)) = some (r1, r2, r3) := h
 clear h
 replace H := Option.bind_eq_some_iff.mp H
 obtain ⟨t161, A70, H⟩ := H
 replace H : (spec_hiRun.l0 k a2 a3 a4 a5 l0_0 ([] : List Int) t161 0) = some (r1, r2, r3) := H
 have A7 := Aside0.mk A70
 clear A70
 have H' := Aside0.mk H
 clear H
 go_enter Try.func83, Try.ntmps83
 go_wp2_with (first | ((with_reducible refine gate_dst (N := 6) rfl ?_); refine box_event ?hg (N := 6) ?hd (cs := #[.slice A0_0 l0_0.length c0_0]) (t := 30) ?hr ?_; (case hd => rfl); (case hg => rfl); (case hr => first | (go_simp; done) | (go_simp; rfl)); intro gb159 hg w8 hbox hb; have n0_ := Aside0.mk (bP_ (by repeat (first | (with_reducible first | exact HB.out | apply bA_ | apply bN_ | apply bD_) | exact HB.out)) hb); have n1_ := Aside0.mk (hbox); have n2_ := Aside0.mk ((by rw [hg]; exact (bZ_ (by repeat (first | (with_reducible first | exact HB.out | apply bA_ | apply bN_ | apply bD_) | exact HB.out))) : w.heap.size ≤ gb159)); have n3_ := Aside0.mk ((by rw [hg]; exact (bZ_ (by repeat (first | (with_reducible first | exact HB.out | apply bA_ | apply bN_ | apply bD_) | exact HB.out))) : w.heap.size ≤ gb159)); clear HB; have HB := n0_; have BK159 := n1_; have GW159 := n2_; have GE159 := n3_; clear n0_ n1_ n2_ n3_; clear hb hbox hg) | ((with_reducible refine gate_dst (N := 12) rfl ?_); refine box_event ?hg (N := 12) ?hd (cs := #[.slice none 0 0, .slice none 0 0, .int .i64 0]) (t := 80) ?hr ?_; (case hd => rfl); (case hg => rfl); (case hr => first | (go_simp; done) | (go_simp; rfl)); intro gb160 hg w9 hbox hb; have n0_ := Aside0.mk (blk_below (g := gb159) (o := .cells #[.slice A0_0 l0_0.length c0_0] 30 (0, 0)) (by (with_reducible repeat (first | refine kN_ ?_ _ | refine kD_ ?_ | refine kA_ ?_ _)); exact BK159.out) hb); have n1_ := Aside0.mk (bP_ (by repeat (first | (with_reducible first | exact HB.out | apply bA_ | apply bN_ | apply bD_ | refine bS_ ?_ GE159.out) | exact HB.out)) hb); have n2_ := Aside0.mk (hbox); have n3_ := Aside0.mk ((by rw [hg]; exact (bZ_ (by repeat (first | (with_reducible first | exact HB.out | apply bA_ | apply bN_ | apply bD_ | refine bS_ ?_ GE159.out) | exact HB.out))) : w.heap.size ≤ gb160)); have n4_ := Aside0.mk ((by rw [hg]; exact (bZ_ (by repeat (first | (with_reducible first | exact HB.out | apply bA_ | apply bN_ | apply bD_ | refine bS_ ?_ GE159.out) | exact HB.out))) : w.heap.size ≤ gb160)); have n5_ := Aside0.mk ((by rw [hg]; exact Nat.ne_of_lt (blk_lt (g := gb159) (o := .cells #[.slice A0_0 l0_0.length c0_0] 30 (0, 0)) (by (with_reducible repeat (first | refine kN_ ?_ _ | refine kD_ ?_ | refine kA_ ?_ _)); exact BK159.out)) : gb159 ≠ gb160)); have n6_ := Aside0.mk ((by rw [hg]; exact Nat.ne_of_gt (blk_lt (g := gb159) (o := .cells #[.slice A0_0 l0_0.length c0_0] 30 (0, 0)) (by (with_reducible repeat (first | refine kN_ ?_ _ | refine kD_ ?_ | refine kA_ ?_ _)); exact BK159.out)) : gb160 ≠ gb159)); clear BK159; clear HB; have BK159 := n0_; have HB := n1_; have BK160 := n2_; have GW160 := n3_; have GE160 := n4_; have NB159_160 := n5_; have NB160_159 := n6_; clear n0_ n1_ n2_ n3_ n4_ n5_ n6_; clear hb hbox hg) | ((with_reducible refine gate_callee (f := 113) rfl ?_); refine goesL_ (some 19) rfl rfl Try.func113 (by kernel_rfl) rfl #[.slice A1 l1.length c1] rfl (by (try simp only [List.map_toArray, List.map_cons, List.map_nil]); first | done | rfl | (simp only [List.length_drop, List.length_take]; rfl)) ?_; (with_reducible refine (spec_l1Own.calls _ _ l1 t161 _ ?side1 ?side2 A7.out).mono ?_); (case side1 => repeat (first | exact (Kd.C_below HR1.out HB.out) | (with_reducible refine Kd.C_alloc ?_ _) | (with_reducible refine Kd.C_drewN ?_ _) | (with_reducible refine Kd.C_drew ?_))); (case side2 => exact HC1.out); rintro e w10 ⟨v162, rfl, ho0, hb⟩; refine ⟨_, rfl, ?_⟩; have n0_ := Aside0.mk (Kd.R_lower ho0 (bZ_ (by repeat (first | (with_reducible first | exact HB.out | apply bA_ | apply bN_ | apply bD_ | refine bS_ ?_ GE159.out | refine bS_ ?_ GE160.out) | exact HB.out)))); have n1_ := Aside0.mk (blk_below (g := gb159) (o := .cells #[.slice A0_0 l0_0.length c0_0] 30 (0, 0)) (by (with_reducible repeat (first | refine kN_ ?_ _ | refine kD_ ?_ | refine kA_ ?_ _)); exact BK159.out) hb); have n2_ := Aside0.mk (blk_below (g := gb160) (o := .cells #[.slice none 0 0, .slice none 0 0, .int .i64 0] 80 (0, 0)) (by (with_reducible repeat (first | refine kN_ ?_ _ | refine kD_ ?_ | refine kA_ ?_ _)); exact BK160.out) hb); have n3_ := Aside0.mk (bP_ (by repeat (first | (with_reducible first | exact HB.out | apply bA_ | apply bN_ | apply bD_ | refine bS_ ?_ GE159.out | refine bS_ ?_ GE160.out) | exact HB.out)) hb); clear BK159; clear BK160; clear HB; have HO163 := n0_; have BK159 := n1_; have BK160 := n2_; have HB := n3_; clear n0_ n1_ n2_ n3_; (try clear hb); (try clear hb2); (try clear hk); (try clear hi); (try clear ho0); obtain ⟨Ao11, co11, eo11⟩ := Kd.R_slice HO163.out; subst eo11) | ((with_reducible refine gate_dst (N := 13) rfl ?_); refine box_event ?hg (N := 13) ?hd (cs := #[.slice none 0 0, .slice none 0 0, .int .i64 0]) (t := 80) ?hr ?_; (case hd => rfl); (case hg => rfl); (case hr => first | (go_simp; done) | (go_simp; rfl)); intro gb164 hg w12 hbox hb; have n0_ := Aside0.mk (Kd.R_below (by (with_reducible repeat (first | apply Kd.R_alloc | apply Kd.R_drewN | apply Kd.R_drew)); exact HO163.out) hb); have n1_ := Aside0.mk (blk_below (g := gb159) (o := .cells #[.slice A0_0 l0_0.length c0_0] 30 (0, 0)) (by (with_reducible repeat (first | refine kN_ ?_ _ | refine kD_ ?_ | refine kA_ ?_ _)); exact BK159.out) hb); have n2_ := Aside0.mk (blk_below (g := gb160) (o := .cells #[.slice none 0 0, .slice none 0 0, .int .i64 0] 80 (0, 0)) (by (with_reducible repeat (first | refine kN_ ?_ _ | refine kD_ ?_ | refine kA_ ?_ _)); exact BK160.out) hb); have n3_ := Aside0.mk (bP_ (by repeat (first | (with_reducible first | exact HB.out | apply bA_ | apply bN_ | apply bD_ | refine bS_ ?_ GE159.out | refine bS_ ?_ GE160.out) | exact HB.out)) hb); have n4_ := Aside0.mk (hbox); have n5_ := Aside0.mk ((by rw [hg]; exact (bZ_ (by repeat (first | (with_reducible first | exact HB.out | apply bA_ | apply bN_ | apply bD_ | refine bS_ ?_ GE159.out | refine bS_ ?_ GE160.out) | exact HB.out))) : w.heap.size ≤ gb164)); have n6_ := Aside0.mk ((by rw [hg]; exact (bZ_ (by repeat (first | (with_reducible first | exact HB.out | apply bA_ | apply bN_ | apply bD_ | refine bS_ ?_ GE159.out | refine bS_ ?_ GE160.out) | exact HB.out))) : w.heap.size ≤ gb164)); have n7_ := Aside0.mk ((by rw [hg]; exact Nat.ne_of_lt (blk_lt (g := gb159) (o := .cells #[.slice A0_0 l0_0.length c0_0] 30 (0, 0)) (by (with_reducible repeat (first | refine kN_ ?_ _ | refine kD_ ?_ | refine kA_ ?_ _)); exact BK159.out)) : gb159 ≠ gb164)); have n8_ := Aside0.mk ((by rw [hg]; exact Nat.ne_of_gt (blk_lt (g := gb159) (o := .cells #[.slice A0_0 l0_0.length c0_0] 30 (0, 0)) (by (with_reducible repeat (first | refine kN_ ?_ _ | refine kD_ ?_ | refine kA_ ?_ _)); exact BK159.out)) : gb164 ≠ gb159)); have n9_ := Aside0.mk ((by rw [hg]; exact Nat.ne_of_lt (blk_lt (g := gb160) (o := .cells #[.slice none 0 0, .slice none 0 0, .int .i64 0] 80 (0, 0)) (by (with_reducible repeat (first | refine kN_ ?_ _ | refine kD_ ?_ | refine kA_ ?_ _)); exact BK160.out)) : gb160 ≠ gb164)); have n10_ := Aside0.mk ((by rw [hg]; exact Nat.ne_of_gt (blk_lt (g := gb160) (o := .cells #[.slice none 0 0, .slice none 0 0, .int .i64 0] 80 (0, 0)) (by (with_reducible repeat (first | refine kN_ ?_ _ | refine kD_ ?_ | refine kA_ ?_ _)); exact BK160.out)) : gb164 ≠ gb160)); clear HO163; clear BK159; clear BK160; clear HB; have HO163 := n0_; have BK159 := n1_; have BK160 := n2_; have HB := n3_; have BK164 := n4_; have GW164 := n5_; have GE164 := n6_; have NB159_164 := n7_; have NB164_159 := n8_; have NB160_164 := n9_; have NB164_160 := n10_; clear n0_ n1_ n2_ n3_ n4_ n5_ n6_ n7_ n8_ n9_ n10_; clear hb hbox hg; have hnb13 := NB164_159.out; have hnc13 := NB159_164.out; have hnb14 := NB164_160.out; have hnc14 := NB160_164.out; have hcz15_0 : w12.cell? ⟨gb164, 0, none⟩ = some (.slice none 0 0) := (blk_cell BK164.out 0).trans rfl; have hcz15_1 : w12.cell? ⟨gb164, 1, none⟩ = some (.slice none 0 0) := (blk_cell BK164.out 1).trans rfl; have hcz15_2 : w12.cell? ⟨gb164, 2, none⟩ = some (.int .i64 0) := (blk_cell BK164.out 2).trans rfl; have hfz15_0 := kF_ BK164.out 0; have hfz15_1 := kF_ BK164.out 1; have hfz15_2 := kF_ BK164.out 2))
 go_loopg [5] k (fun kq v5 w' => ∃ (x5_1 : Int) (x165000_1 : List Int) (x165001_1 : List Int) (x165002_1 : Int) (u165000 : Value) (u165001 : Value), v5 = .int .i64 x5_1 ∧ Aside0 (spec_hiRun.l0 kq a2 a3 a4 x5_1 l0_0 x165000_1 x165001_1 x165002_1 = some (r1, r2, r3)) ∧ Aside0 (kq ≤ k) ∧ Aside0 (Kd.R (Kd.int .i64) 3 w' w.heap.size (fun k_ => some k_ ≠ (u165001 : Value).ownBlock) u165000 x165000_1) ∧ Aside0 (Kd.R (Kd.int .i64) 3 w' w.heap.size (fun k_ => some k_ ≠ (u165000 : Value).ownBlock) u165001 x165001_1) ∧ Aside0 (w'.heap[gb159]? = some (.cells #[(.slice A0_0 l0_0.length c0_0)] 30 (0, 0))) ∧ Aside0 (w'.heap[gb160]? = some (.cells #[(.slice none 0 0), (.slice none 0 0), .int .i64 0] 80 (0, 0))) ∧ Aside0 (w'.heap[gb164]? = some (.cells #[u165000, u165001, .int .i64 x165002_1] 80 (0, 0))) ∧ Aside0 (Below w.heap.size w w'))
 case atStart => exact ⟨(a5), (([] : List Int)), (t161), (0), (.slice none 0 0), (.slice Ao11 t161.length co11), (by first | rfl | (simp; done) | (simp [*]; done)), H', ⟨Nat.le_refl _⟩, ⟨by first | exact Kd.R_nil _ _ _ _ _ | exact Kd.N_nil _ _ _ _ _ | exact Kd.V_nil _ _ _ _ _ | exact Kd.Q_nil _ _ _ _ _ | exact Kd.S_nil _ _ _ _ _⟩, ⟨by (with_reducible repeat (first | apply Kd.R_alloc | apply Kd.R_drewN | apply Kd.R_drew)); exact Kd.R_mono (Kd.R_far (p := ⟨gb164, 2, none⟩) (Kd.R_far (p := ⟨gb164, 1, none⟩) (Kd.R_far (p := ⟨gb164, 0, none⟩) (Kd.R_types HO163.out BK164.out (by decide)) (fun _ hk => hk.2) (.slice none 0 0)) (fun _ hk => hk.2) (.slice Ao11 t161.length co11)) (fun _ hk => hk.2) (.int .i64 0)) (fun _ hk => (by simp [Value.ownBlock]))⟩, ⟨by (with_reducible repeat (first | refine kN_ ?_ _ | refine kD_ ?_ | refine kA_ ?_ _)); refine blk_far ?_ NB159_164.out _; (with_reducible repeat (first | refine kN_ ?_ _ | refine kD_ ?_ | refine kA_ ?_ _)); refine blk_far ?_ NB159_164.out _; (with_reducible repeat (first | refine kN_ ?_ _ | refine kD_ ?_ | refine kA_ ?_ _)); refine blk_far ?_ NB159_164.out _; (with_reducible repeat (first | refine kN_ ?_ _ | refine kD_ ?_ | refine kA_ ?_ _)); exact BK159.out⟩, ⟨by (with_reducible repeat (first | refine kN_ ?_ _ | refine kD_ ?_ | refine kA_ ?_ _)); refine blk_far ?_ NB160_164.out _; (with_reducible repeat (first | refine kN_ ?_ _ | refine kD_ ?_ | refine kA_ ?_ _)); refine blk_far ?_ NB160_164.out _; (with_reducible repeat (first | refine kN_ ?_ _ | refine kD_ ?_ | refine kA_ ?_ _)); refine blk_far ?_ NB160_164.out _; (with_reducible repeat (first | refine kN_ ?_ _ | refine kD_ ?_ | refine kA_ ?_ _)); exact BK160.out⟩, ⟨by (with_reducible repeat (first | refine kN_ ?_ _ | refine kD_ ?_ | refine kA_ ?_ _)); refine blk_put (cs := #[.slice none 0 0, .slice Ao11 t161.length co11, .int .i64 0]) ?_ 2 _ rfl; (with_reducible repeat (first | refine kN_ ?_ _ | refine kD_ ?_ | refine kA_ ?_ _)); refine blk_put (cs := #[.slice none 0 0, .slice none 0 0, .int .i64 0]) ?_ 1 _ rfl; (with_reducible repeat (first | refine kN_ ?_ _ | refine kD_ ?_ | refine kA_ ?_ _)); refine blk_put (cs := #[.slice none 0 0, .slice none 0 0, .int .i64 0]) ?_ 0 _ rfl; (with_reducible repeat (first | refine kN_ ?_ _ | refine kD_ ?_ | refine kA_ ?_ _)); exact BK164.out⟩, ⟨by repeat (first | (with_reducible first | exact HB.out | apply bA_ | apply bN_ | apply bD_ | refine bS_ ?_ GE159.out | refine bS_ ?_ GE160.out | refine bS_ ?_ GE164.out) | exact HB.out)⟩⟩
 case round =>
  clear H'
  try clear c1
  try clear p2
  try clear c8
  try clear c11
  try clear c13
  try clear c14
  try clear hcz15_0
  try clear hcz15_1
  try clear hcz15_2
  try clear hfz15_0
  try clear hfz15_1
  try clear hfz15_2
  obtain ⟨x5_1, x165000_1, x165001_1, x165002_1, u165000, u165001, rfl, HA, HK1, HO_165000, HO_165001, BK159, BK160, BK164, HB⟩ := hrel
  cases gk with
  | zero => exact absurd HA.out (by simp [spec_hiRun.l0])
  | succ k1 =>
   have H := HA.out
   clear HA
   simp only [spec_hiRun.l0] at H
   by_cases c16 : x5_1 > 0
   ·rw [if_pos c16] at H
    have c16b0 : decide (0 < x5_1) = true := decide_eq_true c16
    clear c16
    have H' := Aside0.mk H
    clear H
    go_wp2
    go_loopg [14] k1 (fun kq v14 w' => ∃ (x14_2 : Int) (x165000_2 : List Int) (x165001_2 : List Int) (x165002_2 : Int) (u165000 : Value) (u165001 : Value), v14 = .int .i64 x14_2 ∧ Aside0 (spec_hiRun.l1 kq a2 a3 a4 x5_1 x14_2 l0_0 x165000_2 x165001_2 x165002_2 = some (r1, r2, r3)) ∧ Aside0 (kq ≤ k1) ∧ Aside0 (Kd.R (Kd.int .i64) 3 w' w.heap.size (fun k_ => some k_ ≠ (u165001 : Value).ownBlock) u165000 x165000_2) ∧ Aside0 (Kd.R (Kd.int .i64) 3 w' w.heap.size (fun k_ => some k_ ≠ (u165000 : Value).ownBlock) u165001 x165001_2) ∧ Aside0 (w'.heap[gb159]? = some (.cells #[(.slice A0_0 l0_0.length c0_0)] 30 (0, 0))) ∧ Aside0 (w'.heap[gb160]? = some (.cells #[(.slice none 0 0), (.slice none 0 0), .int .i64 0] 80 (0, 0))) ∧ Aside0 (w'.heap[gb164]? = some (.cells #[u165000, u165001, .int .i64 x165002_2] 80 (0, 0))) ∧ Aside0 (Below w.heap.size w w'))
    case atStart => exact ⟨(a2), (x165000_1), (x165001_1), (x165002_1), (u165000), (u165001), (by first | rfl | (simp; done) | (simp [*]; done)), H', ⟨Nat.le_refl _⟩, ⟨by (with_reducible repeat (first | apply Kd.R_alloc | apply Kd.R_drewN | apply Kd.R_drew)); exact HO_165000.out⟩, ⟨by (with_reducible repeat (first | apply Kd.R_alloc | apply Kd.R_drewN | apply Kd.R_drew)); exact HO_165001.out⟩, ⟨by (with_reducible repeat (first | refine kN_ ?_ _ | refine kD_ ?_ | refine kA_ ?_ _)); exact BK159.out⟩, ⟨by (with_reducible repeat (first | refine kN_ ?_ _ | refine kD_ ?_ | refine kA_ ?_ _)); exact BK160.out⟩, ⟨by (with_reducible repeat (first | refine kN_ ?_ _ | refine kD_ ?_ | refine kA_ ?_ _)); exact BK164.out⟩, ⟨by repeat (first | (with_reducible first | exact HB.out | apply bA_ | apply bN_ | apply bD_ | refine bS_ ?_ GE159.out | refine bS_ ?_ GE160.out | refine bS_ ?_ GE164.out) | exact HB.out)⟩⟩
    case round =>
     clear H'
     try clear c1
     try clear p2
     try clear c8
     try clear c11
     try clear c13
     try clear c14
     try clear c16
     try clear c16b0
     try clear hcz15_0
     try clear hcz15_1
     try clear hcz15_2
     try clear hfz15_0
     try clear hfz15_1
     try clear hfz15_2
     try clear p2
     obtain ⟨x14_2, x165000_2, x165001_2, x165002_2, u165000, u165001, rfl, HA, HK2, HO_165000, HO_165001, BK159, BK160, BK164, HB⟩ := hrel
     cases gk with
     | zero => exact absurd HA.out (by simp [spec_hiRun.l1])
     | succ k2 =>
      have H := HA.out
      clear HA
      simp only [spec_hiRun.l1] at H
      by_cases c17 : x14_2 = a3
      ·rw [if_pos c17] at H
       have c17b0 : (x14_2 == a3) = true := beq_iff_eq.mpr c17
       have c17b1 : (x14_2 != a3) = false := bne_eq_false_iff_eq.mpr c17
       clear c17
       by_cases c18 : x165000_2.length < 17592186044416
       ·rw [if_pos c18] at H
        have LMc18 := Aside0.mk c18
        clear c18
        obtain ⟨y165, hy165⟩ : ∃ y_ : List Int, y_ = (x165000_2 ++ [1]) := ⟨_, rfl⟩
        replace H : (spec_hiRun.l0 k2 a2 a3 a4 (wrap64 (x5_1 - 1)) l0_0 y165 x165001_2 x165002_2) = some (r1, r2, r3) := by first | (rw [hy165]; with_reducible exact H) | (have H2_ := (Option.bind_some _ _).symm.trans H; rw [hy165]; with_reducible exact H2_) | (have H2_ := (Option.bind_some _ _).symm.trans H; with_reducible exact H2_) | with_reducible exact H | (rw [hy165]; exact H) | exact H
        have Ny165 := Aside0.mk hy165
        clear hy165
        have H' := Aside0.mk H
        clear H
        have hnb19 := NB164_159.out
        have hnc19 := NB159_164.out
        have hnb20 := NB164_160.out
        have hnc20 := NB160_164.out
        have hcz21_0 : wr.cell? ⟨gb164, 0, none⟩ = some (u165000) := (blk_cell BK164.out 0).trans rfl
        have hcz21_1 : wr.cell? ⟨gb164, 1, none⟩ = some (u165001) := (blk_cell BK164.out 1).trans rfl
        have hcz21_2 : wr.cell? ⟨gb164, 2, none⟩ = some (.int .i64 x165002_2) := (blk_cell BK164.out 2).trans rfl
        have hfz21_0 := kF_ BK164.out 0
        have hfz21_1 := kF_ BK164.out 1
        have hfz21_2 := kF_ BK164.out 2
        go_wp2_with (first | ((with_reducible refine gate_builtin (b := .append) (xs := #[.tmp 65, .tmp 67]) rfl ?_); at_builtin; refine Kd.R_append (Kd.int .i64) (w0 := w) w.heap.size rfl (.tmp 65) (.tmp 67) 37 3 (.int .i64 0) 8 rfl Try.underlying37 info3 rfl (by decide) (by omega) u165000 x165000_2 1 [.int .i64 1] (fun k_ => some k_ ≠ (u165001 : Value).ownBlock) (fun _ => False) rfl rfl ?aP (fun _ hk => hk.elim) ?aF ?aO ?aB ?aS ?aL ?_; (case aP => exact rfl); (case aB => exact (by repeat (first | (with_reducible first | exact HB.out | apply bA_ | apply bN_ | apply bD_ | refine bS_ ?_ GE159.out | refine bS_ ?_ GE160.out | refine bS_ ?_ GE164.out) | exact HB.out))); (case aF => exact (fun k_ hk => Kd.fresh' (Kd.R_lt (by (with_reducible repeat (first | apply Kd.R_alloc | apply Kd.R_drewN | apply Kd.R_drew)); exact HO_165001.out)) k_ hk)); (case aO => exact (by (with_reducible repeat (first | apply Kd.R_alloc | apply Kd.R_drewN | apply Kd.R_drew)); exact HO_165000.out)); (case aS => exact (bZ_ (by repeat (first | (with_reducible first | exact HB.out | apply bA_ | apply bN_ | apply bD_ | refine bS_ ?_ GE159.out | refine bS_ ?_ GE160.out | refine bS_ ?_ GE164.out) | exact HB.out)))); (case aL => have := LMc18.out; omega); intro v166 w22 ho hb hg hat; rw [← Ny165.out] at ho; have n0_ := Aside0.mk (Kd.R_after (ok := (fun _ => True)) (by (with_reducible repeat (first | apply Kd.R_alloc | apply Kd.R_drewN | apply Kd.R_drew)); exact Kd.R_mono HO_165001.out (fun _ hk => ⟨trivial, hk⟩)) hg hat); have n1_ := Aside0.mk (blk_grown (g := gb159) (o := .cells #[.slice A0_0 l0_0.length c0_0] 30 (0, 0)) (by (with_reducible repeat (first | refine kN_ ?_ _ | refine kD_ ?_ | refine kA_ ?_ _)); exact BK159.out) hg (Kd.R_ne HO_165000.out BK159.out (by decide))); have n2_ := Aside0.mk (blk_grown (g := gb160) (o := .cells #[.slice none 0 0, .slice none 0 0, .int .i64 0] 80 (0, 0)) (by (with_reducible repeat (first | refine kN_ ?_ _ | refine kD_ ?_ | refine kA_ ?_ _)); exact BK160.out) hg (Kd.R_ne HO_165000.out BK160.out (by decide))); have n3_ := Aside0.mk (blk_grown (g := gb164) (o := .cells #[u165000, u165001, .int .i64 x165002_2] 80 (0, 0)) (by (with_reducible repeat (first | refine kN_ ?_ _ | refine kD_ ?_ | refine kA_ ?_ _)); exact BK164.out) hg (Kd.R_ne HO_165000.out BK164.out (by decide))); have n4_ := Aside0.mk (hb); have n5_ := Aside0.mk (ho); clear HO_165001; clear BK159; clear BK160; clear BK164; clear HB; clear HO_165000; have HO_165001 := n0_; have BK159 := n1_; have BK160 := n2_; have BK164 := n3_; have HB := n4_; have HO167 := n5_; clear n0_ n1_ n2_ n3_ n4_ n5_; clear ho hb hg hat; obtain ⟨Ao23, co23, eo23⟩ := Kd.R_slice HO167.out; subst eo23; have hcz24_0 : w22.cell? ⟨gb164, 0, none⟩ = some (u165000) := (blk_cell BK164.out 0).trans rfl; have hcz24_1 : w22.cell? ⟨gb164, 1, none⟩ = some (u165001) := (blk_cell BK164.out 1).trans rfl; have hcz24_2 : w22.cell? ⟨gb164, 2, none⟩ = some (.int .i64 x165002_2) := (blk_cell BK164.out 2).trans rfl; have hfz24_0 := kF_ BK164.out 0; have hfz24_1 := kF_ BK164.out 1; have hfz24_2 := kF_ BK164.out 2))
        go_roundg k2
        case measure => have := HK1.out; have := HK2.out; omega
        case rel => exact ⟨(wrap64 (x5_1 - 1)), (y165), (x165001_2), (x165002_2), (.slice Ao23 y165.length co23), (u165001), (by first | rfl | (simp; done) | (simp [*]; done)), H', ⟨by have := HK1.out; have := HK2.out; omega⟩, ⟨by (with_reducible repeat (first | apply Kd.R_alloc | apply Kd.R_drewN | apply Kd.R_drew)); exact Kd.R_mono (Kd.R_far (p := ⟨gb164, 0, none⟩) (Kd.R_types HO167.out BK164.out (by decide)) (fun _ hk => hk.2) (.slice Ao23 y165.length co23)) (fun _ hk => hk.1)⟩, ⟨by (with_reducible repeat (first | apply Kd.R_alloc | apply Kd.R_drewN | apply Kd.R_drew)); exact Kd.R_mono (Kd.R_far (p := ⟨gb164, 0, none⟩) (Kd.R_types HO_165001.out BK164.out (by decide)) (fun _ hk => hk.2) (.slice Ao23 y165.length co23)) (fun _ hk => hk.1.2)⟩, ⟨by (with_reducible repeat (first | refine kN_ ?_ _ | refine kD_ ?_ | refine kA_ ?_ _)); refine blk_far ?_ NB159_164.out _; (with_reducible repeat (first | refine kN_ ?_ _ | refine kD_ ?_ | refine kA_ ?_ _)); exact BK159.out⟩, ⟨by (with_reducible repeat (first | refine kN_ ?_ _ | refine kD_ ?_ | refine kA_ ?_ _)); refine blk_far ?_ NB160_164.out _; (with_reducible repeat (first | refine kN_ ?_ _ | refine kD_ ?_ | refine kA_ ?_ _)); exact BK160.out⟩, ⟨by (with_reducible repeat (first | refine kN_ ?_ _ | refine kD_ ?_ | refine kA_ ?_ _)); refine blk_put (cs := #[u165000, u165001, .int .i64 x165002_2]) ?_ 0 _ rfl; (with_reducible repeat (first | refine kN_ ?_ _ | refine kD_ ?_ | refine kA_ ?_ _)); exact BK164.out⟩, ⟨by repeat (first | (with_reducible first | exact HB.out | apply bA_ | apply bN_ | apply bD_ | refine bS_ ?_ GE159.out | refine bS_ ?_ GE160.out | refine bS_ ?_ GE164.out) | exact HB.out)⟩⟩
       ·rw [if_neg c18] at H
        exact absurd H (by simp)
      ·rw [if_neg c17] at H
       have c17b0 : (x14_2 == a3) = false := beq_eq_false_iff_ne.mpr c17
       have c17b1 : (x14_2 != a3) = true := bne_iff_ne.mpr c17
       by_cases c25 : x14_2 = a4
       ·rw [if_pos c25] at H
        have c25b0 : (x14_2 == a4) = true := beq_iff_eq.mpr c25
        have c25b1 : (x14_2 != a4) = false := bne_eq_false_iff_eq.mpr c25
        clear c25
        by_cases c26 : x165000_2.length < 17592186044416
        ·rw [if_pos c26] at H
         have LMc26 := Aside0.mk c26
         clear c26
         obtain ⟨y168, hy168⟩ : ∃ y_ : List Int, y_ = (x165000_2 ++ [0]) := ⟨_, rfl⟩
         replace H : (spec_hiRun.l0 k2 a2 a3 a4 (wrap64 (x5_1 - 1)) l0_0 y168 x165001_2 x165002_2) = some (r1, r2, r3) := by first | (rw [hy168]; with_reducible exact H) | (have H2_ := (Option.bind_some _ _).symm.trans H; rw [hy168]; with_reducible exact H2_) | (have H2_ := (Option.bind_some _ _).symm.trans H; with_reducible exact H2_) | with_reducible exact H | (rw [hy168]; exact H) | exact H
         have Ny168 := Aside0.mk hy168
         clear hy168
         have H' := Aside0.mk H
         clear H
         have hnb27 := NB164_159.out
         have hnc27 := NB159_164.out
         have hnb28 := NB164_160.out
         have hnc28 := NB160_164.out
         have hcz29_0 : wr.cell? ⟨gb164, 0, none⟩ = some (u165000) := (blk_cell BK164.out 0).trans rfl
         have hcz29_1 : wr.cell? ⟨gb164, 1, none⟩ = some (u165001) := (blk_cell BK164.out 1).trans rfl
         have hcz29_2 : wr.cell? ⟨gb164, 2, none⟩ = some (.int .i64 x165002_2) := (blk_cell BK164.out 2).trans rfl
         have hfz29_0 := kF_ BK164.out 0
         have hfz29_1 := kF_ BK164.out 1
         have hfz29_2 := kF_ BK164.out 2
         go_wp2_with (first | ((with_reducible refine gate_builtin (b := .append) (xs := #[.tmp 65, .tmp 67]) rfl ?_); at_builtin; refine Kd.R_append (Kd.int .i64) (w0 := w) w.heap.size rfl (.tmp 65) (.tmp 67) 37 3 (.int .i64 0) 8 rfl Try.underlying37 info3 rfl (by decide) (by omega) u165000 x165000_2 0 [.int .i64 0] (fun k_ => some k_ ≠ (u165001 : Value).ownBlock) (fun _ => False) rfl rfl ?aP (fun _ hk => hk.elim) ?aF ?aO ?aB ?aS ?aL ?_; (case aP => exact rfl); (case aB => exact (by repeat (first | (with_reducible first | exact HB.out | apply bA_ | apply bN_ | apply bD_ | refine bS_ ?_ GE159.out | refine bS_ ?_ GE160.out | refine bS_ ?_ GE164.out) | exact HB.out))); (case aF => exact (fun k_ hk => Kd.fresh' (Kd.R_lt (by (with_reducible repeat (first | apply Kd.R_alloc | apply Kd.R_drewN | apply Kd.R_drew)); exact HO_165001.out)) k_ hk)); (case aO => exact (by (with_reducible repeat (first | apply Kd.R_alloc | apply Kd.R_drewN | apply Kd.R_drew)); exact HO_165000.out)); (case aS => exact (bZ_ (by repeat (first | (with_reducible first | exact HB.out | apply bA_ | apply bN_ | apply bD_ | refine bS_ ?_ GE159.out | refine bS_ ?_ GE160.out | refine bS_ ?_ GE164.out) | exact HB.out)))); (case aL => have := LMc26.out; omega); intro v169 w30 ho hb hg hat; rw [← Ny168.out] at ho; have n0_ := Aside0.mk (Kd.R_after (ok := (fun _ => True)) (by (with_reducible repeat (first | apply Kd.R_alloc | apply Kd.R_drewN | apply Kd.R_drew)); exact Kd.R_mono HO_165001.out (fun _ hk => ⟨trivial, hk⟩)) hg hat); have n1_ := Aside0.mk (blk_grown (g := gb159) (o := .cells #[.slice A0_0 l0_0.length c0_0] 30 (0, 0)) (by (with_reducible repeat (first | refine kN_ ?_ _ | refine kD_ ?_ | refine kA_ ?_ _)); exact BK159.out) hg (Kd.R_ne HO_165000.out BK159.out (by decide))); have n2_ := Aside0.mk (blk_grown (g := gb160) (o := .cells #[.slice none 0 0, .slice none 0 0, .int .i64 0] 80 (0, 0)) (by (with_reducible repeat (first | refine kN_ ?_ _ | refine kD_ ?_ | refine kA_ ?_ _)); exact BK160.out) hg (Kd.R_ne HO_165000.out BK160.out (by decide))); have n3_ := Aside0.mk (blk_grown (g := gb164) (o := .cells #[u165000, u165001, .int .i64 x165002_2] 80 (0, 0)) (by (with_reducible repeat (first | refine kN_ ?_ _ | refine kD_ ?_ | refine kA_ ?_ _)); exact BK164.out) hg (Kd.R_ne HO_165000.out BK164.out (by decide))); have n4_ := Aside0.mk (hb); have n5_ := Aside0.mk (ho); clear HO_165001; clear BK159; clear BK160; clear BK164; clear HB; clear HO_165000; have HO_165001 := n0_; have BK159 := n1_; have BK160 := n2_; have BK164 := n3_; have HB := n4_; have HO170 := n5_; clear n0_ n1_ n2_ n3_ n4_ n5_; clear ho hb hg hat; obtain ⟨Ao31, co31, eo31⟩ := Kd.R_slice HO170.out; subst eo31; have hcz32_0 : w30.cell? ⟨gb164, 0, none⟩ = some (u165000) := (blk_cell BK164.out 0).trans rfl; have hcz32_1 : w30.cell? ⟨gb164, 1, none⟩ = some (u165001) := (blk_cell BK164.out 1).trans rfl; have hcz32_2 : w30.cell? ⟨gb164, 2, none⟩ = some (.int .i64 x165002_2) := (blk_cell BK164.out 2).trans rfl; have hfz32_0 := kF_ BK164.out 0; have hfz32_1 := kF_ BK164.out 1; have hfz32_2 := kF_ BK164.out 2))
         go_roundg k2
         case measure => have := HK1.out; have := HK2.out; omega
         case rel => exact ⟨(wrap64 (x5_1 - 1)), (y168), (x165001_2), (x165002_2), (.slice Ao31 y168.length co31), (u165001), (by first | rfl | (simp; done) | (simp [*]; done)), H', ⟨by have := HK1.out; have := HK2.out; omega⟩, ⟨by (with_reducible repeat (first | apply Kd.R_alloc | apply Kd.R_drewN | apply Kd.R_drew)); exact Kd.R_mono (Kd.R_far (p := ⟨gb164, 0, none⟩) (Kd.R_types HO170.out BK164.out (by decide)) (fun _ hk => hk.2) (.slice Ao31 y168.length co31)) (fun _ hk => hk.1)⟩, ⟨by (with_reducible repeat (first | apply Kd.R_alloc | apply Kd.R_drewN | apply Kd.R_drew)); exact Kd.R_mono (Kd.R_far (p := ⟨gb164, 0, none⟩) (Kd.R_types HO_165001.out BK164.out (by decide)) (fun _ hk => hk.2) (.slice Ao31 y168.length co31)) (fun _ hk => hk.1.2)⟩, ⟨by (with_reducible repeat (first | refine kN_ ?_ _ | refine kD_ ?_ | refine kA_ ?_ _)); refine blk_far ?_ NB159_164.out _; (with_reducible repeat (first | refine kN_ ?_ _ | refine kD_ ?_ | refine kA_ ?_ _)); exact BK159.out⟩, ⟨by (with_reducible repeat (first | refine kN_ ?_ _ | refine kD_ ?_ | refine kA_ ?_ _)); refine blk_far ?_ NB160_164.out _; (with_reducible repeat (first | refine kN_ ?_ _ | refine kD_ ?_ | refine kA_ ?_ _)); exact BK160.out⟩, ⟨by (with_reducible repeat (first | refine kN_ ?_ _ | refine kD_ ?_ | refine kA_ ?_ _)); refine blk_put (cs := #[u165000, u165001, .int .i64 x165002_2]) ?_ 0 _ rfl; (with_reducible repeat (first | refine kN_ ?_ _ | refine kD_ ?_ | refine kA_ ?_ _)); exact BK164.out⟩, ⟨by repeat (first | (with_reducible first | exact HB.out | apply bA_ | apply bN_ | apply bD_ | refine bS_ ?_ GE159.out | refine bS_ ?_ GE160.out | refine bS_ ?_ GE164.out) | exact HB.out)⟩⟩
        ·rw [if_neg c26] at H
         exact absurd H (by simp)
       ·rw [if_neg c25] at H
        have c25b0 : (x14_2 == a4) = false := beq_eq_false_iff_ne.mpr c25
        have c25b1 : (x14_2 != a4) = true := bne_iff_ne.mpr c25
        by_cases c33 : 0 ≤ x14_2
        ·rw [if_pos c33] at H
         have c33b0 : decide (0 ≤ x14_2) = true := decide_eq_true c33
         clear c33
         by_cases c34 : x14_2 < (l0_0.length : Int)
         ·rw [if_pos c34] at H
          have c34b0 : decide (x14_2 < (l0_0.length : Int)) = true := decide_eq_true c34
          clear c34
          by_cases c35 : x14_2 < (x165001_2.length : Int)
          ·rw [if_pos c35] at H
           have c35b0 : decide (x14_2 < (x165001_2.length : Int)) = true := decide_eq_true c35
           clear c35
           by_cases c36 : ((rd_L1 l0_0 x14_2).length : Int) = 0
           ·rw [if_pos c36] at H
            exact absurd H (by simp)
           ·rw [if_neg c36] at H
            have c36b0 : (((rd_L1 l0_0 x14_2).length : Int) == 0) = false := beq_eq_false_iff_ne.mpr c36
            have c36b1 : (((rd_L1 l0_0 x14_2).length : Int) != 0) = true := bne_iff_ne.mpr c36
            have c36b2 : ¬ ((rd_L1 l0_0 x14_2) = []) := fun h_ => c36 (by rw [h_]; rfl)
            obtain ⟨y173, hy173⟩ : ∃ y_ : List Int, y_ = (x165001_2.set (x14_2 : Int).toNat (Int.tmod (wrap64 ((rd x165001_2 x14_2) + 1)) ((rd_L1 l0_0 x14_2).length : Int))) := ⟨_, rfl⟩
            replace H : (if 0 ≤ (Int.tmod (wrap64 ((rd x165001_2 x14_2) + 1)) ((rd_L1 l0_0 x14_2).length : Int)) then (if (Int.tmod (wrap64 ((rd x165001_2 x14_2) + 1)) ((rd_L1 l0_0 x14_2).length : Int)) < ((rd_L1 l0_0 x14_2).length : Int) then (spec_hiRun.l1 k2 a2 a3 a4 x5_1 (rd (rd_L1 l0_0 x14_2) (Int.tmod (wrap64 ((rd x165001_2 x14_2) + 1)) ((rd_L1 l0_0 x14_2).length : Int))) l0_0 x165000_2 y173 (wrap64 (x165002_2 + 1))) else (none)) else (none)) = some (r1, r2, r3) := by first | (rw [hy173]; with_reducible exact H) | (have H2_ := (Option.bind_some _ _).symm.trans H; rw [hy173]; with_reducible exact H2_) | (have H2_ := (Option.bind_some _ _).symm.trans H; with_reducible exact H2_) | with_reducible exact H | (rw [hy173]; exact H) | exact H
            have Ny173 := Aside0.mk hy173
            clear hy173
            obtain ⟨ji38, hji38⟩ : ∃ j_ : Int, (Int.tmod (wrap64 ((rd x165001_2 x14_2) + 1)) ((rd_L1 l0_0 x14_2).length : Int)) = j_ := ⟨_, rfl⟩
            replace H : (if 0 ≤ (ji38) then (if (ji38) < ((rd_L1 l0_0 x14_2).length : Int) then (spec_hiRun.l1 k2 a2 a3 a4 x5_1 (rd (rd_L1 l0_0 x14_2) (ji38)) l0_0 x165000_2 y173 (wrap64 (x165002_2 + 1))) else (none)) else (none)) = some (r1, r2, r3) := by first | (rw [hji38] at H; exact H) | (simp only [hji38] at H ⊢; exact H)
            (try rw [hji38] at Ny173)
            by_cases c39 : 0 ≤ (ji38)
            ·rw [if_pos c39] at H
             have c39b0 : decide (0 ≤ (ji38)) = true := decide_eq_true c39
             clear c39
             by_cases c40 : (ji38) < ((rd_L1 l0_0 x14_2).length : Int)
             ·rw [if_pos c40] at H
              have c40b0 : decide ((ji38) < ((rd_L1 l0_0 x14_2).length : Int)) = true := decide_eq_true c40
              clear c40
              have H' := Aside0.mk H
              clear H
              have hnb41 := NB159_160.out
              have hnc41 := NB160_159.out
              have hnb42 := NB159_164.out
              have hnc42 := NB164_159.out
              have hcz43_0 : wr.cell? ⟨gb159, 0, none⟩ = some (.slice A0_0 l0_0.length c0_0) := (blk_cell BK159.out 0).trans rfl
              have hfz43_0 := kF_ BK159.out 0
              have p171 : 0 ≤ (x14_2 : Int) := of_decide_eq_true (by first | (with_reducible assumption) | assumption)
              have q171 : x14_2 < (l0_0.length : Int) := of_decide_eq_true (by first | (with_reducible assumption) | assumption)
              obtain ⟨ad171, A171_0, c171_0, e171, hx171_0, hl171_0, hi171_0⟩ := at_L1 HR0_0.out x14_2 p171 q171
              cases e171
              replace hx171_0 := (HB.out.cell (World.block_lt_of_cell? w _ hx171_0)).trans hx171_0
              have HR171_0 := Aside0.mk hi171_0
              have HC171_0 := Aside0.mk hl171_0
              clear hi171_0 hl171_0
              replace p171 := eq_true p171
              replace q171 := eq_true q171
              have hnb44 := NB164_160.out
              have hnc44 := NB160_164.out
              have hcz45_0 : wr.cell? ⟨gb164, 0, none⟩ = some (u165000) := (blk_cell BK164.out 0).trans rfl
              have hcz45_1 : wr.cell? ⟨gb164, 1, none⟩ = some (u165001) := (blk_cell BK164.out 1).trans rfl
              have hcz45_2 : wr.cell? ⟨gb164, 2, none⟩ = some (.int .i64 x165002_2) := (blk_cell BK164.out 2).trans rfl
              have hfz45_0 := kF_ BK164.out 0
              have hfz45_1 := kF_ BK164.out 1
              have hfz45_2 := kF_ BK164.out 2
              obtain ⟨Ao46, co46, eo46⟩ := Kd.R_slice HO_165001.out
              subst eo46
              have p172 : 0 ≤ (x14_2 : Int) := of_decide_eq_true (by first | (with_reducible assumption) | assumption)
              have q172 : x14_2 < (x165001_2.length : Int) := of_decide_eq_true (by first | (with_reducible assumption) | assumption)
              obtain ⟨ad172, e172, hx172_0⟩ := Kd.at_int (Kd.R_reads' HO_165001.out).2.2 x14_2 p172 q172
              cases e172
              replace p172 := eq_true p172
              replace q172 := eq_true q172
              have p37 : 0 ≤ (x14_2 : Int) := of_decide_eq_true (by first | (with_reducible assumption) | assumption)
              have q37 : (x14_2 : Int) < ((x165001_2.length : Int) : Int) := of_decide_eq_true (by first | (with_reducible assumption) | assumption)
              obtain ⟨go37, co37, eo37, gb37, gl37, cl37, HG37⟩ := Kd.R_form HO_165001.out (by omega)
              (first | cases eo37 | (injection eo37 with ea_ en_ ec_; (first | subst ea_ | (injection ea_ with ea_; subst ea_)); subst ec_; clear en_))
              have GB37 := Aside0.mk gb37
              have GG37 := Aside0.mk HG37
              clear gb37 gl37 HG37
              (first | simp only [add_plain] at hx172_0 | skip)
              obtain ⟨hx37_0, hf37_0⟩ := Kd.R_celln 0 HO_165001.out (x14_2 : Int) p37 q37
              replace p37 := eq_true p37
              replace q37 := eq_true q37
              have HP47 := Kd.R_putg HO_165001.out (x14_2 : Int) ji38
              go_wp2_with (first | ((with_reducible refine gate_store (t := 3) (p := 52) rfl ?_); refine store_event (t := 3) (p := 52) (v := ?vo_w48) (w1 := (wr.setCell ⟨go37, (x14_2 : Int).toNat, none⟩ (.int .i64 ji38))) ?hg ?ho ?hn ?hr ?_; (case ho => rfl); (case hg => rfl); (case hn => rfl); (case hr => first | (go_simp; done) | (go_simp; rfl)); intro w48 hw; have hg : wr.grownBy w48 (some go37) := (by rw [hw]; exact HP47.2); have hp_ : Kd.R (Kd.int .i64) 3 w48 w.heap.size (fun k_ => some k_ ≠ (u165000 : Value).ownBlock) (.slice (some ⟨go37, 0, none⟩) x165001_2.length co46) y173 := (by rw [hw, Ny173.out]; exact HP47.1); clear HP47; have n0_ := Aside0.mk (Kd.R_after (v := (.slice (some ⟨go37, 0, none⟩) x165001_2.length co46)) (v1 := (.slice (some ⟨go37, 0, none⟩) x165001_2.length co46)) (ok := (fun _ => True)) (by (with_reducible repeat (first | apply Kd.R_alloc | apply Kd.R_drewN | apply Kd.R_drew)); exact Kd.R_mono HO_165000.out (fun _ hk => ⟨trivial, hk⟩)) hg (.inl rfl)); have n1_ := Aside0.mk (hp_); have n2_ := Aside0.mk (blk_grown (g := gb159) (o := .cells #[.slice (some ad171) l0_0.length c0_0] 30 (0, 0)) (by (with_reducible repeat (first | refine kN_ ?_ _ | refine kD_ ?_ | refine kA_ ?_ _)); exact BK159.out) hg (Kd.R_ne HO_165001.out BK159.out (by decide))); have n3_ := Aside0.mk (blk_grown (g := gb160) (o := .cells #[.slice none 0 0, .slice none 0 0, .int .i64 0] 80 (0, 0)) (by (with_reducible repeat (first | refine kN_ ?_ _ | refine kD_ ?_ | refine kA_ ?_ _)); exact BK160.out) hg (Kd.R_ne HO_165001.out BK160.out (by decide))); have n4_ := Aside0.mk (blk_grown (g := gb164) (o := .cells #[u165000, .slice (some ⟨go37, 0, none⟩) x165001_2.length co46, .int .i64 x165002_2] 80 (0, 0)) (by (with_reducible repeat (first | refine kN_ ?_ _ | refine kD_ ?_ | refine kA_ ?_ _)); exact BK164.out) hg (Kd.R_ne HO_165001.out BK164.out (by decide))); have n5_ := Aside0.mk ((by rw [hw]; exact bS_ (HB.out) GB37.out : Below w.heap.size w w48)); clear HO_165000; clear HO_165001; clear BK159; clear BK160; clear BK164; clear HB; have HO_165000 := n0_; have HO_165001 := n1_; have BK159 := n2_; have BK160 := n3_; have BK164 := n4_; have HB := n5_; clear n0_ n1_ n2_ n3_ n4_ n5_; clear hg hw hp_; have p174 : 0 ≤ ((ji38) : Int) := of_decide_eq_true (by first | (with_reducible assumption) | assumption); have q174 : (ji38) < ((rd_L1 l0_0 x14_2).length : Int) := of_decide_eq_true (by first | (with_reducible assumption) | assumption); obtain ⟨ad174, e174, hx174_0⟩ := Kd.at_int HR171_0.out (ji38) p174 q174; cases e174; replace hx174_0 := (HB.out.cell (World.block_lt_of_cell? w _ hx174_0)).trans hx174_0; replace p174 := eq_true p174; replace q174 := eq_true q174; have hcz49_0 : w48.cell? ⟨gb164, 0, none⟩ = some (u165000) := (blk_cell BK164.out 0).trans rfl; have hcz49_1 : w48.cell? ⟨gb164, 1, none⟩ = some (.slice (some ⟨go37, 0, none⟩) x165001_2.length co46) := (blk_cell BK164.out 1).trans rfl; have hcz49_2 : w48.cell? ⟨gb164, 2, none⟩ = some (.int .i64 x165002_2) := (blk_cell BK164.out 2).trans rfl; have hfz49_0 := kF_ BK164.out 0; have hfz49_1 := kF_ BK164.out 1; have hfz49_2 := kF_ BK164.out 2))
              go_roundg k2
              case measure => have := HK1.out; have := HK2.out; omega
              case rel => exact ⟨(rd (rd_L1 l0_0 x14_2) (ji38)), (x165000_2), (y173), (wrap64 (x165002_2 + 1)), (u165000), (.slice (some ⟨go37, 0, none⟩) x165001_2.length co46), (by first | rfl | (simp; done) | (simp only [← hji38] <;> (first | rfl | simp)) | (simp [*]; done)), H', ⟨by have := HK1.out; have := HK2.out; omega⟩, ⟨by (with_reducible repeat (first | apply Kd.R_alloc | apply Kd.R_drewN | apply Kd.R_drew)); exact Kd.R_mono (Kd.R_far (p := ⟨gb164, 2, none⟩) (Kd.R_types HO_165000.out BK164.out (by decide)) (fun _ hk => hk.2) (.int .i64 (wrap64 (x165002_2 + 1)))) (fun _ hk => hk.1.2)⟩, ⟨by (with_reducible repeat (first | apply Kd.R_alloc | apply Kd.R_drewN | apply Kd.R_drew)); exact Kd.R_mono (Kd.R_far (p := ⟨gb164, 2, none⟩) (Kd.R_types HO_165001.out BK164.out (by decide)) (fun _ hk => hk.2) (.int .i64 (wrap64 (x165002_2 + 1)))) (fun _ hk => hk.1)⟩, ⟨by (with_reducible repeat (first | refine kN_ ?_ _ | refine kD_ ?_ | refine kA_ ?_ _)); refine blk_far ?_ NB159_164.out _; (with_reducible repeat (first | refine kN_ ?_ _ | refine kD_ ?_ | refine kA_ ?_ _)); exact BK159.out⟩, ⟨by (with_reducible repeat (first | refine kN_ ?_ _ | refine kD_ ?_ | refine kA_ ?_ _)); refine blk_far ?_ NB160_164.out _; (with_reducible repeat (first | refine kN_ ?_ _ | refine kD_ ?_ | refine kA_ ?_ _)); exact BK160.out⟩, ⟨by (with_reducible repeat (first | refine kN_ ?_ _ | refine kD_ ?_ | refine kA_ ?_ _)); refine blk_put (cs := #[u165000, .slice (some ⟨go37, 0, none⟩) x165001_2.length co46, .int .i64 x165002_2]) ?_ 2 _ rfl; (with_reducible repeat (first | refine kN_ ?_ _ | refine kD_ ?_ | refine kA_ ?_ _)); exact BK164.out⟩, ⟨by repeat (first | (with_reducible first | exact HB.out | apply bA_ | apply bN_ | apply bD_ | refine bS_ ?_ GE159.out | refine bS_ ?_ GE160.out | refine bS_ ?_ GE164.out) | exact HB.out)⟩⟩
             ·rw [if_neg c40] at H
              exact absurd H (by simp)
            ·rw [if_neg c39] at H
             exact absurd H (by simp)
          ·rw [if_neg c35] at H
           exact absurd H (by simp)
         ·rw [if_neg c34] at H
          exact absurd H (by simp)
        ·rw [if_neg c33] at H
         exact absurd H (by simp)
   ·rw [if_neg c16] at H
    have c16b0 : decide (0 < x5_1) = false := decide_eq_false c16
    clear c16
    simp only [Option.some.injEq, Prod.mk.injEq] at H
    obtain ⟨rfl, rfl, rfl⟩ := H
    have hnb50 := NB164_159.out
    have hnc50 := NB159_164.out
    have hnb51 := NB164_160.out
    have hnc51 := NB160_164.out
    have hcz52_0 : wr.cell? ⟨gb164, 0, none⟩ = some (u165000) := (blk_cell BK164.out 0).trans rfl
    have hcz52_1 : wr.cell? ⟨gb164, 1, none⟩ = some (u165001) := (blk_cell BK164.out 1).trans rfl
    have hcz52_2 : wr.cell? ⟨gb164, 2, none⟩ = some (.int .i64 x165002_1) := (blk_cell BK164.out 2).trans rfl
    have hfz52_0 := kF_ BK164.out 0
    have hfz52_1 := kF_ BK164.out 1
    have hfz52_2 := kF_ BK164.out 2
    obtain ⟨Ao53, co53, eo53⟩ := Kd.R_slice HO_165000.out
    subst eo53
    have hnb54 := NB160_159.out
    have hnc54 := NB159_160.out
    have hcz55_0 : wr.cell? ⟨gb160, 0, none⟩ = some (.slice none 0 0) := (blk_cell BK160.out 0).trans rfl
    have hcz55_1 : wr.cell? ⟨gb160, 1, none⟩ = some (.slice none 0 0) := (blk_cell BK160.out 1).trans rfl
    have hcz55_2 : wr.cell? ⟨gb160, 2, none⟩ = some (.int .i64 0) := (blk_cell BK160.out 2).trans rfl
    have hfz55_0 := kF_ BK160.out 0
    have hfz55_1 := kF_ BK160.out 1
    have hfz55_2 := kF_ BK160.out 2
    obtain ⟨Ao56, co56, eo56⟩ := Kd.R_slice HO_165001.out
    subst eo56
    go_wp2
    refine bodyPost_ret (results_cell_row rfl _ _ gb160 80 #[.slice Ao53 x165000_1.length co53, .slice Ao56 x165001_1.length co56, .int .i64 x165002_1] (0, 0) _ rfl (by (with_reducible repeat (first | refine kN_ ?_ _ | refine kD_ ?_ | refine kA_ ?_ _)); refine blk_put (cs := #[.slice Ao53 x165000_1.length co53, .slice Ao56 x165001_1.length co56, .int .i64 0]) ?_ 2 _ rfl; (with_reducible repeat (first | refine kN_ ?_ _ | refine kD_ ?_ | refine kA_ ?_ _)); refine blk_put (cs := #[.slice Ao53 x165000_1.length co53, .slice none 0 0, .int .i64 0]) ?_ 1 _ rfl; (with_reducible repeat (first | refine kN_ ?_ _ | refine kD_ ?_ | refine kA_ ?_ _)); refine blk_put (cs := #[.slice none 0 0, .slice none 0 0, .int .i64 0]) ?_ 0 _ rfl; (with_reducible repeat (first | refine kN_ ?_ _ | refine kD_ ?_ | refine kA_ ?_ _)); exact BK160.out) Try.underlying80 rfl (by kernel_rfl)) rfl ?_
    exact ⟨_, _, by first | rfl | (simp [errW_none, errW_some] <;> rfl) | (simp [*, errW_none, errW_some] <;> rfl), by (with_reducible repeat (first | apply Kd.R_alloc | apply Kd.R_drewN | apply Kd.R_drew)); exact Kd.R_mono (Kd.R_far (p := ⟨gb160, 2, none⟩) (Kd.R_far (p := ⟨gb160, 1, none⟩) (Kd.R_far (p := ⟨gb160, 0, none⟩) (Kd.R_types HO_165000.out BK160.out (by decide)) (fun _ hk => hk.2) (.slice Ao53 x165000_1.length co53)) (fun _ hk => hk.2) (.slice Ao56 x165001_1.length co56)) (fun _ hk => hk.2) (.int .i64 x165002_1)) (fun _ hk => hk.1), by (with_reducible repeat (first | apply Kd.R_alloc | apply Kd.R_drewN | apply Kd.R_drew)); exact Kd.R_mono (Kd.R_far (p := ⟨gb160, 2, none⟩) (Kd.R_far (p := ⟨gb160, 1, none⟩) (Kd.R_far (p := ⟨gb160, 0, none⟩) (Kd.R_types HO_165001.out BK160.out (by decide)) (fun _ hk => hk.2) (.slice Ao53 x165000_1.length co53)) (fun _ hk => hk.2) (.slice Ao56 x165001_1.length co56)) (fun _ hk => hk.2) (.int .i64 x165002_1)) (fun _ hk => hk.1), by repeat (first | (with_reducible first | exact HB.out | apply bA_ | apply bN_ | apply bD_ | refine bS_ ?_ GE159.out | refine bS_ ?_ GE160.out | refine bS_ ?_ GE164.out) | exact HB.out)⟩
def spec_hiSum.l0 : Nat → Int → List Int → Int → Int → Option (Int)
 | 0, _, _, _, _ => none
 | k + 1, x3, x6, x7, x8 => if x8 < x7 then (if 0 ≤ x8 then (if x8 < (x6.length : Int) then (spec_hiSum.l0 k (wrap64 (x3 + (rd x6 x8))) x6 x7 (wrap64 (x8 + 1))) else (none)) else (none)) else (some x3)
def spec_hiSum.f (k : Nat) (l0 : List Int) : Option (Int) := spec_hiSum.l0 k 0 l0 (l0.length : Int) 0
set_option maxHeartbeats 8000000 in
set_option maxRecDepth 100000 in
theorem spec_hiSum.calls (k : Nat) (A0 : Option Addr) (c0 : Nat) (l0 : List Int) (r : Int) (w : World) (hr0 : Kd.C (Kd.int .i64) w A0 l0.length l0) (hc0 : l0.length ≤ c0) (h : spec_hiSum.f k l0 = some r) :
  Calls Try.prog 85 #[.slice A0 l0.length c0] w fun e w' => e = .returned (.int .i64 r) ∧ Drawn0 w w' := by
 have HR0 := Aside0.mk hr0
 have HC0 := Aside0.mk hc0
 clear hr0 hc0
 have H : (spec_hiSum.l0 k 0 l0 (l0.length : Int) 0) = some r := h
 clear h
 have H' := Aside0.mk H
 clear H
 go_enter Try.func85, Try.ntmps85
 go_wp2
 go_loopg [3, 8] k (fun kq v3 v8 w' => ∃ (x3_1 : Int) (x8_1 : Int), v3 = .int .i64 x3_1 ∧ v8 = .int .i64 x8_1 ∧ Aside0 (spec_hiSum.l0 kq x3_1 l0 (l0.length : Int) x8_1 = some r) ∧ Aside0 (kq ≤ k) ∧ Drawn0 w w')
 case atStart => exact ⟨(0), (0), (by first | rfl | (simp; done) | (simp [*]; done)), (by first | rfl | (simp; done) | (simp [*]; done)), H', ⟨Nat.le_refl _⟩, by repeat (first | exact Drawn0.refl _ | apply Drawn0.step)⟩
 case round =>
  clear H'
  obtain ⟨x3_1, x8_1, rfl, rfl, HA, HK1, ⟨m1, rfl⟩⟩ := hrel
  cases gk with
  | zero => exact absurd HA.out (by simp [spec_hiSum.l0])
  | succ k1 =>
   have H := HA.out
   clear HA
   simp only [spec_hiSum.l0] at H
   by_cases c2 : x8_1 < (l0.length : Int)
   ·rw [if_pos c2] at H
    have c2b0 : decide (x8_1 < (l0.length : Int)) = true := decide_eq_true c2
    clear c2
    by_cases c3 : 0 ≤ x8_1
    ·rw [if_pos c3] at H
     have c3b0 : decide (0 ≤ x8_1) = true := decide_eq_true c3
     clear c3
     by_cases c4 : x8_1 < (l0.length : Int)
     ·rw [if_pos c4] at H
      have c4b0 : decide (x8_1 < (l0.length : Int)) = true := decide_eq_true c4
      clear c4
      have H' := Aside0.mk H
      clear H
      have p184 : 0 ≤ (x8_1 : Int) := of_decide_eq_true (by first | (with_reducible assumption) | assumption)
      have q184 : x8_1 < (l0.length : Int) := of_decide_eq_true (by first | (with_reducible assumption) | assumption)
      obtain ⟨ad184, e184, hx184_0⟩ := Kd.at_int HR0.out x8_1 p184 q184
      cases e184
      replace p184 := eq_true p184
      replace q184 := eq_true q184
      go_wp2
      go_roundg k1
      case measure => have := HK1.out; omega
      case rel => exact ⟨(wrap64 (x3_1 + (rd l0 x8_1))), (wrap64 (x8_1 + 1)), (by first | rfl | (simp; done) | (simp [*]; done)), (by first | rfl | (simp; done) | (simp [*]; done)), H', ⟨by have := HK1.out; omega⟩, by repeat (first | exact Drawn0.refl _ | apply Drawn0.step)⟩
     ·rw [if_neg c4] at H
      exact absurd H (by simp)
    ·rw [if_neg c3] at H
     exact absurd H (by simp)
   ·rw [if_neg c2] at H
    have c2b0 : decide (x8_1 < (l0.length : Int)) = false := decide_eq_false c2
    clear c2
    obtain rfl := Option.some.inj H
    go_wp2
    go_ret
    exact ⟨by first | rfl | (simp; done) | (simp [*]; done), by repeat (first | exact Drawn0.refl _ | apply Drawn0.step)⟩
end Go.Proofs.Ytnbnalbomflafaa.GQ
