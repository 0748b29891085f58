/-
  Texts of the seat, merged (part 4).
-/
import Derived.Test.YtnbnalbomflafaaProg
import Derived.Below
import Derived.Deep.Draws
import Derived.Deep.AppendLies
import Derived.Maps.AppendAt
import Derived.OwnWalk
import Derived.Laws.BytesArg
import Derived.Laws.MakeOwn
import Derived.Laws.OwnMore
import Derived.Deep.OwnRows
import Derived.Tactics
import Derived.Lib.ConvBytes
import Derived.Laws.Slices
import Derived.WalkKit
import Derived.KernelRfl
import Derived.RowKit3
import Derived.Deep.LoopGhost
import Derived.Deep.QuietTactic
import Derived.BigQuiet
import Derived.WideLaws
import Derived.Deep.DeepCutAuto
import Derived.Deep.CutBlock
import Derived.Deep.RegionHeld3
import Derived.Laws.Rows
import Derived.Lib.AppendStr
import Derived.ArgAppend
import Derived.Laws.IdiomCopy
import Derived.OrdersHeld
import Derived.Laws.BitsLemmas
import Derived.RowKit
import Derived.Test.YtnbnalbomflafaaX9WWords
import Derived.Test.YtnbnalbomflafaaX9WLast
import Derived.Test.YtnbnalbomflafaaX9WTab
import Derived.Test.YtnbnalbomflafaaX9WFour
import Derived.Test.YtnbnalbomflafaaX9WQPut
import Derived.Test.YtnbnalbomflafaaX9WApart
import Derived.Test.YtnbnalbomflafaaX9WArr
import Derived.Test.YtnbnalbomflafaaX9WZeros
import Derived.Test.YtnbnalbomflafaaX9WFoot
import Derived.Test.YtnbnalbomflafaaX9WKept
import Derived.Test.YtnbnalbomflafaaX9WShare
import Derived.Test.YtnbnalbomflafaaX9WN
import Derived.Test.YtnbnalbomflafaaX9WFootNe
import Derived.Test.YtnbnalbomflafaaX9WAt
import Derived.Test.YtnbnalbomflafaaX9WEqStruct
import Derived.Test.YtnbnalbomflafaaX9WRepsOne
import Derived.Test.YtnbnalbomflafaaX9WInv
import Derived.Test.YtnbnalbomflafaaX9WInvWords
import Derived.Test.YtnbnalbomflafaaX9WGuard
import Derived.Test.YtnbnalbomflafaaX9WNEv
import Derived.Test.YtnbnalbomflafaaX9WMore
import Derived.Test.YtnbnalbomflafaaX93
/-! ## HB1 -/
namespace Go.Proofs.Ytnbnalbomflafaa.HB
open Go.RowKit Go.Proofs.YtnbnalbomflafaaW.PrintWords Go.Proofs.YtnbnalbomflafaaW.PrintLast Go.Proofs.YtnbnalbomflafaaW.PrintMore
open Go.Proofs.Ytnbnalbomflafaa.GA Go.Proofs.Ytnbnalbomflafaa.GB Go.Proofs.Ytnbnalbomflafaa.KA
attribute [local go_sem] max2_int min2_int max_two min_two max_three min_three max_four min_four   -- for this text's walks alone
set_option linter.unusedVariables false
set_option linter.unusedSimpArgs false
mutual
def impl_Graph_lengths.l0 : Nat → List Int → List Int → List (List Int) → Option (List Int)
  | 0, _, _, _ => none
  | k + 1, x5, x6, x176000 => if (x6.length : Int) > 0 then (if 0 < (x6.length : Int) then (if 0 ≤ (rd x6 0) then (if (rd x6 0) < (x176000.length : Int) then (impl_Graph_lengths.l1 k x5 x6 (rd_L1 x176000 (rd x6 0)) ((rd_L1 x176000 (rd x6 0)).length : Int) 0 x176000) else (none)) else (none)) else (none)) else (some x5)
def impl_Graph_lengths.l1 : Nat → List Int → List Int → List Int → Int → Int → List (List Int) → Option (List Int)
  | 0, _, _, _, _, _, _ => none
  | k + 1, x5, x6, x30, x31, x32, x176000 => if x32 < x31 then (if 0 ≤ x32 then (if x32 < (x30.length : Int) then (if 0 ≤ (rd x30 x32) then (if (rd x30 x32) < (x5.length : Int) then (if (rd x5 (rd x30 x32)) < 0 then (if 0 < (x6.length : Int) then (if 0 ≤ (rd x6 0) then (if (rd x6 0) < (x5.length : Int) then (if x6.length < 17592186044416 then (impl_Graph_lengths.l1 k (x5.set ((rd x30 x32) : Int).toNat (wrap64 ((rd x5 (rd x6 0)) + 1))) (x6 ++ [rd x30 x32]) x30 x31 (wrap64 (x32 + 1)) x176000) else (none)) else (none)) else (none)) else (none)) else (impl_Graph_lengths.l1 k x5 x6 x30 x31 (wrap64 (x32 + 1)) x176000)) else (none)) else (none)) else (none)) else (none)) else (if 1 ≤ (x6.length : Int) then (impl_Graph_lengths.l0 k x5 (x6.drop (1 : Int).toNat) x176000) else (none))
end
def impl_Graph_lengths.f (k : Nat) (l0_0 : List (List Int)) (a1 : Int) : Option (List Int) := (slices_Repeat_int_int.f (([(-1)] : List Int)) (l0_0.length : Int)).bind fun t179 => (if 0 ≤ a1 then (if a1 < (t179.length : Int) then (impl_Graph_lengths.l0 k (t179.set (a1 : Int).toNat 0) (([a1] : List Int)) l0_0) else (none)) else (none))
theorem impl_Graph_lengths.mono_l : ∀ k, (∀ y0 y1 y2, LeO (impl_Graph_lengths.l0 k y0 y1 y2) (impl_Graph_lengths.l0 (k + 1) y0 y1 y2)) ∧ (∀ y0 y1 y2 y3 y4 y5, LeO (impl_Graph_lengths.l1 k y0 y1 y2 y3 y4 y5) (impl_Graph_lengths.l1 (k + 1) y0 y1 y2 y3 y4 y5))
  | 0 => ⟨fun _ _ _ r h => by simp [impl_Graph_lengths.l0] at h, fun _ _ _ _ _ _ r h => by simp [impl_Graph_lengths.l1] at h⟩
  | k + 1 => by
    obtain ⟨ih0, ih1⟩ := impl_Graph_lengths.mono_l k
    refine ⟨?_, ?_⟩
    · intro y0 y1 y2
      unfold impl_Graph_lengths.l0
      repeat' first
      | (with_reducible exact ih0 _ _ _)
      | (with_reducible exact ih1 _ _ _ _ _ _)
      | (with_reducible exact LeO.refl _)
      | (with_reducible exact LeO.none _)
      | (with_reducible refine LeO.ite ?_ ?_)
      | (with_reducible refine LeO.bind ?_ (fun _ => ?_))
      | exact ih0 _ _ _
      | exact ih1 _ _ _ _ _ _
      | exact LeO.none _
      | refine LeO.ite ?_ ?_
      | refine LeO.bind ?_ (fun _ => ?_)
    · intro y0 y1 y2 y3 y4 y5
      unfold impl_Graph_lengths.l1
      repeat' first
      | (with_reducible exact ih0 _ _ _)
      | (with_reducible exact ih1 _ _ _ _ _ _)
      | (with_reducible exact LeO.refl _)
      | (with_reducible exact LeO.none _)
      | (with_reducible refine LeO.ite ?_ ?_)
      | (with_reducible refine LeO.bind ?_ (fun _ => ?_))
      | exact ih0 _ _ _
      | exact ih1 _ _ _ _ _ _
      | exact LeO.none _
      | refine LeO.ite ?_ ?_
      | refine LeO.bind ?_ (fun _ => ?_)
theorem impl_Graph_lengths.mono : ∀ a0 a1 k, LeO (impl_Graph_lengths.f k a0 a1) (impl_Graph_lengths.f (k + 1) a0 a1) := by
  intro a0 a1 k
  obtain ⟨ih0, ih1⟩ := impl_Graph_lengths.mono_l k
  unfold impl_Graph_lengths.f
  repeat' first
      | (with_reducible exact ih0 _ _ _)
      | (with_reducible exact ih1 _ _ _ _ _ _)
      | (with_reducible exact LeO.refl _)
      | (with_reducible exact LeO.none _)
      | (with_reducible refine LeO.ite ?_ ?_)
      | (with_reducible refine LeO.bind ?_ (fun _ => ?_))
      | exact ih0 _ _ _
      | exact ih1 _ _ _ _ _ _
      | exact LeO.none _
      | refine LeO.ite ?_ ?_
      | refine LeO.bind ?_ (fun _ => ?_)
set_option maxHeartbeats 8000000 in
set_option maxRecDepth 100000 in
theorem impl_Graph_lengths.calls (k : Nat) (A0_0 : Option Addr) (c0_0 : Nat) (l0_0 : List (List Int)) (a1 : Int) (r : List Int) (w : World) (hr0_0 : Kd.C (Kd.slice 3 (Kd.int .i64)) w A0_0 l0_0.length l0_0) (hc0_0 : l0_0.length ≤ c0_0) (h : impl_Graph_lengths.f k l0_0 a1 = some r) :
    Calls Try.prog 112 #[.agg #[.slice A0_0 l0_0.length c0_0], .int .i64 a1] w fun e w' => ∃ v0_ : Value, e = .returned (v0_) ∧ Kd.R (Kd.int .i64) 3 w' w.heap.size (fun _ => True) v0_ r ∧ Below w.heap.size w w' := by
  have hu30 := Try.underlying30
  have HR0_0 := Aside0.mk hr0_0
  have HC0_0 := Aside0.mk hc0_0
  clear hr0_0 hc0_0
  have HB := Aside0.mk (Below.refl w.heap.size w)
  have H : ((slices_Repeat_int_int.f (([(-1)] : List Int)) (l0_0.length : Int)).bind fun t179 => (if 0 ≤ a1 then (if a1 < (t179.length : Int) then (impl_Graph_lengths.l0 k (t179.set (a1 : Int).toNat 0) (([a1] : List Int)) l0_0) else (none)) else (none))) = some r := h
  clear h
  obtain ⟨y176, hy176⟩ : ∃ y_ : List Int, y_ = (([(-1)] : List Int)) := ⟨_, rfl⟩
  replace H : ((slices_Repeat_int_int.f y176 (l0_0.length : Int)).bind fun t179 => (if 0 ≤ a1 then (if a1 < (t179.length : Int) then (impl_Graph_lengths.l0 k (t179.set (a1 : Int).toNat 0) (([a1] : List Int)) l0_0) else (none)) else (none))) = some r := by first | (rw [hy176]; with_reducible exact H) | (have H2_ := (Option.bind_some _ _).symm.trans H; rw [hy176]; with_reducible exact H2_) | (have H2_ := (Option.bind_some _ _).symm.trans H; with_reducible exact H2_) | with_reducible exact H | (rw [hy176]; exact H) | exact H
  have Ny176 := Aside0.mk hy176
  clear hy176
  replace H := Option.bind_eq_some_iff.mp H
  obtain ⟨t179, A30, H⟩ := H
  replace H : (if 0 ≤ a1 then (if a1 < (t179.length : Int) then (impl_Graph_lengths.l0 k (t179.set (a1 : Int).toNat 0) (([a1] : List Int)) l0_0) else (none)) else (none)) = some r := H
  have A3 := Aside0.mk A30
  clear A30
  by_cases c4 : 0 ≤ a1
  · rw [if_pos c4] at H
    have c4b0 : decide (0 ≤ a1) = true := decide_eq_true c4
    clear c4
    by_cases c5 : a1 < (t179.length : Int)
    · rw [if_pos c5] at H
      have c5b0 : decide (a1 < (t179.length : Int)) = true := decide_eq_true c5
      clear c5
      obtain ⟨y182, hy182⟩ : ∃ y_ : List Int, y_ = (t179.set (a1 : Int).toNat 0) := ⟨_, rfl⟩
      replace H : (impl_Graph_lengths.l0 k y182 (([a1] : List Int)) l0_0) = some r := by first | (rw [hy182]; with_reducible exact H) | (have H2_ := (Option.bind_some _ _).symm.trans H; rw [hy182]; with_reducible exact H2_) | (have H2_ := (Option.bind_some _ _).symm.trans H; with_reducible exact H2_) | with_reducible exact H | (rw [hy182]; exact H) | exact H
      have Ny182 := Aside0.mk hy182
      clear hy182
      obtain ⟨y183, hy183⟩ : ∃ y_ : List Int, y_ = (([a1] : List Int)) := ⟨_, rfl⟩
      replace H : (impl_Graph_lengths.l0 k y182 y183 l0_0) = some r := by first | (rw [hy183]; with_reducible exact H) | (have H2_ := (Option.bind_some _ _).symm.trans H; rw [hy183]; with_reducible exact H2_) | (have H2_ := (Option.bind_some _ _).symm.trans H; with_reducible exact H2_) | with_reducible exact H | (rw [hy183]; exact H) | exact H
      have Ny183 := Aside0.mk hy183
      clear hy183
      have H' := Aside0.mk H
      clear H
      go_enter Try.func112, Try.ntmps112
      go_wp2_with (first | ((with_reducible refine gate_dst (N := 2) rfl ?_); refine box_event ?hg (N := 2) ?hd (cs := #[.slice A0_0 l0_0.length c0_0]) (t := 30) ?hr ?_; (case hd => rfl); (case hg => rfl); (case hr => first | (go_simp; done) | (go_simp; rfl)); intro gb175 hg w7 hbox hb; have n0_ := Aside0.mk (below_step (by repeat (first | (with_reducible first | exact HB.out | apply below_alloc | apply pw_below_drewN | apply below_drew1) | exact HB.out)) hb); have n1_ := Aside0.mk (hbox); have n2_ := Aside0.mk ((by rw [hg]; exact (below_size (by repeat (first | (with_reducible first | exact HB.out | apply below_alloc | apply pw_below_drewN | apply below_drew1) | exact HB.out))) : w.heap.size ≤ gb175)); have n3_ := Aside0.mk ((by rw [hg]; exact (below_size (by repeat (first | (with_reducible first | exact HB.out | apply below_alloc | apply pw_below_drewN | apply below_drew1) | exact HB.out))) : w.heap.size ≤ gb175)); clear HB; have HB := n0_; have BK175 := n1_; have GW175 := n2_; have GE175 := n3_; clear n0_ n1_ n2_ n3_; clear hb hbox hg) | ((with_reducible refine gate_dst (N := 9) rfl ?_); refine Kd.R_lit (Kd.int .i64) _ 3 ?hg (N := 9) ?hd (xs := ([(-1)] : List Int)) (inner := [.int .i64 (-1)]) (ok := fun _ => True) (okp := fun _ => True) ?hr ?hp (fun _ hk => hk) trivial (Below.refl _ _) (Nat.le_refl _) (by simp) ?_; (case hd => rfl); (case hg => rfl); (case hr => first | (go_simp; done) | (go_simp; rfl)); (case hp => exact (Reps.one (show Kd.M (Kd.int .i64) _ _ _ (-1) [.int .i64 (-1)] from rfl) (Reps.none _ _))); intro v177 w8 ho9 hb hg_ hnew_; clear hg_ hnew_; (first | rw [← Ny176.out] at ho9 | (simp only [Int.reduceToNat] at ho9; rw [← Ny176.out] at ho9)); have n0_ := Aside0.mk (Kd.R_lower ho9 (below_size (by repeat (first | (with_reducible first | exact HB.out | apply below_alloc | apply pw_below_drewN | apply below_drew1 | refine below_set ?_ GE175.out) | exact HB.out)))); have n1_ := Aside0.mk (blk_below (g := gb175) (o := .cells #[.slice A0_0 l0_0.length c0_0] 30 (0, 0)) (by (with_reducible repeat (first | refine blk_drewN ?_ _ | refine blk_drew ?_ | refine blk_alloc ?_ _)); exact BK175.out) hb); have n2_ := Aside0.mk (below_step (by repeat (first | (with_reducible first | exact HB.out | apply below_alloc | apply pw_below_drewN | apply below_drew1 | refine below_set ?_ GE175.out) | exact HB.out)) hb); clear BK175; clear HB; have HO178 := n0_; have BK175 := n1_; have HB := n2_; clear n0_ n1_ n2_; clear hb ho9; have hcz10_0 : w8.cell? ⟨gb175, 0, none⟩ = some (.slice A0_0 l0_0.length c0_0) := (blk_cell BK175.out 0).trans rfl; have hfz10_0 := blk_frozen BK175.out 0; obtain ⟨Ao11, co11, eo11⟩ := Kd.R_slice HO178.out; subst eo11) | (go_at_call 128; (with_reducible refine (slices_Repeat_int_int.calls _ _ y176 (l0_0.length : Int) t179 _ ?side1 ?side2 A3.out).mono ?_); (case side1 => repeat (first | exact (Kd.R_reads' HO178.out).2.2 | (with_reducible refine Kd.C_alloc ?_ _) | (with_reducible refine Kd.C_drewN ?_ _) | (with_reducible refine Kd.C_drew ?_))); (case side2 => exact (Kd.R_reads' HO178.out).2.1); rintro e w12 ⟨v180, rfl, ho0, hb⟩; have n0_ := Aside0.mk (Kd.R_elder' (by (with_reducible repeat (first | apply Kd.R_alloc | apply Kd.R_drewN | apply Kd.R_drew)); exact HO178.out) (Kd.R_base ho0) hb); have n1_ := Aside0.mk (Kd.R_lower (Kd.R_new' ho0 (Kd.R_lt (by (with_reducible repeat (first | apply Kd.R_alloc | apply Kd.R_drewN | apply Kd.R_drew)); exact HO178.out))) (below_size (by repeat (first | (with_reducible first | exact HB.out | apply below_alloc | apply pw_below_drewN | apply below_drew1 | refine below_set ?_ GE175.out) | exact HB.out)))); have n2_ := Aside0.mk (blk_below (g := gb175) (o := .cells #[.slice A0_0 l0_0.length c0_0] 30 (0, 0)) (by (with_reducible repeat (first | refine blk_drewN ?_ _ | refine blk_drew ?_ | refine blk_alloc ?_ _)); exact BK175.out) hb); have n3_ := Aside0.mk (below_step (by repeat (first | (with_reducible first | exact HB.out | apply below_alloc | apply pw_below_drewN | apply below_drew1 | refine below_set ?_ GE175.out) | exact HB.out)) hb); clear HO178; clear BK175; clear HB; have HO178 := n0_; have HO181 := n1_; have BK175 := n2_; have HB := n3_; clear n0_ n1_ n2_ n3_; (try clear hb); (try clear hb2); (try clear hk); (try clear hi); (try clear ho0); have p6 : 0 ≤ (a1 : Int) := of_decide_eq_true (by first | (with_reducible assumption) | assumption); have q6 : (a1 : Int) < ((t179.length : Int) : Int) := of_decide_eq_true (by first | (with_reducible assumption) | assumption); obtain ⟨go6, co6, eo6, gb6, gl6, cl6, HG6⟩ := Kd.R_form HO181.out (by omega); (first | cases eo6 | (injection eo6 with ea_ en_ ec_; (first | subst ea_ | (injection ea_ with ea_; subst ea_)); subst ec_; clear en_)); have GB6 := Aside0.mk gb6; have GG6 := Aside0.mk HG6; clear gb6 gl6 HG6; obtain ⟨hx6_0, hf6_0⟩ := Kd.R_celln 0 HO181.out (a1 : Int) p6 q6; replace p6 := eq_true p6; replace q6 := eq_true q6; have n_ := Aside0.mk (Kd.R_mono (ok' := (fun k_ => some k_ ≠ (.slice Ao11 y176.length co11 : Value).ownBlock)) HO181.out (fun k_ hk => hk.2)); clear HO181; have HO181 := n_; clear n_; obtain ⟨hy13_, hz13_⟩ := Kd.R_celln 0 HO181.out (a1 : Int) (of_decide_eq_true (by first | (with_reducible assumption) | assumption)) (of_decide_eq_true (by first | (with_reducible assumption) | assumption)); have HP13 := Kd.R_putg HO181.out (a1 : Int) 0) | ((with_reducible refine gate_store (t := 3) (p := 16) rfl ?_); (try (rw [drewN_self w12]; generalize hq_ : World.drewN w12 _ = w12; have n0_ := Aside0.mk (Kd.R_at hq_ HO178.out); have n1_ := Aside0.mk (Kd.R_at hq_ HO181.out); have n2_ := Aside0.mk (blk_at hq_ BK175.out); have n3_ := Aside0.mk (below_at hq_ HB.out); clear hq_ HO178 HO181 BK175 HB; have HO178 := n0_; have HO181 := n1_; have BK175 := n2_; have HB := n3_; clear n0_ n1_ n2_ n3_; (try (have n_ := Aside0.mk (Kd.R_mono (ok' := (fun k_ => some k_ ≠ (.slice Ao11 y176.length co11 : Value).ownBlock)) HO181.out (fun k_ hk => hk.2)); clear HO181; have HO181 := n_; clear n_)); (try (obtain ⟨hy13_, hz13_⟩ := Kd.R_celln 0 HO181.out (a1 : Int) (of_decide_eq_true (by first | (with_reducible assumption) | assumption)) (of_decide_eq_true (by first | (with_reducible assumption) | assumption)))); (try (have HP13 := Kd.R_putg HO181.out (a1 : Int) 0)))); refine store_event (t := 3) (p := 16) (v := ?vo_w14) (w1 := (w12.setCell ⟨go6, (a1 : Int).toNat, none⟩ (.int .i64 0))) ?hg ?ho ?hn ?hr ?_; (case ho => rfl); (case hg => rfl); (case hn => rfl); (case hr => first | (go_simp; done) | (go_simp; rfl)); intro w14 hw; have hg : w12.grownBy w14 (some go6) := (by rw [hw]; exact HP13.2); have hp_ : Kd.R (Kd.int .i64) 3 w14 w.heap.size (fun k_ => some k_ ≠ (.slice Ao11 y176.length co11 : Value).ownBlock) (.slice (some ⟨go6, 0, none⟩) t179.length co6) y182 := (by rw [hw, Ny182.out]; exact HP13.1); clear HP13; have n0_ := Aside0.mk (blk_grown (g := gb175) (o := .cells #[.slice A0_0 l0_0.length c0_0] 30 (0, 0)) (by (with_reducible repeat (first | refine blk_drewN ?_ _ | refine blk_drew ?_ | refine blk_alloc ?_ _)); exact BK175.out) hg (Kd.R_ne HO181.out BK175.out (by decide))); have n1_ := Aside0.mk (Kd.R_after (v := (.slice (some ⟨go6, 0, none⟩) t179.length co6)) (v1 := (.slice (some ⟨go6, 0, none⟩) t179.length co6)) (ok := (fun _ => True)) (by (with_reducible repeat (first | apply Kd.R_alloc | apply Kd.R_drewN | apply Kd.R_drew)); exact HO178.out) hg (.inl rfl)); have n2_ := Aside0.mk (hp_); have n3_ := Aside0.mk ((by rw [hw]; exact below_set (HB.out) GB6.out : Below w.heap.size w w14)); clear BK175; clear HO178; clear HO181; clear HB; have BK175 := n0_; have HO178 := n1_; have HO181 := n2_; have HB := n3_; clear n0_ n1_ n2_ n3_; clear hg hw hp_) | ((with_reducible refine gate_dst (N := 18) rfl ?_); refine Kd.R_lit (Kd.int .i64) _ 3 ?hg (N := 18) ?hd (xs := ([a1] : List Int)) (inner := [.int .i64 a1]) (ok := fun _ => True) (okp := fun _ => True) ?hr ?hp (fun _ hk => hk) trivial (Below.refl _ _) (Nat.le_refl _) (by simp) ?_; (case hd => rfl); (case hg => rfl); (case hr => first | (go_simp; done) | (go_simp; rfl)); (case hp => exact (Reps.one (show Kd.M (Kd.int .i64) _ _ _ a1 [.int .i64 a1] from rfl) (Reps.none _ _))); intro v184 w15 ho16 hb hg_ hnew_; clear hg_ hnew_; (first | rw [← Ny183.out] at ho16 | (simp only [Int.reduceToNat] at ho16; rw [← Ny183.out] at ho16)); have n0_ := Aside0.mk (Kd.R_elder' (by (with_reducible repeat (first | apply Kd.R_alloc | apply Kd.R_drewN | apply Kd.R_drew)); exact HO178.out) (Kd.R_base ho16) hb); have n1_ := Aside0.mk (Kd.R_elder' (by (with_reducible repeat (first | apply Kd.R_alloc | apply Kd.R_drewN | apply Kd.R_drew)); exact HO181.out) (Kd.R_base ho16) hb); have n2_ := Aside0.mk (Kd.R_lower (Kd.R_new' (Kd.R_new' ho16 (Kd.R_lt (by (with_reducible repeat (first | apply Kd.R_alloc | apply Kd.R_drewN | apply Kd.R_drew)); exact HO178.out))) (Kd.R_lt (by (with_reducible repeat (first | apply Kd.R_alloc | apply Kd.R_drewN | apply Kd.R_drew)); exact HO181.out))) (below_size (by repeat (first | (with_reducible first | exact HB.out | apply below_alloc | apply pw_below_drewN | apply below_drew1 | refine below_set ?_ GE175.out) | exact HB.out)))); have n3_ := Aside0.mk (blk_below (g := gb175) (o := .cells #[.slice A0_0 l0_0.length c0_0] 30 (0, 0)) (by (with_reducible repeat (first | refine blk_drewN ?_ _ | refine blk_drew ?_ | refine blk_alloc ?_ _)); exact BK175.out) hb); have n4_ := Aside0.mk (below_step (by repeat (first | (with_reducible first | exact HB.out | apply below_alloc | apply pw_below_drewN | apply below_drew1 | refine below_set ?_ GE175.out) | exact HB.out)) hb); clear HO178; clear HO181; clear BK175; clear HB; have HO178 := n0_; have HO181 := n1_; have HO185 := n2_; have BK175 := n3_; have HB := n4_; clear n0_ n1_ n2_ n3_ n4_; clear hb ho16))
      repeat (go_quiet (first | ((with_reducible refine gate_dst (N := 2) rfl ?_); refine box_event ?hg (N := 2) ?hd (cs := #[.slice A0_0 l0_0.length c0_0]) (t := 30) ?hr ?_; (case hd => rfl); (case hg => rfl); (case hr => first | (go_simp; done) | (go_simp; rfl)); intro gb175 hg w7 hbox hb; have n0_ := Aside0.mk (below_step (by repeat (first | (with_reducible first | exact HB.out | apply below_alloc | apply pw_below_drewN | apply below_drew1) | exact HB.out)) hb); have n1_ := Aside0.mk (hbox); have n2_ := Aside0.mk ((by rw [hg]; exact (below_size (by repeat (first | (with_reducible first | exact HB.out | apply below_alloc | apply pw_below_drewN | apply below_drew1) | exact HB.out))) : w.heap.size ≤ gb175)); have n3_ := Aside0.mk ((by rw [hg]; exact (below_size (by repeat (first | (with_reducible first | exact HB.out | apply below_alloc | apply pw_below_drewN | apply below_drew1) | exact HB.out))) : w.heap.size ≤ gb175)); clear HB; have HB := n0_; have BK175 := n1_; have GW175 := n2_; have GE175 := n3_; clear n0_ n1_ n2_ n3_; clear hb hbox hg) | ((with_reducible refine gate_dst (N := 9) rfl ?_); refine Kd.R_lit (Kd.int .i64) _ 3 ?hg (N := 9) ?hd (xs := ([(-1)] : List Int)) (inner := [.int .i64 (-1)]) (ok := fun _ => True) (okp := fun _ => True) ?hr ?hp (fun _ hk => hk) trivial (Below.refl _ _) (Nat.le_refl _) (by simp) ?_; (case hd => rfl); (case hg => rfl); (case hr => first | (go_simp; done) | (go_simp; rfl)); (case hp => exact (Reps.one (show Kd.M (Kd.int .i64) _ _ _ (-1) [.int .i64 (-1)] from rfl) (Reps.none _ _))); intro v177 w8 ho9 hb hg_ hnew_; clear hg_ hnew_; (first | rw [← Ny176.out] at ho9 | (simp only [Int.reduceToNat] at ho9; rw [← Ny176.out] at ho9)); have n0_ := Aside0.mk (Kd.R_lower ho9 (below_size (by repeat (first | (with_reducible first | exact HB.out | apply below_alloc | apply pw_below_drewN | apply below_drew1 | refine below_set ?_ GE175.out) | exact HB.out)))); have n1_ := Aside0.mk (blk_below (g := gb175) (o := .cells #[.slice A0_0 l0_0.length c0_0] 30 (0, 0)) (by (with_reducible repeat (first | refine blk_drewN ?_ _ | refine blk_drew ?_ | refine blk_alloc ?_ _)); exact BK175.out) hb); have n2_ := Aside0.mk (below_step (by repeat (first | (with_reducible first | exact HB.out | apply below_alloc | apply pw_below_drewN | apply below_drew1 | refine below_set ?_ GE175.out) | exact HB.out)) hb); clear BK175; clear HB; have HO178 := n0_; have BK175 := n1_; have HB := n2_; clear n0_ n1_ n2_; clear hb ho9; have hcz10_0 : w8.cell? ⟨gb175, 0, none⟩ = some (.slice A0_0 l0_0.length c0_0) := (blk_cell BK175.out 0).trans rfl; have hfz10_0 := blk_frozen BK175.out 0; obtain ⟨Ao11, co11, eo11⟩ := Kd.R_slice HO178.out; subst eo11) | (go_at_call 128; (with_reducible refine (slices_Repeat_int_int.calls _ _ y176 (l0_0.length : Int) t179 _ ?side1 ?side2 A3.out).mono ?_); (case side1 => repeat (first | exact (Kd.R_reads' HO178.out).2.2 | (with_reducible refine Kd.C_alloc ?_ _) | (with_reducible refine Kd.C_drewN ?_ _) | (with_reducible refine Kd.C_drew ?_))); (case side2 => exact (Kd.R_reads' HO178.out).2.1); rintro e w12 ⟨v180, rfl, ho0, hb⟩; have n0_ := Aside0.mk (Kd.R_elder' (by (with_reducible repeat (first | apply Kd.R_alloc | apply Kd.R_drewN | apply Kd.R_drew)); exact HO178.out) (Kd.R_base ho0) hb); have n1_ := Aside0.mk (Kd.R_lower (Kd.R_new' ho0 (Kd.R_lt (by (with_reducible repeat (first | apply Kd.R_alloc | apply Kd.R_drewN | apply Kd.R_drew)); exact HO178.out))) (below_size (by repeat (first | (with_reducible first | exact HB.out | apply below_alloc | apply pw_below_drewN | apply below_drew1 | refine below_set ?_ GE175.out) | exact HB.out)))); have n2_ := Aside0.mk (blk_below (g := gb175) (o := .cells #[.slice A0_0 l0_0.length c0_0] 30 (0, 0)) (by (with_reducible repeat (first | refine blk_drewN ?_ _ | refine blk_drew ?_ | refine blk_alloc ?_ _)); exact BK175.out) hb); have n3_ := Aside0.mk (below_step (by repeat (first | (with_reducible first | exact HB.out | apply below_alloc | apply pw_below_drewN | apply below_drew1 | refine below_set ?_ GE175.out) | exact HB.out)) hb); clear HO178; clear BK175; clear HB; have HO178 := n0_; have HO181 := n1_; have BK175 := n2_; have HB := n3_; clear n0_ n1_ n2_ n3_; (try clear hb); (try clear hb2); (try clear hk); (try clear hi); (try clear ho0); have p6 : 0 ≤ (a1 : Int) := of_decide_eq_true (by first | (with_reducible assumption) | assumption); have q6 : (a1 : Int) < ((t179.length : Int) : Int) := of_decide_eq_true (by first | (with_reducible assumption) | assumption); obtain ⟨go6, co6, eo6, gb6, gl6, cl6, HG6⟩ := Kd.R_form HO181.out (by omega); (first | cases eo6 | (injection eo6 with ea_ en_ ec_; (first | subst ea_ | (injection ea_ with ea_; subst ea_)); subst ec_; clear en_)); have GB6 := Aside0.mk gb6; have GG6 := Aside0.mk HG6; clear gb6 gl6 HG6; obtain ⟨hx6_0, hf6_0⟩ := Kd.R_celln 0 HO181.out (a1 : Int) p6 q6; replace p6 := eq_true p6; replace q6 := eq_true q6; have n_ := Aside0.mk (Kd.R_mono (ok' := (fun k_ => some k_ ≠ (.slice Ao11 y176.length co11 : Value).ownBlock)) HO181.out (fun k_ hk => hk.2)); clear HO181; have HO181 := n_; clear n_; obtain ⟨hy13_, hz13_⟩ := Kd.R_celln 0 HO181.out (a1 : Int) (of_decide_eq_true (by first | (with_reducible assumption) | assumption)) (of_decide_eq_true (by first | (with_reducible assumption) | assumption)); have HP13 := Kd.R_putg HO181.out (a1 : Int) 0) | ((with_reducible refine gate_store (t := 3) (p := 16) rfl ?_); (try (rw [drewN_self w12]; generalize hq_ : World.drewN w12 _ = w12; have n0_ := Aside0.mk (Kd.R_at hq_ HO178.out); have n1_ := Aside0.mk (Kd.R_at hq_ HO181.out); have n2_ := Aside0.mk (blk_at hq_ BK175.out); have n3_ := Aside0.mk (below_at hq_ HB.out); clear hq_ HO178 HO181 BK175 HB; have HO178 := n0_; have HO181 := n1_; have BK175 := n2_; have HB := n3_; clear n0_ n1_ n2_ n3_; (try (have n_ := Aside0.mk (Kd.R_mono (ok' := (fun k_ => some k_ ≠ (.slice Ao11 y176.length co11 : Value).ownBlock)) HO181.out (fun k_ hk => hk.2)); clear HO181; have HO181 := n_; clear n_)); (try (obtain ⟨hy13_, hz13_⟩ := Kd.R_celln 0 HO181.out (a1 : Int) (of_decide_eq_true (by first | (with_reducible assumption) | assumption)) (of_decide_eq_true (by first | (with_reducible assumption) | assumption)))); (try (have HP13 := Kd.R_putg HO181.out (a1 : Int) 0)))); refine store_event (t := 3) (p := 16) (v := ?vo_w14) (w1 := (w12.setCell ⟨go6, (a1 : Int).toNat, none⟩ (.int .i64 0))) ?hg ?ho ?hn ?hr ?_; (case ho => rfl); (case hg => rfl); (case hn => rfl); (case hr => first | (go_simp; done) | (go_simp; rfl)); intro w14 hw; have hg : w12.grownBy w14 (some go6) := (by rw [hw]; exact HP13.2); have hp_ : Kd.R (Kd.int .i64) 3 w14 w.heap.size (fun k_ => some k_ ≠ (.slice Ao11 y176.length co11 : Value).ownBlock) (.slice (some ⟨go6, 0, none⟩) t179.length co6) y182 := (by rw [hw, Ny182.out]; exact HP13.1); clear HP13; have n0_ := Aside0.mk (blk_grown (g := gb175) (o := .cells #[.slice A0_0 l0_0.length c0_0] 30 (0, 0)) (by (with_reducible repeat (first | refine blk_drewN ?_ _ | refine blk_drew ?_ | refine blk_alloc ?_ _)); exact BK175.out) hg (Kd.R_ne HO181.out BK175.out (by decide))); have n1_ := Aside0.mk (Kd.R_after (v := (.slice (some ⟨go6, 0, none⟩) t179.length co6)) (v1 := (.slice (some ⟨go6, 0, none⟩) t179.length co6)) (ok := (fun _ => True)) (by (with_reducible repeat (first | apply Kd.R_alloc | apply Kd.R_drewN | apply Kd.R_drew)); exact HO178.out) hg (.inl rfl)); have n2_ := Aside0.mk (hp_); have n3_ := Aside0.mk ((by rw [hw]; exact below_set (HB.out) GB6.out : Below w.heap.size w w14)); clear BK175; clear HO178; clear HO181; clear HB; have BK175 := n0_; have HO178 := n1_; have HO181 := n2_; have HB := n3_; clear n0_ n1_ n2_ n3_; clear hg hw hp_) | ((with_reducible refine gate_dst (N := 18) rfl ?_); refine Kd.R_lit (Kd.int .i64) _ 3 ?hg (N := 18) ?hd (xs := ([a1] : List Int)) (inner := [.int .i64 a1]) (ok := fun _ => True) (okp := fun _ => True) ?hr ?hp (fun _ hk => hk) trivial (Below.refl _ _) (Nat.le_refl _) (by simp) ?_; (case hd => rfl); (case hg => rfl); (case hr => first | (go_simp; done) | (go_simp; rfl)); (case hp => exact (Reps.one (show Kd.M (Kd.int .i64) _ _ _ a1 [.int .i64 a1] from rfl) (Reps.none _ _))); intro v184 w15 ho16 hb hg_ hnew_; clear hg_ hnew_; (first | rw [← Ny183.out] at ho16 | (simp only [Int.reduceToNat] at ho16; rw [← Ny183.out] at ho16)); have n0_ := Aside0.mk (Kd.R_elder' (by (with_reducible repeat (first | apply Kd.R_alloc | apply Kd.R_drewN | apply Kd.R_drew)); exact HO178.out) (Kd.R_base ho16) hb); have n1_ := Aside0.mk (Kd.R_elder' (by (with_reducible repeat (first | apply Kd.R_alloc | apply Kd.R_drewN | apply Kd.R_drew)); exact HO181.out) (Kd.R_base ho16) hb); have n2_ := Aside0.mk (Kd.R_lower (Kd.R_new' (Kd.R_new' ho16 (Kd.R_lt (by (with_reducible repeat (first | apply Kd.R_alloc | apply Kd.R_drewN | apply Kd.R_drew)); exact HO178.out))) (Kd.R_lt (by (with_reducible repeat (first | apply Kd.R_alloc | apply Kd.R_drewN | apply Kd.R_drew)); exact HO181.out))) (below_size (by repeat (first | (with_reducible first | exact HB.out | apply below_alloc | apply pw_below_drewN | apply below_drew1 | refine below_set ?_ GE175.out) | exact HB.out)))); have n3_ := Aside0.mk (blk_below (g := gb175) (o := .cells #[.slice A0_0 l0_0.length c0_0] 30 (0, 0)) (by (with_reducible repeat (first | refine blk_drewN ?_ _ | refine blk_drew ?_ | refine blk_alloc ?_ _)); exact BK175.out) hb); have n4_ := Aside0.mk (below_step (by repeat (first | (with_reducible first | exact HB.out | apply below_alloc | apply pw_below_drewN | apply below_drew1 | refine below_set ?_ GE175.out) | exact HB.out)) hb); clear HO178; clear HO181; clear BK175; clear HB; have HO178 := n0_; have HO181 := n1_; have HO185 := n2_; have BK175 := n3_; have HB := n4_; clear n0_ n1_ n2_ n3_ n4_; clear hb ho16)); try go_wp2_with (first | ((with_reducible refine gate_dst (N := 2) rfl ?_); refine box_event ?hg (N := 2) ?hd (cs := #[.slice A0_0 l0_0.length c0_0]) (t := 30) ?hr ?_; (case hd => rfl); (case hg => rfl); (case hr => first | (go_simp; done) | (go_simp; rfl)); intro gb175 hg w7 hbox hb; have n0_ := Aside0.mk (below_step (by repeat (first | (with_reducible first | exact HB.out | apply below_alloc | apply pw_below_drewN | apply below_drew1) | exact HB.out)) hb); have n1_ := Aside0.mk (hbox); have n2_ := Aside0.mk ((by rw [hg]; exact (below_size (by repeat (first | (with_reducible first | exact HB.out | apply below_alloc | apply pw_below_drewN | apply below_drew1) | exact HB.out))) : w.heap.size ≤ gb175)); have n3_ := Aside0.mk ((by rw [hg]; exact (below_size (by repeat (first | (with_reducible first | exact HB.out | apply below_alloc | apply pw_below_drewN | apply below_drew1) | exact HB.out))) : w.heap.size ≤ gb175)); clear HB; have HB := n0_; have BK175 := n1_; have GW175 := n2_; have GE175 := n3_; clear n0_ n1_ n2_ n3_; clear hb hbox hg) | ((with_reducible refine gate_dst (N := 9) rfl ?_); refine Kd.R_lit (Kd.int .i64) _ 3 ?hg (N := 9) ?hd (xs := ([(-1)] : List Int)) (inner := [.int .i64 (-1)]) (ok := fun _ => True) (okp := fun _ => True) ?hr ?hp (fun _ hk => hk) trivial (Below.refl _ _) (Nat.le_refl _) (by simp) ?_; (case hd => rfl); (case hg => rfl); (case hr => first | (go_simp; done) | (go_simp; rfl)); (case hp => exact (Reps.one (show Kd.M (Kd.int .i64) _ _ _ (-1) [.int .i64 (-1)] from rfl) (Reps.none _ _))); intro v177 w8 ho9 hb hg_ hnew_; clear hg_ hnew_; (first | rw [← Ny176.out] at ho9 | (simp only [Int.reduceToNat] at ho9; rw [← Ny176.out] at ho9)); have n0_ := Aside0.mk (Kd.R_lower ho9 (below_size (by repeat (first | (with_reducible first | exact HB.out | apply below_alloc | apply pw_below_drewN | apply below_drew1 | refine below_set ?_ GE175.out) | exact HB.out)))); have n1_ := Aside0.mk (blk_below (g := gb175) (o := .cells #[.slice A0_0 l0_0.length c0_0] 30 (0, 0)) (by (with_reducible repeat (first | refine blk_drewN ?_ _ | refine blk_drew ?_ | refine blk_alloc ?_ _)); exact BK175.out) hb); have n2_ := Aside0.mk (below_step (by repeat (first | (with_reducible first | exact HB.out | apply below_alloc | apply pw_below_drewN | apply below_drew1 | refine below_set ?_ GE175.out) | exact HB.out)) hb); clear BK175; clear HB; have HO178 := n0_; have BK175 := n1_; have HB := n2_; clear n0_ n1_ n2_; clear hb ho9; have hcz10_0 : w8.cell? ⟨gb175, 0, none⟩ = some (.slice A0_0 l0_0.length c0_0) := (blk_cell BK175.out 0).trans rfl; have hfz10_0 := blk_frozen BK175.out 0; obtain ⟨Ao11, co11, eo11⟩ := Kd.R_slice HO178.out; subst eo11) | (go_at_call 128; (with_reducible refine (slices_Repeat_int_int.calls _ _ y176 (l0_0.length : Int) t179 _ ?side1 ?side2 A3.out).mono ?_); (case side1 => repeat (first | exact (Kd.R_reads' HO178.out).2.2 | (with_reducible refine Kd.C_alloc ?_ _) | (with_reducible refine Kd.C_drewN ?_ _) | (with_reducible refine Kd.C_drew ?_))); (case side2 => exact (Kd.R_reads' HO178.out).2.1); rintro e w12 ⟨v180, rfl, ho0, hb⟩; have n0_ := Aside0.mk (Kd.R_elder' (by (with_reducible repeat (first | apply Kd.R_alloc | apply Kd.R_drewN | apply Kd.R_drew)); exact HO178.out) (Kd.R_base ho0) hb); have n1_ := Aside0.mk (Kd.R_lower (Kd.R_new' ho0 (Kd.R_lt (by (with_reducible repeat (first | apply Kd.R_alloc | apply Kd.R_drewN | apply Kd.R_drew)); exact HO178.out))) (below_size (by repeat (first | (with_reducible first | exact HB.out | apply below_alloc | apply pw_below_drewN | apply below_drew1 | refine below_set ?_ GE175.out) | exact HB.out)))); have n2_ := Aside0.mk (blk_below (g := gb175) (o := .cells #[.slice A0_0 l0_0.length c0_0] 30 (0, 0)) (by (with_reducible repeat (first | refine blk_drewN ?_ _ | refine blk_drew ?_ | refine blk_alloc ?_ _)); exact BK175.out) hb); have n3_ := Aside0.mk (below_step (by repeat (first | (with_reducible first | exact HB.out | apply below_alloc | apply pw_below_drewN | apply below_drew1 | refine below_set ?_ GE175.out) | exact HB.out)) hb); clear HO178; clear BK175; clear HB; have HO178 := n0_; have HO181 := n1_; have BK175 := n2_; have HB := n3_; clear n0_ n1_ n2_ n3_; (try clear hb); (try clear hb2); (try clear hk); (try clear hi); (try clear ho0); have p6 : 0 ≤ (a1 : Int) := of_decide_eq_true (by first | (with_reducible assumption) | assumption); have q6 : (a1 : Int) < ((t179.length : Int) : Int) := of_decide_eq_true (by first | (with_reducible assumption) | assumption); obtain ⟨go6, co6, eo6, gb6, gl6, cl6, HG6⟩ := Kd.R_form HO181.out (by omega); (first | cases eo6 | (injection eo6 with ea_ en_ ec_; (first | subst ea_ | (injection ea_ with ea_; subst ea_)); subst ec_; clear en_)); have GB6 := Aside0.mk gb6; have GG6 := Aside0.mk HG6; clear gb6 gl6 HG6; obtain ⟨hx6_0, hf6_0⟩ := Kd.R_celln 0 HO181.out (a1 : Int) p6 q6; replace p6 := eq_true p6; replace q6 := eq_true q6; have n_ := Aside0.mk (Kd.R_mono (ok' := (fun k_ => some k_ ≠ (.slice Ao11 y176.length co11 : Value).ownBlock)) HO181.out (fun k_ hk => hk.2)); clear HO181; have HO181 := n_; clear n_; obtain ⟨hy13_, hz13_⟩ := Kd.R_celln 0 HO181.out (a1 : Int) (of_decide_eq_true (by first | (with_reducible assumption) | assumption)) (of_decide_eq_true (by first | (with_reducible assumption) | assumption)); have HP13 := Kd.R_putg HO181.out (a1 : Int) 0) | ((with_reducible refine gate_store (t := 3) (p := 16) rfl ?_); (try (rw [drewN_self w12]; generalize hq_ : World.drewN w12 _ = w12; have n0_ := Aside0.mk (Kd.R_at hq_ HO178.out); have n1_ := Aside0.mk (Kd.R_at hq_ HO181.out); have n2_ := Aside0.mk (blk_at hq_ BK175.out); have n3_ := Aside0.mk (below_at hq_ HB.out); clear hq_ HO178 HO181 BK175 HB; have HO178 := n0_; have HO181 := n1_; have BK175 := n2_; have HB := n3_; clear n0_ n1_ n2_ n3_; (try (have n_ := Aside0.mk (Kd.R_mono (ok' := (fun k_ => some k_ ≠ (.slice Ao11 y176.length co11 : Value).ownBlock)) HO181.out (fun k_ hk => hk.2)); clear HO181; have HO181 := n_; clear n_)); (try (obtain ⟨hy13_, hz13_⟩ := Kd.R_celln 0 HO181.out (a1 : Int) (of_decide_eq_true (by first | (with_reducible assumption) | assumption)) (of_decide_eq_true (by first | (with_reducible assumption) | assumption)))); (try (have HP13 := Kd.R_putg HO181.out (a1 : Int) 0)))); refine store_event (t := 3) (p := 16) (v := ?vo_w14) (w1 := (w12.setCell ⟨go6, (a1 : Int).toNat, none⟩ (.int .i64 0))) ?hg ?ho ?hn ?hr ?_; (case ho => rfl); (case hg => rfl); (case hn => rfl); (case hr => first | (go_simp; done) | (go_simp; rfl)); intro w14 hw; have hg : w12.grownBy w14 (some go6) := (by rw [hw]; exact HP13.2); have hp_ : Kd.R (Kd.int .i64) 3 w14 w.heap.size (fun k_ => some k_ ≠ (.slice Ao11 y176.length co11 : Value).ownBlock) (.slice (some ⟨go6, 0, none⟩) t179.length co6) y182 := (by rw [hw, Ny182.out]; exact HP13.1); clear HP13; have n0_ := Aside0.mk (blk_grown (g := gb175) (o := .cells #[.slice A0_0 l0_0.length c0_0] 30 (0, 0)) (by (with_reducible repeat (first | refine blk_drewN ?_ _ | refine blk_drew ?_ | refine blk_alloc ?_ _)); exact BK175.out) hg (Kd.R_ne HO181.out BK175.out (by decide))); have n1_ := Aside0.mk (Kd.R_after (v := (.slice (some ⟨go6, 0, none⟩) t179.length co6)) (v1 := (.slice (some ⟨go6, 0, none⟩) t179.length co6)) (ok := (fun _ => True)) (by (with_reducible repeat (first | apply Kd.R_alloc | apply Kd.R_drewN | apply Kd.R_drew)); exact HO178.out) hg (.inl rfl)); have n2_ := Aside0.mk (hp_); have n3_ := Aside0.mk ((by rw [hw]; exact below_set (HB.out) GB6.out : Below w.heap.size w w14)); clear BK175; clear HO178; clear HO181; clear HB; have BK175 := n0_; have HO178 := n1_; have HO181 := n2_; have HB := n3_; clear n0_ n1_ n2_ n3_; clear hg hw hp_) | ((with_reducible refine gate_dst (N := 18) rfl ?_); refine Kd.R_lit (Kd.int .i64) _ 3 ?hg (N := 18) ?hd (xs := ([a1] : List Int)) (inner := [.int .i64 a1]) (ok := fun _ => True) (okp := fun _ => True) ?hr ?hp (fun _ hk => hk) trivial (Below.refl _ _) (Nat.le_refl _) (by simp) ?_; (case hd => rfl); (case hg => rfl); (case hr => first | (go_simp; done) | (go_simp; rfl)); (case hp => exact (Reps.one (show Kd.M (Kd.int .i64) _ _ _ a1 [.int .i64 a1] from rfl) (Reps.none _ _))); intro v184 w15 ho16 hb hg_ hnew_; clear hg_ hnew_; (first | rw [← Ny183.out] at ho16 | (simp only [Int.reduceToNat] at ho16; rw [← Ny183.out] at ho16)); have n0_ := Aside0.mk (Kd.R_elder' (by (with_reducible repeat (first | apply Kd.R_alloc | apply Kd.R_drewN | apply Kd.R_drew)); exact HO178.out) (Kd.R_base ho16) hb); have n1_ := Aside0.mk (Kd.R_elder' (by (with_reducible repeat (first | apply Kd.R_alloc | apply Kd.R_drewN | apply Kd.R_drew)); exact HO181.out) (Kd.R_base ho16) hb); have n2_ := Aside0.mk (Kd.R_lower (Kd.R_new' (Kd.R_new' ho16 (Kd.R_lt (by (with_reducible repeat (first | apply Kd.R_alloc | apply Kd.R_drewN | apply Kd.R_drew)); exact HO178.out))) (Kd.R_lt (by (with_reducible repeat (first | apply Kd.R_alloc | apply Kd.R_drewN | apply Kd.R_drew)); exact HO181.out))) (below_size (by repeat (first | (with_reducible first | exact HB.out | apply below_alloc | apply pw_below_drewN | apply below_drew1 | refine below_set ?_ GE175.out) | exact HB.out)))); have n3_ := Aside0.mk (blk_below (g := gb175) (o := .cells #[.slice A0_0 l0_0.length c0_0] 30 (0, 0)) (by (with_reducible repeat (first | refine blk_drewN ?_ _ | refine blk_drew ?_ | refine blk_alloc ?_ _)); exact BK175.out) hb); have n4_ := Aside0.mk (below_step (by repeat (first | (with_reducible first | exact HB.out | apply below_alloc | apply pw_below_drewN | apply below_drew1 | refine below_set ?_ GE175.out) | exact HB.out)) hb); clear HO178; clear HO181; clear BK175; clear HB; have HO178 := n0_; have HO181 := n1_; have HO185 := n2_; have BK175 := n3_; have HB := n4_; clear n0_ n1_ n2_ n3_ n4_; clear hb ho16)))
      go_loopg [6] k (fun kq v6 w' => ∃ (x5_1 : List Int) (x6_1 : List Int), Aside0 (impl_Graph_lengths.l0 kq x5_1 x6_1 l0_0 = some r) ∧ Aside0 (kq ≤ k) ∧ Aside0 (Kd.R (Kd.int .i64) 3 w' w.heap.size (fun k_ => some k_ ≠ (v6 : Value).ownBlock) (.slice (some ⟨go6, 0, none⟩) t179.length co6) x5_1) ∧ Aside0 (Kd.Q (Kd.int .i64) 3 w' w.heap.size (fun k_ => some k_ ≠ ((.slice (some ⟨go6, 0, none⟩) t179.length co6) : Value).ownBlock) v6 x6_1) ∧ Aside0 (w'.heap[gb175]? = some (.cells #[(.slice A0_0 l0_0.length c0_0)] 30 (0, 0))) ∧ Aside0 (Below w.heap.size w w'))
      case atStart => exact ⟨(y182), (y183), H', ⟨Nat.le_refl _⟩, ⟨by (with_reducible repeat (first | apply Kd.R_alloc | apply Kd.R_drewN | apply Kd.R_drew)); exact Kd.R_mono HO181.out (fun _ hk => hk.2)⟩, ⟨Kd.Q_of_R (by (with_reducible repeat (first | apply Kd.R_alloc | apply Kd.R_drewN | apply Kd.R_drew)); exact Kd.R_mono HO185.out (fun _ hk => hk.2))⟩, ⟨by (with_reducible repeat (first | refine blk_drewN ?_ _ | refine blk_drew ?_ | refine blk_alloc ?_ _)); exact BK175.out⟩, ⟨by repeat (first | (with_reducible first | exact HB.out | apply below_alloc | apply pw_below_drewN | apply below_drew1 | refine below_set ?_ GE175.out) | exact HB.out)⟩⟩
      case round =>
        clear H'
        try clear c1
        try clear p2
        try clear c4
        try clear c4b0
        try clear c5
        try clear c5b0
        try clear p6
        try clear q6
        try clear hx6
        try clear hf6
        try clear c11
        try clear hcz10_0
        try clear hfz10_0
        try clear hx6_0
        try clear p6
        try clear q6
        obtain ⟨x5_1, x6_1, HA, HK1, HO_5, HO_6, BK175, HB⟩ := hrel
        have hl5_1 := (Kd.R_reads' HO_5.out).1
        rw [hl5_1] at HO_5
        (try simp only [hl5_1])
        (try simp only [hl5_1] at BK175)
        (try simp only [hl5_1] at HO_6)
        cases gk with
        | zero => exact absurd HA.out (by simp [impl_Graph_lengths.l0])
        | succ k1 =>
          have H := HA.out
          clear HA
          simp only [impl_Graph_lengths.l0] at H
          by_cases c17 : (x6_1.length : Int) > 0
          · rw [if_pos c17] at H
            have c17b0 : decide (0 < (x6_1.length : Int)) = true := decide_eq_true c17
            have c17b1 : decide (0 < x6_1.length) = true := decide_eq_true (by omega)
            clear c17
            by_cases c18 : 0 < (x6_1.length : Int)
            · rw [if_pos c18] at H
              have c18b0 : decide (0 < (x6_1.length : Int)) = true := decide_eq_true c18
              have c18b1 : decide (0 < x6_1.length) = true := decide_eq_true (by omega)
              clear c18
              by_cases c19 : 0 ≤ (rd x6_1 0)
              · rw [if_pos c19] at H
                have c19b0 : decide (0 ≤ (rd x6_1 0)) = true := decide_eq_true c19
                clear c19
                by_cases c20 : (rd x6_1 0) < (l0_0.length : Int)
                · rw [if_pos c20] at H
                  have c20b0 : decide ((rd x6_1 0) < (l0_0.length : Int)) = true := decide_eq_true c20
                  clear c20
                  have H' := Aside0.mk H
                  clear H
                  obtain ⟨Ao21, co21, eo21, _⟩ := Kd.Q_slice HO_6.out
                  subst eo21
                  have hcz22_0 : wr.cell? ⟨gb175, 0, none⟩ = some (.slice A0_0 l0_0.length c0_0) := (blk_cell BK175.out 0).trans rfl
                  have hfz22_0 := blk_frozen BK175.out 0
                  have p186 : 0 ≤ (0 : Int) := (by omega)
                  have q186 : 0 < (x6_1.length : Int) := of_decide_eq_true (by first | (with_reducible assumption) | assumption)
                  obtain ⟨ad186, e186, hx186_0⟩ := Kd.at_int (Kd.Q_reads' HO_6.out).2.2 0 p186 q186
                  cases e186
                  have qi186 : (0 < x6_1.length) = True := eq_true (by omega)
                  (try rw [show ((0 : Int)).toNat = 0 from rfl] at hx186_0)
                  (try rw [Addr.add_zero'] at hx186_0)
                  replace p186 := eq_true p186
                  replace q186 := eq_true q186
                  have p187 : 0 ≤ ((rd x6_1 0) : Int) := of_decide_eq_true (by first | (with_reducible assumption) | assumption)
                  have q187 : (rd x6_1 0) < (l0_0.length : Int) := of_decide_eq_true (by first | (with_reducible assumption) | assumption)
                  obtain ⟨ad187, A187_0, c187_0, e187, hx187_0, hl187_0, hi187_0⟩ := at_L1 HR0_0.out (rd x6_1 0) p187 q187
                  cases e187
                  replace hx187_0 := (HB.out.cell (World.block_lt_of_cell? w _ hx187_0)).trans hx187_0
                  have HR187_0 := Aside0.mk hi187_0
                  have HC187_0 := Aside0.mk hl187_0
                  clear hi187_0 hl187_0
                  replace p187 := eq_true p187
                  replace q187 := eq_true q187
                  go_wp2
                  repeat (go_quiet (fail); try go_wp2)
                  go_loopg [6, 32] k1 (fun kq v6 v32 w' => ∃ (x5_2 : List Int) (x6_2 : List Int) (x32_2 : Int), v32 = .int .i64 x32_2 ∧ Aside0 (impl_Graph_lengths.l1 kq x5_2 x6_2 (rd_L1 l0_0 (rd x6_1 0)) ((rd_L1 l0_0 (rd x6_1 0)).length : Int) x32_2 l0_0 = some r) ∧ Aside0 (kq ≤ k1) ∧ Aside0 (Kd.R (Kd.int .i64) 3 w' w.heap.size (fun k_ => some k_ ≠ (v6 : Value).ownBlock) (.slice (some ⟨go6, 0, none⟩) x5_1.length co6) x5_2) ∧ Aside0 (Kd.Q (Kd.int .i64) 3 w' w.heap.size (fun k_ => some k_ ≠ ((.slice (some ⟨go6, 0, none⟩) x5_1.length co6) : Value).ownBlock) v6 x6_2) ∧ Aside0 (w'.heap[gb175]? = some (.cells #[(.slice (some ad187) l0_0.length c0_0)] 30 (0, 0))) ∧ Aside0 (Below w.heap.size w w'))
                  case atStart => exact ⟨(x5_1), (x6_1), (0), (by first | rfl | (simp; done) | (simp [*]; done)), H', ⟨Nat.le_refl _⟩, ⟨by (try simp only [hl5_1]); (with_reducible repeat (first | apply Kd.R_alloc | apply Kd.R_drewN | apply Kd.R_drew)); exact HO_5.out⟩, ⟨by (try simp only [hl5_1]); (with_reducible repeat (first | apply Kd.Q_alloc | apply Kd.Q_drewN | apply Kd.Q_drew)); exact HO_6.out⟩, ⟨by (try simp only [hl5_1]); (with_reducible repeat (first | refine blk_drewN ?_ _ | refine blk_drew ?_ | refine blk_alloc ?_ _)); exact BK175.out⟩, ⟨by repeat (first | (with_reducible first | exact HB.out | apply below_alloc | apply pw_below_drewN | apply below_drew1 | refine below_set ?_ GE175.out) | exact HB.out)⟩⟩
                  case round =>
                    clear H'
                    try clear c1
                    try clear p1
                    try clear q1
                    try clear hx1
                    try clear qi1
                    try clear c2
                    try clear p2
                    try clear c4
                    try clear c4b0
                    try clear c5
                    try clear c5b0
                    try clear p6
                    try clear q6
                    try clear hx6
                    try clear hf6
                    try clear c11
                    try clear c17
                    try clear c17b0
                    try clear c17b1
                    try clear c18
                    try clear c18b0
                    try clear c18b1
                    try clear p18
                    try clear q18
                    try clear hx18
                    try clear qi18
                    try clear c19
                    try clear c19b0
                    try clear c20
                    try clear c20b0
                    try clear hcz10_0
                    try clear hcz22_0
                    try clear hfz10_0
                    try clear hfz22_0
                    try clear hx186_0
                    try clear hx187_0
                    try clear hx6_0
                    try clear p186
                    try clear p187
                    try clear p2
                    try clear p6
                    try clear q186
                    try clear q187
                    try clear q6
                    obtain ⟨x5_2, x6_2, x32_2, rfl, HA, HK2, HO_5, HO_6, BK175, HB⟩ := hrel
                    have hl5_2 := (Kd.R_reads' HO_5.out).1
                    rw [hl5_2] at HO_5
                    (try simp only [hl5_2])
                    (try simp only [hl5_2] at BK175)
                    (try simp only [hl5_2] at HO_6)
                    cases gk with
                    | zero => exact absurd HA.out (by simp [impl_Graph_lengths.l1])
                    | succ k2 =>
                      have H := HA.out
                      clear HA
                      simp only [impl_Graph_lengths.l1] at H
                      by_cases c23 : x32_2 < ((rd_L1 l0_0 (rd x6_1 0)).length : Int)
                      · rw [if_pos c23] at H
                        have c23b0 : decide (x32_2 < ((rd_L1 l0_0 (rd x6_1 0)).length : Int)) = true := decide_eq_true c23
                        clear c23
                        by_cases c24 : 0 ≤ x32_2
                        · rw [if_pos c24] at H
                          have c24b0 : decide (0 ≤ x32_2) = true := decide_eq_true c24
                          clear c24
                          by_cases c25 : x32_2 < ((rd_L1 l0_0 (rd x6_1 0)).length : Int)
                          · rw [if_pos c25] at H
                            have c25b0 : decide (x32_2 < ((rd_L1 l0_0 (rd x6_1 0)).length : Int)) = true := decide_eq_true c25
                            clear c25
                            by_cases c26 : 0 ≤ (rd (rd_L1 l0_0 (rd x6_1 0)) x32_2)
                            · rw [if_pos c26] at H
                              have c26b0 : decide (0 ≤ (rd (rd_L1 l0_0 (rd x6_1 0)) x32_2)) = true := decide_eq_true c26
                              clear c26
                              by_cases c27 : (rd (rd_L1 l0_0 (rd x6_1 0)) x32_2) < (x5_2.length : Int)
                              · rw [if_pos c27] at H
                                have c27b0 : decide ((rd (rd_L1 l0_0 (rd x6_1 0)) x32_2) < (x5_2.length : Int)) = true := decide_eq_true c27
                                clear c27
                                by_cases c28 : (rd x5_2 (rd (rd_L1 l0_0 (rd x6_1 0)) x32_2)) < 0
                                · rw [if_pos c28] at H
                                  have c28b0 : decide ((rd x5_2 (rd (rd_L1 l0_0 (rd x6_1 0)) x32_2)) < 0) = true := decide_eq_true c28
                                  clear c28
                                  by_cases c29 : 0 < (x6_2.length : Int)
                                  · rw [if_pos c29] at H
                                    have c29b0 : decide (0 < (x6_2.length : Int)) = true := decide_eq_true c29
                                    have c29b1 : decide (0 < x6_2.length) = true := decide_eq_true (by omega)
                                    clear c29
                                    by_cases c30 : 0 ≤ (rd x6_2 0)
                                    · rw [if_pos c30] at H
                                      have c30b0 : decide (0 ≤ (rd x6_2 0)) = true := decide_eq_true c30
                                      clear c30
                                      by_cases c31 : (rd x6_2 0) < (x5_2.length : Int)
                                      · rw [if_pos c31] at H
                                        have c31b0 : decide ((rd x6_2 0) < (x5_2.length : Int)) = true := decide_eq_true c31
                                        clear c31
                                        obtain ⟨y192, hy192⟩ : ∃ y_ : List Int, y_ = (x5_2.set ((rd (rd_L1 l0_0 (rd x6_1 0)) x32_2) : Int).toNat (wrap64 ((rd x5_2 (rd x6_2 0)) + 1))) := ⟨_, rfl⟩
                                        replace H : (if x6_2.length < 17592186044416 then (impl_Graph_lengths.l1 k2 y192 (x6_2 ++ [rd (rd_L1 l0_0 (rd x6_1 0)) x32_2]) (rd_L1 l0_0 (rd x6_1 0)) ((rd_L1 l0_0 (rd x6_1 0)).length : Int) (wrap64 (x32_2 + 1)) l0_0) else (none)) = some r := by first | (rw [hy192]; with_reducible exact H) | (have H2_ := (Option.bind_some _ _).symm.trans H; rw [hy192]; with_reducible exact H2_) | (have H2_ := (Option.bind_some _ _).symm.trans H; with_reducible exact H2_) | with_reducible exact H | (rw [hy192]; exact H) | exact H
                                        have Ny192 := Aside0.mk hy192
                                        clear hy192
                                        by_cases c33 : x6_2.length < 17592186044416
                                        · rw [if_pos c33] at H
                                          have LMc33 := Aside0.mk c33
                                          clear c33
                                          obtain ⟨y193, hy193⟩ : ∃ y_ : List Int, y_ = (x6_2 ++ [rd (rd_L1 l0_0 (rd x6_1 0)) x32_2]) := ⟨_, rfl⟩
                                          replace H : (impl_Graph_lengths.l1 k2 y192 y193 (rd_L1 l0_0 (rd x6_1 0)) ((rd_L1 l0_0 (rd x6_1 0)).length : Int) (wrap64 (x32_2 + 1)) l0_0) = some r := by first | (rw [hy193]; with_reducible exact H) | (have H2_ := (Option.bind_some _ _).symm.trans H; rw [hy193]; with_reducible exact H2_) | (have H2_ := (Option.bind_some _ _).symm.trans H; with_reducible exact H2_) | with_reducible exact H | (rw [hy193]; exact H) | exact H
                                          have Ny193 := Aside0.mk hy193
                                          clear hy193
                                          have H' := Aside0.mk H
                                          clear H
                                          have p188 : 0 ≤ (x32_2 : Int) := of_decide_eq_true (by first | (with_reducible assumption) | assumption)
                                          have q188 : x32_2 < ((rd_L1 l0_0 (rd x6_1 0)).length : Int) := of_decide_eq_true (by first | (with_reducible assumption) | assumption)
                                          obtain ⟨ad188, e188, hx188_0⟩ := Kd.at_int HR187_0.out x32_2 p188 q188
                                          cases e188
                                          replace hx188_0 := (HB.out.cell (World.block_lt_of_cell? w _ hx188_0)).trans hx188_0
                                          replace p188 := eq_true p188
                                          replace q188 := eq_true q188
                                          have p189 : 0 ≤ ((rd (rd_L1 l0_0 (rd x6_1 0)) x32_2) : Int) := of_decide_eq_true (by first | (with_reducible assumption) | assumption)
                                          have q189 : (rd (rd_L1 l0_0 (rd x6_1 0)) x32_2) < (x5_2.length : Int) := of_decide_eq_true (by first | (with_reducible assumption) | assumption)
                                          obtain ⟨ad189, e189, hx189_0⟩ := Kd.at_int (Kd.R_reads' HO_5.out).2.2 (rd (rd_L1 l0_0 (rd x6_1 0)) x32_2) p189 q189
                                          obtain rfl : (⟨go6, 0, none⟩ : Addr) = ad189 := (by injection e189)
                                          (first | simp only [add_plain] at hx189_0 | simp only [add_at] at hx189_0 | simp only [Addr.add, Nat.zero_add] at hx189_0 | skip)
                                          replace p189 := eq_true p189
                                          replace q189 := eq_true q189
                                          obtain ⟨Ao34, co34, eo34, _⟩ := Kd.Q_slice HO_6.out
                                          subst eo34
                                          have p190 : 0 ≤ (0 : Int) := (by omega)
                                          have q190 : 0 < (x6_2.length : Int) := of_decide_eq_true (by first | (with_reducible assumption) | assumption)
                                          obtain ⟨ad190, e190, hx190_0⟩ := Kd.at_int (Kd.Q_reads' HO_6.out).2.2 0 p190 q190
                                          cases e190
                                          have qi190 : (0 < x6_2.length) = True := eq_true (by omega)
                                          (try rw [show ((0 : Int)).toNat = 0 from rfl] at hx190_0)
                                          (try rw [Addr.add_zero'] at hx190_0)
                                          replace p190 := eq_true p190
                                          replace q190 := eq_true q190
                                          have p191 : 0 ≤ ((rd x6_2 0) : Int) := of_decide_eq_true (by first | (with_reducible assumption) | assumption)
                                          have q191 : (rd x6_2 0) < (x5_2.length : Int) := of_decide_eq_true (by first | (with_reducible assumption) | assumption)
                                          obtain ⟨ad191, e191, hx191_0⟩ := Kd.at_int (Kd.R_reads' HO_5.out).2.2 (rd x6_2 0) p191 q191
                                          obtain rfl : (⟨go6, 0, none⟩ : Addr) = ad191 := (by injection e191)
                                          (first | simp only [add_plain] at hx191_0 | simp only [add_at] at hx191_0 | simp only [Addr.add, Nat.zero_add] at hx191_0 | skip)
                                          replace p191 := eq_true p191
                                          replace q191 := eq_true q191
                                          have p32 : 0 ≤ ((rd (rd_L1 l0_0 (rd x6_1 0)) x32_2) : Int) := of_decide_eq_true (by first | (with_reducible assumption) | assumption)
                                          have q32 : ((rd (rd_L1 l0_0 (rd x6_1 0)) x32_2) : Int) < ((x5_2.length : Int) : Int) := of_decide_eq_true (by first | (with_reducible assumption) | assumption)
                                          obtain ⟨hx32_0, hf32_0⟩ := Kd.R_celln 0 HO_5.out ((rd (rd_L1 l0_0 (rd x6_1 0)) x32_2) : Int) p32 q32
                                          replace p32 := eq_true p32
                                          replace q32 := eq_true q32
                                          have HP35 := Kd.R_putg HO_5.out ((rd (rd_L1 l0_0 (rd x6_1 0)) x32_2) : Int) (wrap64 ((rd x5_2 (rd x6_2 0)) + 1))
                                          go_wp2_with (first | ((with_reducible refine gate_store (t := 3) (p := 50) rfl ?_); (try (rw [drewN_self wr]; generalize hq_ : World.drewN wr _ = wr; have n0_ := Aside0.mk (Kd.R_at hq_ HO_5.out); have n1_ := Aside0.mk (Kd.Q_at hq_ HO_6.out); have n2_ := Aside0.mk (blk_at hq_ BK175.out); have n3_ := Aside0.mk (below_at hq_ HB.out); clear hq_ HO_5 HO_6 BK175 HB; have HO_5 := n0_; have HO_6 := n1_; have BK175 := n2_; have HB := n3_; clear n0_ n1_ n2_ n3_; (try (have HP35 := Kd.R_putg HO_5.out ((rd (rd_L1 l0_0 (rd x6_1 0)) x32_2) : Int) (wrap64 ((rd x5_2 (rd x6_2 0)) + 1)))))); refine store_event (t := 3) (p := 50) (v := ?vo_w36) (w1 := (wr.setCell ⟨go6, ((rd (rd_L1 l0_0 (rd x6_1 0)) x32_2) : Int).toNat, none⟩ (.int .i64 (wrap64 ((rd x5_2 (rd x6_2 0)) + 1))))) ?hg ?ho ?hn ?hr ?_; (case ho => rfl); (case hg => rfl); (case hn => rfl); (case hr => first | (go_simp; done) | (go_simp; rfl)); intro w36 hw; have hg : wr.grownBy w36 (some go6) := (by rw [hw]; exact HP35.2); have hp_ : Kd.R (Kd.int .i64) 3 w36 w.heap.size (fun k_ => some k_ ≠ (.slice (some ad190) x6_2.length co34 : Value).ownBlock) (.slice (some ⟨go6, 0, none⟩) x5_2.length co6) y192 := (by rw [hw, Ny192.out]; exact HP35.1); clear HP35; have n0_ := Aside0.mk (hp_); have n1_ := Aside0.mk (Kd.Q_after (v := (.slice (some ⟨go6, 0, none⟩) x5_2.length co6)) (v1 := (.slice (some ⟨go6, 0, none⟩) x5_2.length co6)) (ok := (fun _ => True)) (by (with_reducible repeat (first | apply Kd.Q_alloc | apply Kd.Q_drewN | apply Kd.Q_drew)); exact Kd.Q_mono HO_6.out (fun _ hk => ⟨trivial, hk⟩)) hg (.inl rfl)); have n2_ := Aside0.mk (blk_grown (g := gb175) (o := .cells #[.slice (some ad187) l0_0.length c0_0] 30 (0, 0)) (by (with_reducible repeat (first | refine blk_drewN ?_ _ | refine blk_drew ?_ | refine blk_alloc ?_ _)); exact BK175.out) hg (Kd.R_ne HO_5.out BK175.out (by decide))); have n3_ := Aside0.mk ((by rw [hw]; exact below_set (HB.out) GB6.out : Below w.heap.size w w36)); clear HO_5; clear HO_6; clear BK175; clear HB; have HO_5 := n0_; have HO_6 := n1_; have BK175 := n2_; have HB := n3_; clear n0_ n1_ n2_ n3_; clear hg hw hp_) | ((with_reducible refine gate_builtin (b := .append) (xs := #[.tmp 51, .tmp 53]) rfl ?_); at_builtin; refine Kd.Q_append (Kd.int .i64) (w0 := w) w.heap.size rfl (.tmp 51) (.tmp 53) 37 3 (.int .i64 0) 8 rfl Try.underlying37 info3 rfl (by decide) (by omega) (.slice (some ad190) x6_2.length co34) x6_2 (rd (rd_L1 l0_0 (rd x6_1 0)) x32_2) [.int .i64 (rd (rd_L1 l0_0 (rd x6_1 0)) x32_2)] (fun k_ => some k_ ≠ (.slice (some ⟨go6, 0, none⟩) x5_2.length co6 : Value).ownBlock) (fun _ => False) rfl rfl ?aP (fun _ hk => hk.elim) ?aF ?aO ?aB ?aS ?aL ?_; (case aP => exact rfl); (case aB => exact (by repeat (first | (with_reducible first | exact HB.out | apply below_alloc | apply pw_below_drewN | apply below_drew1 | refine below_set ?_ GE175.out) | exact HB.out))); (case aF => exact (fun k_ hk => Kd.fresh' (Kd.R_lt (by (with_reducible repeat (first | apply Kd.R_alloc | apply Kd.R_drewN | apply Kd.R_drew)); exact HO_5.out)) k_ hk)); (case aO => exact (by (with_reducible repeat (first | apply Kd.Q_alloc | apply Kd.Q_drewN | apply Kd.Q_drew)); exact Kd.Q_mono HO_6.out (fun _ hk => hk.2))); (case aS => exact (below_size (by repeat (first | (with_reducible first | exact HB.out | apply below_alloc | apply pw_below_drewN | apply below_drew1 | refine below_set ?_ GE175.out) | exact HB.out)))); (case aL => have := LMc33.out; omega); intro v194 w37 ho hb hg hat; rw [← Ny193.out] at ho; have n0_ := Aside0.mk (Kd.R_after (ok := (fun _ => True)) (by (with_reducible repeat (first | apply Kd.R_alloc | apply Kd.R_drewN | apply Kd.R_drew)); exact Kd.R_mono HO_5.out (fun _ hk => ⟨trivial, hk⟩)) hg hat); have n1_ := Aside0.mk (blk_grown (g := gb175) (o := .cells #[.slice (some ad187) l0_0.length c0_0] 30 (0, 0)) (by (with_reducible repeat (first | refine blk_drewN ?_ _ | refine blk_drew ?_ | refine blk_alloc ?_ _)); exact BK175.out) hg (Kd.Q_ne HO_6.out BK175.out (by decide))); have n2_ := Aside0.mk (hb); have n3_ := Aside0.mk (ho); clear HO_5; clear BK175; clear HB; clear HO_6; have HO_5 := n0_; have BK175 := n1_; have HB := n2_; have HO195 := n3_; clear n0_ n1_ n2_ n3_; clear ho hb hg hat))
                                          repeat (go_quiet (first | ((with_reducible refine gate_store (t := 3) (p := 50) rfl ?_); (try (rw [drewN_self wr]; generalize hq_ : World.drewN wr _ = wr; have n0_ := Aside0.mk (Kd.R_at hq_ HO_5.out); have n1_ := Aside0.mk (Kd.Q_at hq_ HO_6.out); have n2_ := Aside0.mk (blk_at hq_ BK175.out); have n3_ := Aside0.mk (below_at hq_ HB.out); clear hq_ HO_5 HO_6 BK175 HB; have HO_5 := n0_; have HO_6 := n1_; have BK175 := n2_; have HB := n3_; clear n0_ n1_ n2_ n3_; (try (have HP35 := Kd.R_putg HO_5.out ((rd (rd_L1 l0_0 (rd x6_1 0)) x32_2) : Int) (wrap64 ((rd x5_2 (rd x6_2 0)) + 1)))))); refine store_event (t := 3) (p := 50) (v := ?vo_w36) (w1 := (wr.setCell ⟨go6, ((rd (rd_L1 l0_0 (rd x6_1 0)) x32_2) : Int).toNat, none⟩ (.int .i64 (wrap64 ((rd x5_2 (rd x6_2 0)) + 1))))) ?hg ?ho ?hn ?hr ?_; (case ho => rfl); (case hg => rfl); (case hn => rfl); (case hr => first | (go_simp; done) | (go_simp; rfl)); intro w36 hw; have hg : wr.grownBy w36 (some go6) := (by rw [hw]; exact HP35.2); have hp_ : Kd.R (Kd.int .i64) 3 w36 w.heap.size (fun k_ => some k_ ≠ (.slice (some ad190) x6_2.length co34 : Value).ownBlock) (.slice (some ⟨go6, 0, none⟩) x5_2.length co6) y192 := (by rw [hw, Ny192.out]; exact HP35.1); clear HP35; have n0_ := Aside0.mk (hp_); have n1_ := Aside0.mk (Kd.Q_after (v := (.slice (some ⟨go6, 0, none⟩) x5_2.length co6)) (v1 := (.slice (some ⟨go6, 0, none⟩) x5_2.length co6)) (ok := (fun _ => True)) (by (with_reducible repeat (first | apply Kd.Q_alloc | apply Kd.Q_drewN | apply Kd.Q_drew)); exact Kd.Q_mono HO_6.out (fun _ hk => ⟨trivial, hk⟩)) hg (.inl rfl)); have n2_ := Aside0.mk (blk_grown (g := gb175) (o := .cells #[.slice (some ad187) l0_0.length c0_0] 30 (0, 0)) (by (with_reducible repeat (first | refine blk_drewN ?_ _ | refine blk_drew ?_ | refine blk_alloc ?_ _)); exact BK175.out) hg (Kd.R_ne HO_5.out BK175.out (by decide))); have n3_ := Aside0.mk ((by rw [hw]; exact below_set (HB.out) GB6.out : Below w.heap.size w w36)); clear HO_5; clear HO_6; clear BK175; clear HB; have HO_5 := n0_; have HO_6 := n1_; have BK175 := n2_; have HB := n3_; clear n0_ n1_ n2_ n3_; clear hg hw hp_) | ((with_reducible refine gate_builtin (b := .append) (xs := #[.tmp 51, .tmp 53]) rfl ?_); at_builtin; refine Kd.Q_append (Kd.int .i64) (w0 := w) w.heap.size rfl (.tmp 51) (.tmp 53) 37 3 (.int .i64 0) 8 rfl Try.underlying37 info3 rfl (by decide) (by omega) (.slice (some ad190) x6_2.length co34) x6_2 (rd (rd_L1 l0_0 (rd x6_1 0)) x32_2) [.int .i64 (rd (rd_L1 l0_0 (rd x6_1 0)) x32_2)] (fun k_ => some k_ ≠ (.slice (some ⟨go6, 0, none⟩) x5_2.length co6 : Value).ownBlock) (fun _ => False) rfl rfl ?aP (fun _ hk => hk.elim) ?aF ?aO ?aB ?aS ?aL ?_; (case aP => exact rfl); (case aB => exact (by repeat (first | (with_reducible first | exact HB.out | apply below_alloc | apply pw_below_drewN | apply below_drew1 | refine below_set ?_ GE175.out) | exact HB.out))); (case aF => exact (fun k_ hk => Kd.fresh' (Kd.R_lt (by (with_reducible repeat (first | apply Kd.R_alloc | apply Kd.R_drewN | apply Kd.R_drew)); exact HO_5.out)) k_ hk)); (case aO => exact (by (with_reducible repeat (first | apply Kd.Q_alloc | apply Kd.Q_drewN | apply Kd.Q_drew)); exact Kd.Q_mono HO_6.out (fun _ hk => hk.2))); (case aS => exact (below_size (by repeat (first | (with_reducible first | exact HB.out | apply below_alloc | apply pw_below_drewN | apply below_drew1 | refine below_set ?_ GE175.out) | exact HB.out)))); (case aL => have := LMc33.out; omega); intro v194 w37 ho hb hg hat; rw [← Ny193.out] at ho; have n0_ := Aside0.mk (Kd.R_after (ok := (fun _ => True)) (by (with_reducible repeat (first | apply Kd.R_alloc | apply Kd.R_drewN | apply Kd.R_drew)); exact Kd.R_mono HO_5.out (fun _ hk => ⟨trivial, hk⟩)) hg hat); have n1_ := Aside0.mk (blk_grown (g := gb175) (o := .cells #[.slice (some ad187) l0_0.length c0_0] 30 (0, 0)) (by (with_reducible repeat (first | refine blk_drewN ?_ _ | refine blk_drew ?_ | refine blk_alloc ?_ _)); exact BK175.out) hg (Kd.Q_ne HO_6.out BK175.out (by decide))); have n2_ := Aside0.mk (hb); have n3_ := Aside0.mk (ho); clear HO_5; clear BK175; clear HB; clear HO_6; have HO_5 := n0_; have BK175 := n1_; have HB := n2_; have HO195 := n3_; clear n0_ n1_ n2_ n3_; clear ho hb hg hat)); try go_wp2_with (first | ((with_reducible refine gate_store (t := 3) (p := 50) rfl ?_); (try (rw [drewN_self wr]; generalize hq_ : World.drewN wr _ = wr; have n0_ := Aside0.mk (Kd.R_at hq_ HO_5.out); have n1_ := Aside0.mk (Kd.Q_at hq_ HO_6.out); have n2_ := Aside0.mk (blk_at hq_ BK175.out); have n3_ := Aside0.mk (below_at hq_ HB.out); clear hq_ HO_5 HO_6 BK175 HB; have HO_5 := n0_; have HO_6 := n1_; have BK175 := n2_; have HB := n3_; clear n0_ n1_ n2_ n3_; (try (have HP35 := Kd.R_putg HO_5.out ((rd (rd_L1 l0_0 (rd x6_1 0)) x32_2) : Int) (wrap64 ((rd x5_2 (rd x6_2 0)) + 1)))))); refine store_event (t := 3) (p := 50) (v := ?vo_w36) (w1 := (wr.setCell ⟨go6, ((rd (rd_L1 l0_0 (rd x6_1 0)) x32_2) : Int).toNat, none⟩ (.int .i64 (wrap64 ((rd x5_2 (rd x6_2 0)) + 1))))) ?hg ?ho ?hn ?hr ?_; (case ho => rfl); (case hg => rfl); (case hn => rfl); (case hr => first | (go_simp; done) | (go_simp; rfl)); intro w36 hw; have hg : wr.grownBy w36 (some go6) := (by rw [hw]; exact HP35.2); have hp_ : Kd.R (Kd.int .i64) 3 w36 w.heap.size (fun k_ => some k_ ≠ (.slice (some ad190) x6_2.length co34 : Value).ownBlock) (.slice (some ⟨go6, 0, none⟩) x5_2.length co6) y192 := (by rw [hw, Ny192.out]; exact HP35.1); clear HP35; have n0_ := Aside0.mk (hp_); have n1_ := Aside0.mk (Kd.Q_after (v := (.slice (some ⟨go6, 0, none⟩) x5_2.length co6)) (v1 := (.slice (some ⟨go6, 0, none⟩) x5_2.length co6)) (ok := (fun _ => True)) (by (with_reducible repeat (first | apply Kd.Q_alloc | apply Kd.Q_drewN | apply Kd.Q_drew)); exact Kd.Q_mono HO_6.out (fun _ hk => ⟨trivial, hk⟩)) hg (.inl rfl)); have n2_ := Aside0.mk (blk_grown (g := gb175) (o := .cells #[.slice (some ad187) l0_0.length c0_0] 30 (0, 0)) (by (with_reducible repeat (first | refine blk_drewN ?_ _ | refine blk_drew ?_ | refine blk_alloc ?_ _)); exact BK175.out) hg (Kd.R_ne HO_5.out BK175.out (by decide))); have n3_ := Aside0.mk ((by rw [hw]; exact below_set (HB.out) GB6.out : Below w.heap.size w w36)); clear HO_5; clear HO_6; clear BK175; clear HB; have HO_5 := n0_; have HO_6 := n1_; have BK175 := n2_; have HB := n3_; clear n0_ n1_ n2_ n3_; clear hg hw hp_) | ((with_reducible refine gate_builtin (b := .append) (xs := #[.tmp 51, .tmp 53]) rfl ?_); at_builtin; refine Kd.Q_append (Kd.int .i64) (w0 := w) w.heap.size rfl (.tmp 51) (.tmp 53) 37 3 (.int .i64 0) 8 rfl Try.underlying37 info3 rfl (by decide) (by omega) (.slice (some ad190) x6_2.length co34) x6_2 (rd (rd_L1 l0_0 (rd x6_1 0)) x32_2) [.int .i64 (rd (rd_L1 l0_0 (rd x6_1 0)) x32_2)] (fun k_ => some k_ ≠ (.slice (some ⟨go6, 0, none⟩) x5_2.length co6 : Value).ownBlock) (fun _ => False) rfl rfl ?aP (fun _ hk => hk.elim) ?aF ?aO ?aB ?aS ?aL ?_; (case aP => exact rfl); (case aB => exact (by repeat (first | (with_reducible first | exact HB.out | apply below_alloc | apply pw_below_drewN | apply below_drew1 | refine below_set ?_ GE175.out) | exact HB.out))); (case aF => exact (fun k_ hk => Kd.fresh' (Kd.R_lt (by (with_reducible repeat (first | apply Kd.R_alloc | apply Kd.R_drewN | apply Kd.R_drew)); exact HO_5.out)) k_ hk)); (case aO => exact (by (with_reducible repeat (first | apply Kd.Q_alloc | apply Kd.Q_drewN | apply Kd.Q_drew)); exact Kd.Q_mono HO_6.out (fun _ hk => hk.2))); (case aS => exact (below_size (by repeat (first | (with_reducible first | exact HB.out | apply below_alloc | apply pw_below_drewN | apply below_drew1 | refine below_set ?_ GE175.out) | exact HB.out)))); (case aL => have := LMc33.out; omega); intro v194 w37 ho hb hg hat; rw [← Ny193.out] at ho; have n0_ := Aside0.mk (Kd.R_after (ok := (fun _ => True)) (by (with_reducible repeat (first | apply Kd.R_alloc | apply Kd.R_drewN | apply Kd.R_drew)); exact Kd.R_mono HO_5.out (fun _ hk => ⟨trivial, hk⟩)) hg hat); have n1_ := Aside0.mk (blk_grown (g := gb175) (o := .cells #[.slice (some ad187) l0_0.length c0_0] 30 (0, 0)) (by (with_reducible repeat (first | refine blk_drewN ?_ _ | refine blk_drew ?_ | refine blk_alloc ?_ _)); exact BK175.out) hg (Kd.Q_ne HO_6.out BK175.out (by decide))); have n2_ := Aside0.mk (hb); have n3_ := Aside0.mk (ho); clear HO_5; clear BK175; clear HB; clear HO_6; have HO_5 := n0_; have BK175 := n1_; have HB := n2_; have HO195 := n3_; clear n0_ n1_ n2_ n3_; clear ho hb hg hat)))
                                          (try simp only [← hl5_2])
                                          go_roundg k2
                                          case measure => have := HK1.out; have := HK2.out; omega
                                          case rel => exact ⟨(y192), (y193), (wrap64 (x32_2 + 1)), (by first | rfl | (simp; done) | (simp [*]; done)), H', ⟨by have := HK1.out; have := HK2.out; omega⟩, ⟨by (try simp only [hl5_1]); (try simp only [hl5_2]); (with_reducible repeat (first | apply Kd.R_alloc | apply Kd.R_drewN | apply Kd.R_drew)); exact Kd.R_mono HO_5.out (fun _ hk => hk.2)⟩, ⟨by (try simp only [hl5_1]); (try simp only [hl5_2]); (with_reducible repeat (first | apply Kd.Q_alloc | apply Kd.Q_drewN | apply Kd.Q_drew)); exact HO195.out⟩, ⟨by (try simp only [hl5_1]); (try simp only [hl5_2]); (with_reducible repeat (first | refine blk_drewN ?_ _ | refine blk_drew ?_ | refine blk_alloc ?_ _)); exact BK175.out⟩, ⟨by repeat (first | (with_reducible first | exact HB.out | apply below_alloc | apply pw_below_drewN | apply below_drew1 | refine below_set ?_ GE175.out) | exact HB.out)⟩⟩
                                        · rw [if_neg c33] at H
                                          exact absurd H (by simp)
                                      · rw [if_neg c31] at H
                                        exact absurd H (by simp)
                                    · rw [if_neg c30] at H
                                      exact absurd H (by simp)
                                  · rw [if_neg c29] at H
                                    exact absurd H (by simp)
                                · rw [if_neg c28] at H
                                  have c28b0 : decide ((rd x5_2 (rd (rd_L1 l0_0 (rd x6_1 0)) x32_2)) < 0) = false := decide_eq_false c28
                                  clear c28
                                  have H' := Aside0.mk H
                                  clear H
                                  have p188 : 0 ≤ (x32_2 : Int) := of_decide_eq_true (by first | (with_reducible assumption) | assumption)
                                  have q188 : x32_2 < ((rd_L1 l0_0 (rd x6_1 0)).length : Int) := of_decide_eq_true (by first | (with_reducible assumption) | assumption)
                                  obtain ⟨ad188, e188, hx188_0⟩ := Kd.at_int HR187_0.out x32_2 p188 q188
                                  cases e188
                                  replace hx188_0 := (HB.out.cell (World.block_lt_of_cell? w _ hx188_0)).trans hx188_0
                                  replace p188 := eq_true p188
                                  replace q188 := eq_true q188
                                  have p189 : 0 ≤ ((rd (rd_L1 l0_0 (rd x6_1 0)) x32_2) : Int) := of_decide_eq_true (by first | (with_reducible assumption) | assumption)
                                  have q189 : (rd (rd_L1 l0_0 (rd x6_1 0)) x32_2) < (x5_2.length : Int) := of_decide_eq_true (by first | (with_reducible assumption) | assumption)
                                  obtain ⟨ad189, e189, hx189_0⟩ := Kd.at_int (Kd.R_reads' HO_5.out).2.2 (rd (rd_L1 l0_0 (rd x6_1 0)) x32_2) p189 q189
                                  obtain rfl : (⟨go6, 0, none⟩ : Addr) = ad189 := (by injection e189)
                                  (first | simp only [add_plain] at hx189_0 | simp only [add_at] at hx189_0 | simp only [Addr.add, Nat.zero_add] at hx189_0 | skip)
                                  replace p189 := eq_true p189
                                  replace q189 := eq_true q189
                                  go_wp2
                                  repeat (go_quiet (fail); try go_wp2)
                                  (try simp only [← hl5_2])
                                  go_roundg k2
                                  case measure => have := HK1.out; have := HK2.out; omega
                                  case rel => exact ⟨(x5_2), (x6_2), (wrap64 (x32_2 + 1)), (by first | rfl | (simp; done) | (simp [*]; done)), H', ⟨by have := HK1.out; have := HK2.out; omega⟩, ⟨by (try simp only [hl5_1]); (try simp only [hl5_2]); (with_reducible repeat (first | apply Kd.R_alloc | apply Kd.R_drewN | apply Kd.R_drew)); exact HO_5.out⟩, ⟨by (try simp only [hl5_1]); (try simp only [hl5_2]); (with_reducible repeat (first | apply Kd.Q_alloc | apply Kd.Q_drewN | apply Kd.Q_drew)); exact HO_6.out⟩, ⟨by (try simp only [hl5_1]); (try simp only [hl5_2]); (with_reducible repeat (first | refine blk_drewN ?_ _ | refine blk_drew ?_ | refine blk_alloc ?_ _)); exact BK175.out⟩, ⟨by repeat (first | (with_reducible first | exact HB.out | apply below_alloc | apply pw_below_drewN | apply below_drew1 | refine below_set ?_ GE175.out) | exact HB.out)⟩⟩
                              · rw [if_neg c27] at H
                                exact absurd H (by simp)
                            · rw [if_neg c26] at H
                              exact absurd H (by simp)
                          · rw [if_neg c25] at H
                            exact absurd H (by simp)
                        · rw [if_neg c24] at H
                          exact absurd H (by simp)
                      · rw [if_neg c23] at H
                        have c23b0 : decide (x32_2 < ((rd_L1 l0_0 (rd x6_1 0)).length : Int)) = false := decide_eq_false c23
                        clear c23
                        by_cases c38 : 1 ≤ (x6_2.length : Int)
                        · rw [if_pos c38] at H
                          have c38b0 := eq_true c38
                          have c38b1 : decide (1 ≤ (x6_2.length : Int)) = true := decide_eq_true c38
                          clear c38
                          obtain ⟨y196, hy196⟩ : ∃ y_ : List Int, y_ = (x6_2.drop (1 : Int).toNat) := ⟨_, rfl⟩
                          replace H : (impl_Graph_lengths.l0 k2 x5_2 y196 l0_0) = some r := by first | (rw [hy196]; with_reducible exact H) | (have H2_ := (Option.bind_some _ _).symm.trans H; rw [hy196]; with_reducible exact H2_) | (have H2_ := (Option.bind_some _ _).symm.trans H; with_reducible exact H2_) | with_reducible exact H | (rw [hy196]; exact H) | exact H
                          have Ny196 := Aside0.mk hy196
                          clear hy196
                          have H' := Aside0.mk H
                          clear H
                          obtain ⟨Ao39, co39, eo39, _⟩ := Kd.Q_slice HO_6.out
                          subst eo39
                          have q40 : (1 : Int) ≤ ((x6_2.length : Int) : Int) := of_decide_eq_true (by first | (with_reducible assumption) | assumption)
                          obtain ⟨i040, hi040, _, hsz40, _⟩ := info_parts info3
                          have hcut40 := cut_from (P := Try.prog) 37 3 .i64 Try.underlying37 hi040 1 hsz40 Ao39 x6_2.length co39 1 (by omega) q40
                          have hr40 := Kd.Q_drop (k := (1 : Int).toNat) HO_6.out (by omega)
                          obtain ⟨A40, hA40⟩ : ∃ A1, A1 = (if co39 = (1 : Int).toNat then Ao39 else (Ao39 : Option Addr).map (·.add ((1 : Int).toNat * 1))) := ⟨_, rfl⟩
                          obtain ⟨c40, hc40⟩ : ∃ c1, c1 = co39 - (1 : Int).toNat := ⟨_, rfl⟩
                          have hy40 : y196.length = x6_2.length - (1 : Int).toNat := (by rw [Ny196.out, List.length_drop])
                          rw [← Ny196.out] at hr40
                          rw [← hy40, ← hA40, ← hc40] at hcut40
                          replace hr40 : Kd.Q (Kd.int .i64) 3 wr w.heap.size (fun k_ => some k_ ≠ (.slice (some ⟨go6, 0, none⟩) x5_2.length co6 : Value).ownBlock) (.slice A40 y196.length c40) y196 := (by rw [hA40, hc40, hy40]; exact hr40)
                          have HE40 : Aside0 ((Value.slice A40 y196.length c40).ownBlock = (.slice Ao39 x6_2.length co39 : Value).ownBlock) := ⟨by rw [hA40]; split <;> (cases (Ao39 : Option Addr) <;> rfl)⟩
                          clear hy40 hi040 hsz40 HO_6 hA40 hc40
                          have HO198 := Aside0.mk hr40
                          clear hr40
                          replace q40 := eq_true q40
                          have n_ := Aside0.mk (Kd.R_mono (ok' := fun k_ => some k_ ≠ (.slice A40 y196.length c40 : Value).ownBlock) HO_5.out (fun k_ hk => (by rw [HE40.out]; exact hk)))
                          clear HO_5
                          have HO_5 := n_
                          clear n_
                          go_wp2
                          repeat (go_quiet (fail); try go_wp2)
                          (try simp only [← hl5_1, ← hl5_2])
                          go_roundg k2
                          case measure => have := HK1.out; have := HK2.out; omega
                          case rel => exact ⟨(x5_2), (y196), H', ⟨by have := HK1.out; have := HK2.out; omega⟩, ⟨by (try simp only [hl5_1]); (try simp only [hl5_2]); (with_reducible repeat (first | apply Kd.R_alloc | apply Kd.R_drewN | apply Kd.R_drew)); exact HO_5.out⟩, ⟨by (try simp only [hl5_1]); (try simp only [hl5_2]); (with_reducible repeat (first | apply Kd.Q_alloc | apply Kd.Q_drewN | apply Kd.Q_drew)); exact HO198.out⟩, ⟨by (try simp only [hl5_1]); (try simp only [hl5_2]); (with_reducible repeat (first | refine blk_drewN ?_ _ | refine blk_drew ?_ | refine blk_alloc ?_ _)); exact BK175.out⟩, ⟨by repeat (first | (with_reducible first | exact HB.out | apply below_alloc | apply pw_below_drewN | apply below_drew1 | refine below_set ?_ GE175.out) | exact HB.out)⟩⟩
                        · rw [if_neg c38] at H
                          exact absurd H (by simp)
                · rw [if_neg c20] at H
                  exact absurd H (by simp)
              · rw [if_neg c19] at H
                exact absurd H (by simp)
            · rw [if_neg c18] at H
              exact absurd H (by simp)
          · rw [if_neg c17] at H
            have c17b0 : decide (0 < (x6_1.length : Int)) = false := decide_eq_false c17
            have c17b1 : decide (0 < x6_1.length) = false := decide_eq_false (by omega)
            clear c17
            obtain rfl := Option.some.inj H
            obtain ⟨Ao41, co41, eo41, _⟩ := Kd.Q_slice HO_6.out
            subst eo41
            go_wp2
            repeat (go_quiet (fail); try go_wp2)
            go_ret
            exact ⟨_, by first | rfl | (simp [errW_none, errW_some] <;> rfl) | (simp [*, errW_none, errW_some] <;> rfl), by (with_reducible repeat (first | apply Kd.R_alloc | apply Kd.R_drewN | apply Kd.R_drew)); exact Kd.R_mono HO_5.out (fun _ hk => trivial), by repeat (first | (with_reducible first | exact HB.out | apply below_alloc | apply pw_below_drewN | apply below_drew1 | refine below_set ?_ GE175.out) | exact HB.out)⟩
    · rw [if_neg c5] at H
      exact absurd H (by simp)
  · rw [if_neg c4] at H
    exact absurd H (by simp)
mutual
def impl_canEnd.j0 : Nat → Int → Int → Bool → List (List Int) → Option (Bool)
  | 0, _, _, _, _ => none
  | k + 1, x1, x2, x20, x200000 => if x20 = true then (some false) else (impl_canEnd.l0 k x1 x2 x200000 (x200000.length : Int) 0 x200000)
def impl_canEnd.l0 : Nat → Int → Int → List (List Int) → Int → Int → List (List Int) → Option (Bool)
  | 0, _, _, _, _, _, _ => none
  | k + 1, x1, x2, x22, x23, x24, x200000 => if x24 < x23 then (if 0 ≤ x24 then (if x24 < (x22.length : Int) then ((impl_Graph_lengths.f k x200000 x24).bind fun t205 => (if 0 ≤ x1 then (if x1 < (t205.length : Int) then (if (rd t205 x1) < 0 then (if 0 ≤ x2 then (if x2 < (t205.length : Int) then (if (rd t205 x2) < 0 then (some false) else (if x24 = x1 then (impl_canEnd.l0 k x1 x2 x22 x23 (wrap64 (x24 + 1)) x200000) else (if x24 = x2 then (impl_canEnd.l0 k x1 x2 x22 x23 (wrap64 (x24 + 1)) x200000) else (if ((rd_L1 x22 x24).length : Int) = 0 then (some false) else (impl_canEnd.l0 k x1 x2 x22 x23 (wrap64 (x24 + 1)) x200000))))) else (none)) else (none)) else (if x24 = x1 then (impl_canEnd.l0 k x1 x2 x22 x23 (wrap64 (x24 + 1)) x200000) else (if x24 = x2 then (impl_canEnd.l0 k x1 x2 x22 x23 (wrap64 (x24 + 1)) x200000) else (if ((rd_L1 x22 x24).length : Int) = 0 then (some false) else (impl_canEnd.l0 k x1 x2 x22 x23 (wrap64 (x24 + 1)) x200000))))) else (none)) else (none))) else (none)) else (none)) else (some true)
end
def impl_canEnd.f (k : Nat) (l0_0 : List (List Int)) (a1 : Int) (a2 : Int) : Option (Bool) := (impl_has.f l0_0 (([a1, a2] : List Int))).bind fun t203 => (if t203 = true then (impl_canEnd.j0 k a1 a2 (a1 == a2) l0_0) else (impl_canEnd.j0 k a1 a2 true l0_0))
theorem impl_canEnd.mono_l : ∀ k, (∀ y0 y1 y2 y3, LeO (impl_canEnd.j0 k y0 y1 y2 y3) (impl_canEnd.j0 (k + 1) y0 y1 y2 y3)) ∧ (∀ y0 y1 y2 y3 y4 y5, LeO (impl_canEnd.l0 k y0 y1 y2 y3 y4 y5) (impl_canEnd.l0 (k + 1) y0 y1 y2 y3 y4 y5))
  | 0 => ⟨fun _ _ _ _ r h => by simp [impl_canEnd.j0] at h, fun _ _ _ _ _ _ r h => by simp [impl_canEnd.l0] at h⟩
  | k + 1 => by
    obtain ⟨ih0, ih1⟩ := impl_canEnd.mono_l k
    refine ⟨?_, ?_⟩
    · intro y0 y1 y2 y3
      unfold impl_canEnd.j0
      repeat' first
      | (with_reducible exact ih0 _ _ _ _)
      | (with_reducible exact ih1 _ _ _ _ _ _)
      | (with_reducible exact impl_Graph_lengths.mono _ _ _)
      | (with_reducible exact LeO.refl _)
      | (with_reducible exact LeO.none _)
      | (with_reducible refine LeO.ite ?_ ?_)
      | (with_reducible refine LeO.bind ?_ (fun _ => ?_))
      | exact ih0 _ _ _ _
      | exact ih1 _ _ _ _ _ _
      | exact impl_Graph_lengths.mono _ _ _
      | exact LeO.none _
      | refine LeO.ite ?_ ?_
      | refine LeO.bind ?_ (fun _ => ?_)
    · intro y0 y1 y2 y3 y4 y5
      unfold impl_canEnd.l0
      repeat' first
      | (with_reducible exact ih0 _ _ _ _)
      | (with_reducible exact ih1 _ _ _ _ _ _)
      | (with_reducible exact impl_Graph_lengths.mono _ _ _)
      | (with_reducible exact LeO.refl _)
      | (with_reducible exact LeO.none _)
      | (with_reducible refine LeO.ite ?_ ?_)
      | (with_reducible refine LeO.bind ?_ (fun _ => ?_))
      | exact ih0 _ _ _ _
      | exact ih1 _ _ _ _ _ _
      | exact impl_Graph_lengths.mono _ _ _
      | exact LeO.none _
      | refine LeO.ite ?_ ?_
      | refine LeO.bind ?_ (fun _ => ?_)
theorem impl_canEnd.mono : ∀ a0 a1 a2 k, LeO (impl_canEnd.f k a0 a1 a2) (impl_canEnd.f (k + 1) a0 a1 a2) := by
  intro a0 a1 a2 k
  obtain ⟨ih0, ih1⟩ := impl_canEnd.mono_l k
  unfold impl_canEnd.f
  repeat' first
      | (with_reducible exact ih0 _ _ _ _)
      | (with_reducible exact ih1 _ _ _ _ _ _)
      | (with_reducible exact impl_Graph_lengths.mono _ _ _)
      | (with_reducible exact LeO.refl _)
      | (with_reducible exact LeO.none _)
      | (with_reducible refine LeO.ite ?_ ?_)
      | (with_reducible refine LeO.bind ?_ (fun _ => ?_))
      | exact ih0 _ _ _ _
      | exact ih1 _ _ _ _ _ _
      | exact impl_Graph_lengths.mono _ _ _
      | exact LeO.none _
      | refine LeO.ite ?_ ?_
      | refine LeO.bind ?_ (fun _ => ?_)
set_option maxHeartbeats 8000000 in
set_option maxRecDepth 100000 in
theorem impl_canEnd.calls (k : Nat) (A0_0 : Option Addr) (c0_0 : Nat) (l0_0 : List (List Int)) (a1 : Int) (a2 : Int) (r : Bool) (w : World) (hr0_0 : Kd.C (Kd.slice 3 (Kd.int .i64)) w A0_0 l0_0.length l0_0) (hc0_0 : l0_0.length ≤ c0_0) (h : impl_canEnd.f k l0_0 a1 a2 = some r) :
    Calls Try.prog 81 #[.agg #[.slice A0_0 l0_0.length c0_0], .int .i64 a1, .int .i64 a2] w fun e w' => e = .returned (.bool r) ∧ Below w.heap.size w w' := by
  have hu30 := Try.underlying30
  have HR0_0 := Aside0.mk hr0_0
  have HC0_0 := Aside0.mk hc0_0
  clear hr0_0 hc0_0
  have HB := Aside0.mk (Below.refl w.heap.size w)
  have H : ((impl_has.f l0_0 (([a1, a2] : List Int))).bind fun t203 => (if t203 = true then (impl_canEnd.j0 k a1 a2 (a1 == a2) l0_0) else (impl_canEnd.j0 k a1 a2 true l0_0))) = some r := h
  clear h
  have HC4 := Aside0.mk H
  clear H
  go_enter Try.func81, Try.ntmps81
  go_upto_region 1 with (first | ((with_reducible refine gate_dst (N := 3) rfl ?_); (try (refine gate_guard (by rfl) ?_; dsimp only)); refine box_event ?hg (N := 3) ?hd (cs := #[.slice A0_0 l0_0.length c0_0]) (t := 30) ?hr ?_; (case hd => rfl); (case hg => rfl); (case hr => first | (go_simp; done) | (go_simp; rfl)); intro gb199 hg w5 hbox hb; have n0_ := Aside0.mk (below_step (by repeat (first | (with_reducible first | exact HB.out | apply below_alloc | apply pw_below_drewN | apply below_drew1) | exact HB.out)) hb); have n1_ := Aside0.mk (hbox); have n2_ := Aside0.mk ((by rw [hg]; exact (below_size (by repeat (first | (with_reducible first | exact HB.out | apply below_alloc | apply pw_below_drewN | apply below_drew1) | exact HB.out))) : w.heap.size ≤ gb199)); have n3_ := Aside0.mk ((by rw [hg]; exact (below_size (by repeat (first | (with_reducible first | exact HB.out | apply below_alloc | apply pw_below_drewN | apply below_drew1) | exact HB.out))) : w.heap.size ≤ gb199)); clear HB; have HB := n0_; have BK199 := n1_; have GW199 := n2_; have GE199 := n3_; clear n0_ n1_ n2_ n3_; clear hb hbox hg))
  (try simp only [Act.put, List.setIfInBounds_toArray, List.set_cons_zero, List.set_cons_succ])
  go_cut [20] (fun v20 wc => ∃ (kq : Nat) (x20_3 : Bool), v20 = .bool x20_3 ∧ Aside0 (impl_canEnd.j0 kq a1 a2 x20_3 l0_0 = some r) ∧ Aside0 (kq ≤ k) ∧ Aside0 (wc.heap[gb199]? = some (.cells #[(.slice A0_0 l0_0.length c0_0)] 30 (0, 0))) ∧ Aside0 (Below w.heap.size w wc))
  case first =>
    have H := HC4.out
    clear HC4
    obtain ⟨y200, hy200⟩ : ∃ y_ : List Int, y_ = (([a1, a2] : List Int)) := ⟨_, rfl⟩
    replace H : ((impl_has.f l0_0 y200).bind fun t203 => (if t203 = true then (impl_canEnd.j0 k a1 a2 (a1 == a2) l0_0) else (impl_canEnd.j0 k a1 a2 true l0_0))) = some r := by first | (rw [hy200]; with_reducible exact H) | (have H2_ := (Option.bind_some _ _).symm.trans H; rw [hy200]; with_reducible exact H2_) | (have H2_ := (Option.bind_some _ _).symm.trans H; with_reducible exact H2_) | with_reducible exact H | (rw [hy200]; exact H) | exact H
    have Ny200 := Aside0.mk hy200
    clear hy200
    replace H := Option.bind_eq_some_iff.mp H
    obtain ⟨t203, A60, H⟩ := H
    replace H : (if t203 = true then (impl_canEnd.j0 k a1 a2 (a1 == a2) l0_0) else (impl_canEnd.j0 k a1 a2 true l0_0)) = some r := H
    have A6 := Aside0.mk A60
    clear A60
    by_cases c7 : t203 = true
    · subst c7
      have H1 : (impl_canEnd.j0 k a1 a2 (a1 == a2) l0_0) = some r := by rw [if_pos rfl] at H; exact H
      clear H
      have H := H1
      clear H1
      have H' := Aside0.mk H
      clear H
      have hcz8_0 : w5.cell? ⟨gb199, 0, none⟩ = some (.slice A0_0 l0_0.length c0_0) := (blk_cell BK199.out 0).trans rfl
      have hfz8_0 := blk_frozen BK199.out 0
      go_wp2_with (first | ((with_reducible refine gate_dst (N := 13) rfl ?_); (try (refine gate_guard (by rfl) ?_; dsimp only)); refine Kd.R_lit (Kd.int .i64) _ 3 ?hg (N := 13) ?hd (xs := ([a1, a2] : List Int)) (inner := [.int .i64 a1, .int .i64 a2]) (ok := fun _ => True) (okp := fun _ => True) ?hr ?hp (fun _ hk => hk) trivial (Below.refl _ _) (Nat.le_refl _) (by simp) ?_; (case hd => rfl); (case hg => rfl); (case hr => first | (go_simp; done) | (go_simp; rfl)); (case hp => exact (Reps.one (show Kd.M (Kd.int .i64) _ _ _ a1 [.int .i64 a1] from rfl) (Reps.one (show Kd.M (Kd.int .i64) _ _ _ a2 [.int .i64 a2] from rfl) (Reps.none _ _)))); intro v201 w9 ho10 hb hg_ hnew_; clear hg_ hnew_; (first | rw [← Ny200.out] at ho10 | (simp only [Int.reduceToNat] at ho10; rw [← Ny200.out] at ho10)); have n0_ := Aside0.mk (Kd.R_lower ho10 (below_size (by repeat (first | (with_reducible first | exact HB.out | apply below_alloc | apply pw_below_drewN | apply below_drew1 | refine below_set ?_ GE199.out) | exact HB.out)))); have n1_ := Aside0.mk (blk_below (g := gb199) (o := .cells #[.slice A0_0 l0_0.length c0_0] 30 (0, 0)) (by (with_reducible repeat (first | refine blk_drewN ?_ _ | refine blk_drew ?_ | refine blk_alloc ?_ _)); exact BK199.out) hb); have n2_ := Aside0.mk (below_step (by repeat (first | (with_reducible first | exact HB.out | apply below_alloc | apply pw_below_drewN | apply below_drew1 | refine below_set ?_ GE199.out) | exact HB.out)) hb); clear BK199; clear HB; have HO202 := n0_; have BK199 := n1_; have HB := n2_; clear n0_ n1_ n2_; clear hb ho10; obtain ⟨Ao11, co11, eo11⟩ := Kd.R_slice HO202.out; subst eo11) | ((with_reducible refine gate_callee (f := 76) rfl ?_); refine goesL_ (some 14) rfl rfl Try.func76 (by kernel_rfl) rfl #[.agg #[.slice A0_0 l0_0.length c0_0], .slice Ao11 y200.length co11] rfl (by (try simp only [List.map_toArray, List.map_cons, List.map_nil]); first | done | rfl | (simp only [List.length_drop, List.length_take]; rfl)) ?_; (with_reducible refine (impl_has.calls _ _ l0_0 _ _ y200 true _ ?side1 ?side2 ?side3 ?side4 A6.out).mono ?_); (case side1 => repeat (first | exact (Kd.C_below HR0_0.out HB.out) | (with_reducible refine Kd.C_alloc ?_ _) | (with_reducible refine Kd.C_drewN ?_ _) | (with_reducible refine Kd.C_drew ?_))); (case side2 => exact HC0_0.out); (case side3 => repeat (first | exact (Kd.R_reads' HO202.out).2.2 | (with_reducible refine Kd.C_alloc ?_ _) | (with_reducible refine Kd.C_drewN ?_ _) | (with_reducible refine Kd.C_drew ?_))); (case side4 => exact (Kd.R_reads' HO202.out).2.1); rintro e w12 ⟨rfl, hb⟩; refine ⟨_, rfl, ?_⟩; have n0_ := Aside0.mk (Kd.R_below (by (with_reducible repeat (first | apply Kd.R_alloc | apply Kd.R_drewN | apply Kd.R_drew)); exact HO202.out) hb); have n1_ := Aside0.mk (blk_below (g := gb199) (o := .cells #[.slice A0_0 l0_0.length c0_0] 30 (0, 0)) (by (with_reducible repeat (first | refine blk_drewN ?_ _ | refine blk_drew ?_ | refine blk_alloc ?_ _)); exact BK199.out) hb); have n2_ := Aside0.mk (below_step (by repeat (first | (with_reducible first | exact HB.out | apply below_alloc | apply pw_below_drewN | apply below_drew1 | refine below_set ?_ GE199.out) | exact HB.out)) hb); clear HO202; clear BK199; clear HB; have HO202 := n0_; have BK199 := n1_; have HB := n2_; clear n0_ n1_ n2_; (try clear hb); (try clear hb2); (try clear hk); (try clear hi)))
      go_meet
      case rel => exact ⟨_, ((a1 == a2)), (by first | rfl | (simp; done) | (simp [*]; done)), H', ⟨by first | omega | exact Nat.le_refl _⟩, ⟨by (with_reducible repeat (first | refine blk_drewN ?_ _ | refine blk_drew ?_ | refine blk_alloc ?_ _)); exact BK199.out⟩, ⟨by repeat (first | (with_reducible first | exact HB.out | apply below_alloc | apply pw_below_drewN | apply below_drew1 | refine below_set ?_ GE199.out) | exact HB.out)⟩⟩
    · replace c7 := Bool.eq_false_iff.mpr c7
      subst c7
      have H1 : (impl_canEnd.j0 k a1 a2 true l0_0) = some r := by rw [if_neg (show ¬ (false = true) by decide)] at H; exact H
      clear H
      have H := H1
      clear H1
      have H' := Aside0.mk H
      clear H
      have hcz13_0 : w5.cell? ⟨gb199, 0, none⟩ = some (.slice A0_0 l0_0.length c0_0) := (blk_cell BK199.out 0).trans rfl
      have hfz13_0 := blk_frozen BK199.out 0
      go_wp2_with (first | ((with_reducible refine gate_dst (N := 13) rfl ?_); (try (refine gate_guard (by rfl) ?_; dsimp only)); refine Kd.R_lit (Kd.int .i64) _ 3 ?hg (N := 13) ?hd (xs := ([a1, a2] : List Int)) (inner := [.int .i64 a1, .int .i64 a2]) (ok := fun _ => True) (okp := fun _ => True) ?hr ?hp (fun _ hk => hk) trivial (Below.refl _ _) (Nat.le_refl _) (by simp) ?_; (case hd => rfl); (case hg => rfl); (case hr => first | (go_simp; done) | (go_simp; rfl)); (case hp => exact (Reps.one (show Kd.M (Kd.int .i64) _ _ _ a1 [.int .i64 a1] from rfl) (Reps.one (show Kd.M (Kd.int .i64) _ _ _ a2 [.int .i64 a2] from rfl) (Reps.none _ _)))); intro v201 w14 ho15 hb hg_ hnew_; clear hg_ hnew_; (first | rw [← Ny200.out] at ho15 | (simp only [Int.reduceToNat] at ho15; rw [← Ny200.out] at ho15)); have n0_ := Aside0.mk (Kd.R_lower ho15 (below_size (by repeat (first | (with_reducible first | exact HB.out | apply below_alloc | apply pw_below_drewN | apply below_drew1 | refine below_set ?_ GE199.out) | exact HB.out)))); have n1_ := Aside0.mk (blk_below (g := gb199) (o := .cells #[.slice A0_0 l0_0.length c0_0] 30 (0, 0)) (by (with_reducible repeat (first | refine blk_drewN ?_ _ | refine blk_drew ?_ | refine blk_alloc ?_ _)); exact BK199.out) hb); have n2_ := Aside0.mk (below_step (by repeat (first | (with_reducible first | exact HB.out | apply below_alloc | apply pw_below_drewN | apply below_drew1 | refine below_set ?_ GE199.out) | exact HB.out)) hb); clear BK199; clear HB; have HO202 := n0_; have BK199 := n1_; have HB := n2_; clear n0_ n1_ n2_; clear hb ho15; obtain ⟨Ao16, co16, eo16⟩ := Kd.R_slice HO202.out; subst eo16) | ((with_reducible refine gate_callee (f := 76) rfl ?_); refine goesL_ (some 14) rfl rfl Try.func76 (by kernel_rfl) rfl #[.agg #[.slice A0_0 l0_0.length c0_0], .slice Ao16 y200.length co16] rfl (by (try simp only [List.map_toArray, List.map_cons, List.map_nil]); first | done | rfl | (simp only [List.length_drop, List.length_take]; rfl)) ?_; (with_reducible refine (impl_has.calls _ _ l0_0 _ _ y200 false _ ?side1 ?side2 ?side3 ?side4 A6.out).mono ?_); (case side1 => repeat (first | exact (Kd.C_below HR0_0.out HB.out) | (with_reducible refine Kd.C_alloc ?_ _) | (with_reducible refine Kd.C_drewN ?_ _) | (with_reducible refine Kd.C_drew ?_))); (case side2 => exact HC0_0.out); (case side3 => repeat (first | exact (Kd.R_reads' HO202.out).2.2 | (with_reducible refine Kd.C_alloc ?_ _) | (with_reducible refine Kd.C_drewN ?_ _) | (with_reducible refine Kd.C_drew ?_))); (case side4 => exact (Kd.R_reads' HO202.out).2.1); rintro e w17 ⟨rfl, hb⟩; refine ⟨_, rfl, ?_⟩; have n0_ := Aside0.mk (Kd.R_below (by (with_reducible repeat (first | apply Kd.R_alloc | apply Kd.R_drewN | apply Kd.R_drew)); exact HO202.out) hb); have n1_ := Aside0.mk (blk_below (g := gb199) (o := .cells #[.slice A0_0 l0_0.length c0_0] 30 (0, 0)) (by (with_reducible repeat (first | refine blk_drewN ?_ _ | refine blk_drew ?_ | refine blk_alloc ?_ _)); exact BK199.out) hb); have n2_ := Aside0.mk (below_step (by repeat (first | (with_reducible first | exact HB.out | apply below_alloc | apply pw_below_drewN | apply below_drew1 | refine below_set ?_ GE199.out) | exact HB.out)) hb); clear HO202; clear BK199; clear HB; have HO202 := n0_; have BK199 := n1_; have HB := n2_; clear n0_ n1_ n2_; (try clear hb); (try clear hb2); (try clear hk); (try clear hi)))
      go_meet
      case rel => exact ⟨_, (true), (by first | rfl | (simp; done) | (simp [*]; done)), H', ⟨by first | omega | exact Nat.le_refl _⟩, ⟨by (with_reducible repeat (first | refine blk_drewN ?_ _ | refine blk_drew ?_ | refine blk_alloc ?_ _)); exact BK199.out⟩, ⟨by repeat (first | (with_reducible first | exact HB.out | apply below_alloc | apply pw_below_drewN | apply below_drew1 | refine below_set ?_ GE199.out) | exact HB.out)⟩⟩
  case rest =>
    clear HC4
    try clear p2
    try clear c7
    try clear c8
    try clear hcz13_0
    try clear hcz8_0
    try clear hfz13_0
    try clear hfz8_0
    obtain ⟨kq, x20_3, rfl, HA, HJ3, BK199, HB⟩ := hcut
    cases kq with
    | zero => exact absurd HA.out (by simp [impl_canEnd.j0])
    | succ kj3 =>
      have H := HA.out
      clear HA
      simp only [impl_canEnd.j0] at H
      by_cases c18 : x20_3 = true
      · subst c18
        have H1 : (some false) = some r := by rw [if_pos rfl] at H; exact H
        clear H
        have H := H1
        clear H1
        obtain rfl := Option.some.inj H
        go_wp2
        go_ret
        exact ⟨by first | rfl | (simp [errW_none, errW_some] <;> rfl) | (simp [*, errW_none, errW_some] <;> rfl), by repeat (first | (with_reducible first | exact HB.out | apply below_alloc | apply pw_below_drewN | apply below_drew1 | refine below_set ?_ GE199.out) | exact HB.out)⟩
      · replace c18 := Bool.eq_false_iff.mpr c18
        subst c18
        have H1 : (impl_canEnd.l0 kj3 a1 a2 l0_0 (l0_0.length : Int) 0 l0_0) = some r := by rw [if_neg (show ¬ (false = true) by decide)] at H; exact H
        clear H
        have H := H1
        clear H1
        have H' := Aside0.mk H
        clear H
        have hcz19_0 : wc.cell? ⟨gb199, 0, none⟩ = some (.slice A0_0 l0_0.length c0_0) := (blk_cell BK199.out 0).trans rfl
        have hfz19_0 := blk_frozen BK199.out 0
        go_wp2
        go_loopg [24] kj3 (fun kq v24 w' => ∃ (x24_2 : Int), v24 = .int .i64 x24_2 ∧ Aside0 (impl_canEnd.l0 kq a1 a2 l0_0 (l0_0.length : Int) x24_2 l0_0 = some r) ∧ Aside0 (kq ≤ kj3) ∧ Aside0 (w'.heap[gb199]? = some (.cells #[(.slice A0_0 l0_0.length c0_0)] 30 (0, 0))) ∧ Aside0 (Below w.heap.size w w'))
        case atStart => exact ⟨(0), (by first | rfl | (simp; done) | (simp [*]; done)), H', ⟨Nat.le_refl _⟩, ⟨by (with_reducible repeat (first | refine blk_drewN ?_ _ | refine blk_drew ?_ | refine blk_alloc ?_ _)); exact BK199.out⟩, ⟨by repeat (first | (with_reducible first | exact HB.out | apply below_alloc | apply pw_below_drewN | apply below_drew1 | refine below_set ?_ GE199.out) | exact HB.out)⟩⟩
        case round =>
          clear H'
          try clear c1
          try clear p2
          try clear c7
          try clear c8
          try clear c18
          try clear hcz13_0
          try clear hcz19_0
          try clear hcz8_0
          try clear hfz13_0
          try clear hfz19_0
          try clear hfz8_0
          try clear p2
          obtain ⟨x24_2, rfl, HA, HK2, BK199, HB⟩ := hrel
          cases gk with
          | zero => exact absurd HA.out (by simp [impl_canEnd.l0])
          | succ k2 =>
            have H := HA.out
            clear HA
            simp only [impl_canEnd.l0] at H
            by_cases c20 : x24_2 < (l0_0.length : Int)
            · rw [if_pos c20] at H
              have c20b0 : decide (x24_2 < (l0_0.length : Int)) = true := decide_eq_true c20
              clear c20
              by_cases c21 : 0 ≤ x24_2
              · rw [if_pos c21] at H
                have c21b0 : decide (0 ≤ x24_2) = true := decide_eq_true c21
                clear c21
                by_cases c22 : x24_2 < (l0_0.length : Int)
                · rw [if_pos c22] at H
                  have c22b0 : decide (x24_2 < (l0_0.length : Int)) = true := decide_eq_true c22
                  clear c22
                  replace H := Option.bind_eq_some_iff.mp H
                  obtain ⟨t205, A230, H⟩ := H
                  replace H : (if 0 ≤ a1 then (if a1 < (t205.length : Int) then (if (rd t205 a1) < 0 then (if 0 ≤ a2 then (if a2 < (t205.length : Int) then (if (rd t205 a2) < 0 then (some false) else (if x24_2 = a1 then (impl_canEnd.l0 k2 a1 a2 l0_0 (l0_0.length : Int) (wrap64 (x24_2 + 1)) l0_0) else (if x24_2 = a2 then (impl_canEnd.l0 k2 a1 a2 l0_0 (l0_0.length : Int) (wrap64 (x24_2 + 1)) l0_0) else (if ((rd_L1 l0_0 x24_2).length : Int) = 0 then (some false) else (impl_canEnd.l0 k2 a1 a2 l0_0 (l0_0.length : Int) (wrap64 (x24_2 + 1)) l0_0))))) else (none)) else (none)) else (if x24_2 = a1 then (impl_canEnd.l0 k2 a1 a2 l0_0 (l0_0.length : Int) (wrap64 (x24_2 + 1)) l0_0) else (if x24_2 = a2 then (impl_canEnd.l0 k2 a1 a2 l0_0 (l0_0.length : Int) (wrap64 (x24_2 + 1)) l0_0) else (if ((rd_L1 l0_0 x24_2).length : Int) = 0 then (some false) else (impl_canEnd.l0 k2 a1 a2 l0_0 (l0_0.length : Int) (wrap64 (x24_2 + 1)) l0_0))))) else (none)) else (none)) = some r := H
                  have A23 := Aside0.mk A230
                  clear A230
                  by_cases c24 : 0 ≤ a1
                  · rw [if_pos c24] at H
                    have c24b0 : decide (0 ≤ a1) = true := decide_eq_true c24
                    clear c24
                    by_cases c25 : a1 < (t205.length : Int)
                    · rw [if_pos c25] at H
                      have c25b0 : decide (a1 < (t205.length : Int)) = true := decide_eq_true c25
                      clear c25
                      by_cases c26 : (rd t205 a1) < 0
                      · rw [if_pos c26] at H
                        have c26b0 : decide ((rd t205 a1) < 0) = true := decide_eq_true c26
                        clear c26
                        by_cases c27 : 0 ≤ a2
                        · rw [if_pos c27] at H
                          have c27b0 : decide (0 ≤ a2) = true := decide_eq_true c27
                          clear c27
                          by_cases c28 : a2 < (t205.length : Int)
                          · rw [if_pos c28] at H
                            have c28b0 : decide (a2 < (t205.length : Int)) = true := decide_eq_true c28
                            clear c28
                            by_cases c29 : (rd t205 a2) < 0
                            · rw [if_pos c29] at H
                              have c29b0 : decide ((rd t205 a2) < 0) = true := decide_eq_true c29
                              clear c29
                              obtain rfl := Option.some.inj H
                              have p204 : 0 ≤ (x24_2 : Int) := of_decide_eq_true (by first | (with_reducible assumption) | assumption)
                              have q204 : x24_2 < (l0_0.length : Int) := of_decide_eq_true (by first | (with_reducible assumption) | assumption)
                              obtain ⟨ad204, A204_0, c204_0, e204, hx204_0, hl204_0, hi204_0⟩ := at_L1 HR0_0.out x24_2 p204 q204
                              cases e204
                              replace hx204_0 := (HB.out.cell (World.block_lt_of_cell? w _ hx204_0)).trans hx204_0
                              have HR204_0 := Aside0.mk hi204_0
                              have HC204_0 := Aside0.mk hl204_0
                              clear hi204_0 hl204_0
                              replace p204 := eq_true p204
                              replace q204 := eq_true q204
                              have hcz30_0 : wr.cell? ⟨gb199, 0, none⟩ = some (.slice (some ad204) l0_0.length c0_0) := (blk_cell BK199.out 0).trans rfl
                              have hfz30_0 := blk_frozen BK199.out 0
                              go_wp2_with (first | ((with_reducible refine gate_callee (f := 112) rfl ?_); refine goesL_ (some 31) rfl rfl Try.func112 (by kernel_rfl) rfl #[.agg #[.slice (some ad204) l0_0.length c0_0], .int .i64 x24_2] rfl (by (try simp only [List.map_toArray, List.map_cons, List.map_nil]); first | done | rfl | (simp only [List.length_drop, List.length_take]; rfl)) ?_; (with_reducible refine (impl_Graph_lengths.calls k2 _ _ l0_0 x24_2 t205 _ ?side1 ?side2 A23.out).mono ?_); (case side1 => repeat (first | exact (Kd.C_below HR0_0.out HB.out) | (with_reducible refine Kd.C_alloc ?_ _) | (with_reducible refine Kd.C_drewN ?_ _) | (with_reducible refine Kd.C_drew ?_))); (case side2 => exact HC0_0.out); rintro e w31 ⟨v206, rfl, ho0, hb⟩; refine ⟨_, rfl, ?_⟩; have n0_ := Aside0.mk (Kd.R_lower ho0 (below_size (by repeat (first | (with_reducible first | exact HB.out | apply below_alloc | apply pw_below_drewN | apply below_drew1 | refine below_set ?_ GE199.out) | exact HB.out)))); have n1_ := Aside0.mk (blk_below (g := gb199) (o := .cells #[.slice (some ad204) l0_0.length c0_0] 30 (0, 0)) (by (with_reducible repeat (first | refine blk_drewN ?_ _ | refine blk_drew ?_ | refine blk_alloc ?_ _)); exact BK199.out) hb); have n2_ := Aside0.mk (below_step (by repeat (first | (with_reducible first | exact HB.out | apply below_alloc | apply pw_below_drewN | apply below_drew1 | refine below_set ?_ GE199.out) | exact HB.out)) hb); clear BK199; clear HB; have HO207 := n0_; have BK199 := n1_; have HB := n2_; clear n0_ n1_ n2_; (try clear hb); (try clear hb2); (try clear hk); (try clear hi); (try clear ho0); obtain ⟨Ao32, co32, eo32⟩ := Kd.R_slice HO207.out; subst eo32; have p208 : 0 ≤ (a1 : Int) := of_decide_eq_true (by first | (with_reducible assumption) | assumption); have q208 : a1 < (t205.length : Int) := of_decide_eq_true (by first | (with_reducible assumption) | assumption); obtain ⟨ad208, e208, hx208_0⟩ := Kd.at_int (Kd.R_reads' HO207.out).2.2 a1 p208 q208; cases e208; replace p208 := eq_true p208; replace q208 := eq_true q208; have p209 : 0 ≤ (a2 : Int) := of_decide_eq_true (by first | (with_reducible assumption) | assumption); have q209 : a2 < (t205.length : Int) := of_decide_eq_true (by first | (with_reducible assumption) | assumption); obtain ⟨ad209, e209, hx209_0⟩ := Kd.at_int (Kd.R_reads' HO207.out).2.2 a2 p209 q209; obtain rfl : ad208 = ad209 := (by injection e209); replace p209 := eq_true p209; replace q209 := eq_true q209))
                              go_ret
                              exact ⟨by first | rfl | (simp [errW_none, errW_some] <;> rfl) | (simp [*, errW_none, errW_some] <;> rfl), by repeat (first | (with_reducible first | exact HB.out | apply below_alloc | apply pw_below_drewN | apply below_drew1 | refine below_set ?_ GE199.out) | exact HB.out)⟩
                            · rw [if_neg c29] at H
                              have c29b0 : decide ((rd t205 a2) < 0) = false := decide_eq_false c29
                              clear c29
                              by_cases c33 : x24_2 = a1
                              · rw [if_pos c33] at H
                                have c33b0 : (x24_2 == a1) = true := beq_iff_eq.mpr c33
                                have c33b1 : (x24_2 != a1) = false := bne_eq_false_iff_eq.mpr c33
                                clear c33
                                have H' := Aside0.mk H
                                clear H
                                have p204 : 0 ≤ (x24_2 : Int) := of_decide_eq_true (by first | (with_reducible assumption) | assumption)
                                have q204 : x24_2 < (l0_0.length : Int) := of_decide_eq_true (by first | (with_reducible assumption) | assumption)
                                obtain ⟨ad204, A204_0, c204_0, e204, hx204_0, hl204_0, hi204_0⟩ := at_L1 HR0_0.out x24_2 p204 q204
                                cases e204
                                replace hx204_0 := (HB.out.cell (World.block_lt_of_cell? w _ hx204_0)).trans hx204_0
                                have HR204_0 := Aside0.mk hi204_0
                                have HC204_0 := Aside0.mk hl204_0
                                clear hi204_0 hl204_0
                                replace p204 := eq_true p204
                                replace q204 := eq_true q204
                                have hcz34_0 : wr.cell? ⟨gb199, 0, none⟩ = some (.slice (some ad204) l0_0.length c0_0) := (blk_cell BK199.out 0).trans rfl
                                have hfz34_0 := blk_frozen BK199.out 0
                                go_wp2_with (first | ((with_reducible refine gate_callee (f := 112) rfl ?_); refine goesL_ (some 31) rfl rfl Try.func112 (by kernel_rfl) rfl #[.agg #[.slice (some ad204) l0_0.length c0_0], .int .i64 x24_2] rfl (by (try simp only [List.map_toArray, List.map_cons, List.map_nil]); first | done | rfl | (simp only [List.length_drop, List.length_take]; rfl)) ?_; (with_reducible refine (impl_Graph_lengths.calls k2 _ _ l0_0 x24_2 t205 _ ?side1 ?side2 A23.out).mono ?_); (case side1 => repeat (first | exact (Kd.C_below HR0_0.out HB.out) | (with_reducible refine Kd.C_alloc ?_ _) | (with_reducible refine Kd.C_drewN ?_ _) | (with_reducible refine Kd.C_drew ?_))); (case side2 => exact HC0_0.out); rintro e w35 ⟨v206, rfl, ho0, hb⟩; refine ⟨_, rfl, ?_⟩; have n0_ := Aside0.mk (Kd.R_lower ho0 (below_size (by repeat (first | (with_reducible first | exact HB.out | apply below_alloc | apply pw_below_drewN | apply below_drew1 | refine below_set ?_ GE199.out) | exact HB.out)))); have n1_ := Aside0.mk (blk_below (g := gb199) (o := .cells #[.slice (some ad204) l0_0.length c0_0] 30 (0, 0)) (by (with_reducible repeat (first | refine blk_drewN ?_ _ | refine blk_drew ?_ | refine blk_alloc ?_ _)); exact BK199.out) hb); have n2_ := Aside0.mk (below_step (by repeat (first | (with_reducible first | exact HB.out | apply below_alloc | apply pw_below_drewN | apply below_drew1 | refine below_set ?_ GE199.out) | exact HB.out)) hb); clear BK199; clear HB; have HO207 := n0_; have BK199 := n1_; have HB := n2_; clear n0_ n1_ n2_; (try clear hb); (try clear hb2); (try clear hk); (try clear hi); (try clear ho0); obtain ⟨Ao36, co36, eo36⟩ := Kd.R_slice HO207.out; subst eo36; have p208 : 0 ≤ (a1 : Int) := of_decide_eq_true (by first | (with_reducible assumption) | assumption); have q208 : a1 < (t205.length : Int) := of_decide_eq_true (by first | (with_reducible assumption) | assumption); obtain ⟨ad208, e208, hx208_0⟩ := Kd.at_int (Kd.R_reads' HO207.out).2.2 a1 p208 q208; cases e208; replace p208 := eq_true p208; replace q208 := eq_true q208; have p209 : 0 ≤ (a2 : Int) := of_decide_eq_true (by first | (with_reducible assumption) | assumption); have q209 : a2 < (t205.length : Int) := of_decide_eq_true (by first | (with_reducible assumption) | assumption); obtain ⟨ad209, e209, hx209_0⟩ := Kd.at_int (Kd.R_reads' HO207.out).2.2 a2 p209 q209; obtain rfl : ad208 = ad209 := (by injection e209); replace p209 := eq_true p209; replace q209 := eq_true q209))
                                go_roundg k2
                                case measure => have := HJ3.out; have := HK2.out; omega
                                case rel => exact ⟨(wrap64 (x24_2 + 1)), (by first | rfl | (simp; done) | (simp [*]; done)), H', ⟨by have := HJ3.out; have := HK2.out; omega⟩, ⟨by (with_reducible repeat (first | refine blk_drewN ?_ _ | refine blk_drew ?_ | refine blk_alloc ?_ _)); exact BK199.out⟩, ⟨by repeat (first | (with_reducible first | exact HB.out | apply below_alloc | apply pw_below_drewN | apply below_drew1 | refine below_set ?_ GE199.out) | exact HB.out)⟩⟩
                              · rw [if_neg c33] at H
                                have c33b0 : (x24_2 == a1) = false := beq_eq_false_iff_ne.mpr c33
                                have c33b1 : (x24_2 != a1) = true := bne_iff_ne.mpr c33
                                by_cases c37 : x24_2 = a2
                                · rw [if_pos c37] at H
                                  have c37b0 : (x24_2 == a2) = true := beq_iff_eq.mpr c37
                                  have c37b1 : (x24_2 != a2) = false := bne_eq_false_iff_eq.mpr c37
                                  clear c37
                                  have H' := Aside0.mk H
                                  clear H
                                  have p204 : 0 ≤ (x24_2 : Int) := of_decide_eq_true (by first | (with_reducible assumption) | assumption)
                                  have q204 : x24_2 < (l0_0.length : Int) := of_decide_eq_true (by first | (with_reducible assumption) | assumption)
                                  obtain ⟨ad204, A204_0, c204_0, e204, hx204_0, hl204_0, hi204_0⟩ := at_L1 HR0_0.out x24_2 p204 q204
                                  cases e204
                                  replace hx204_0 := (HB.out.cell (World.block_lt_of_cell? w _ hx204_0)).trans hx204_0
                                  have HR204_0 := Aside0.mk hi204_0
                                  have HC204_0 := Aside0.mk hl204_0
                                  clear hi204_0 hl204_0
                                  replace p204 := eq_true p204
                                  replace q204 := eq_true q204
                                  have hcz38_0 : wr.cell? ⟨gb199, 0, none⟩ = some (.slice (some ad204) l0_0.length c0_0) := (blk_cell BK199.out 0).trans rfl
                                  have hfz38_0 := blk_frozen BK199.out 0
                                  go_wp2_with (first | ((with_reducible refine gate_callee (f := 112) rfl ?_); refine goesL_ (some 31) rfl rfl Try.func112 (by kernel_rfl) rfl #[.agg #[.slice (some ad204) l0_0.length c0_0], .int .i64 x24_2] rfl (by (try simp only [List.map_toArray, List.map_cons, List.map_nil]); first | done | rfl | (simp only [List.length_drop, List.length_take]; rfl)) ?_; (with_reducible refine (impl_Graph_lengths.calls k2 _ _ l0_0 x24_2 t205 _ ?side1 ?side2 A23.out).mono ?_); (case side1 => repeat (first | exact (Kd.C_below HR0_0.out HB.out) | (with_reducible refine Kd.C_alloc ?_ _) | (with_reducible refine Kd.C_drewN ?_ _) | (with_reducible refine Kd.C_drew ?_))); (case side2 => exact HC0_0.out); rintro e w39 ⟨v206, rfl, ho0, hb⟩; refine ⟨_, rfl, ?_⟩; have n0_ := Aside0.mk (Kd.R_lower ho0 (below_size (by repeat (first | (with_reducible first | exact HB.out | apply below_alloc | apply pw_below_drewN | apply below_drew1 | refine below_set ?_ GE199.out) | exact HB.out)))); have n1_ := Aside0.mk (blk_below (g := gb199) (o := .cells #[.slice (some ad204) l0_0.length c0_0] 30 (0, 0)) (by (with_reducible repeat (first | refine blk_drewN ?_ _ | refine blk_drew ?_ | refine blk_alloc ?_ _)); exact BK199.out) hb); have n2_ := Aside0.mk (below_step (by repeat (first | (with_reducible first | exact HB.out | apply below_alloc | apply pw_below_drewN | apply below_drew1 | refine below_set ?_ GE199.out) | exact HB.out)) hb); clear BK199; clear HB; have HO207 := n0_; have BK199 := n1_; have HB := n2_; clear n0_ n1_ n2_; (try clear hb); (try clear hb2); (try clear hk); (try clear hi); (try clear ho0); obtain ⟨Ao40, co40, eo40⟩ := Kd.R_slice HO207.out; subst eo40; have p208 : 0 ≤ (a1 : Int) := of_decide_eq_true (by first | (with_reducible assumption) | assumption); have q208 : a1 < (t205.length : Int) := of_decide_eq_true (by first | (with_reducible assumption) | assumption); obtain ⟨ad208, e208, hx208_0⟩ := Kd.at_int (Kd.R_reads' HO207.out).2.2 a1 p208 q208; cases e208; replace p208 := eq_true p208; replace q208 := eq_true q208; have p209 : 0 ≤ (a2 : Int) := of_decide_eq_true (by first | (with_reducible assumption) | assumption); have q209 : a2 < (t205.length : Int) := of_decide_eq_true (by first | (with_reducible assumption) | assumption); obtain ⟨ad209, e209, hx209_0⟩ := Kd.at_int (Kd.R_reads' HO207.out).2.2 a2 p209 q209; obtain rfl : ad208 = ad209 := (by injection e209); replace p209 := eq_true p209; replace q209 := eq_true q209))
                                  go_roundg k2
                                  case measure => have := HJ3.out; have := HK2.out; omega
                                  case rel => exact ⟨(wrap64 (x24_2 + 1)), (by first | rfl | (simp; done) | (simp [*]; done)), H', ⟨by have := HJ3.out; have := HK2.out; omega⟩, ⟨by (with_reducible repeat (first | refine blk_drewN ?_ _ | refine blk_drew ?_ | refine blk_alloc ?_ _)); exact BK199.out⟩, ⟨by repeat (first | (with_reducible first | exact HB.out | apply below_alloc | apply pw_below_drewN | apply below_drew1 | refine below_set ?_ GE199.out) | exact HB.out)⟩⟩
                                · rw [if_neg c37] at H
                                  have c37b0 : (x24_2 == a2) = false := beq_eq_false_iff_ne.mpr c37
                                  have c37b1 : (x24_2 != a2) = true := bne_iff_ne.mpr c37
                                  by_cases c41 : ((rd_L1 l0_0 x24_2).length : Int) = 0
                                  · rw [if_pos c41] at H
                                    have c41b0 : (((rd_L1 l0_0 x24_2).length : Int) == 0) = true := beq_iff_eq.mpr c41
                                    have c41b1 : (((rd_L1 l0_0 x24_2).length : Int) != 0) = false := bne_eq_false_iff_eq.mpr c41
                                    clear c41
                                    obtain rfl := Option.some.inj H
                                    have p204 : 0 ≤ (x24_2 : Int) := of_decide_eq_true (by first | (with_reducible assumption) | assumption)
                                    have q204 : x24_2 < (l0_0.length : Int) := of_decide_eq_true (by first | (with_reducible assumption) | assumption)
                                    obtain ⟨ad204, A204_0, c204_0, e204, hx204_0, hl204_0, hi204_0⟩ := at_L1 HR0_0.out x24_2 p204 q204
                                    cases e204
                                    replace hx204_0 := (HB.out.cell (World.block_lt_of_cell? w _ hx204_0)).trans hx204_0
                                    have HR204_0 := Aside0.mk hi204_0
                                    have HC204_0 := Aside0.mk hl204_0
                                    clear hi204_0 hl204_0
                                    replace p204 := eq_true p204
                                    replace q204 := eq_true q204
                                    have hcz42_0 : wr.cell? ⟨gb199, 0, none⟩ = some (.slice (some ad204) l0_0.length c0_0) := (blk_cell BK199.out 0).trans rfl
                                    have hfz42_0 := blk_frozen BK199.out 0
                                    go_wp2_with (first | ((with_reducible refine gate_callee (f := 112) rfl ?_); refine goesL_ (some 31) rfl rfl Try.func112 (by kernel_rfl) rfl #[.agg #[.slice (some ad204) l0_0.length c0_0], .int .i64 x24_2] rfl (by (try simp only [List.map_toArray, List.map_cons, List.map_nil]); first | done | rfl | (simp only [List.length_drop, List.length_take]; rfl)) ?_; (with_reducible refine (impl_Graph_lengths.calls k2 _ _ l0_0 x24_2 t205 _ ?side1 ?side2 A23.out).mono ?_); (case side1 => repeat (first | exact (Kd.C_below HR0_0.out HB.out) | (with_reducible refine Kd.C_alloc ?_ _) | (with_reducible refine Kd.C_drewN ?_ _) | (with_reducible refine Kd.C_drew ?_))); (case side2 => exact HC0_0.out); rintro e w43 ⟨v206, rfl, ho0, hb⟩; refine ⟨_, rfl, ?_⟩; have n0_ := Aside0.mk (Kd.R_lower ho0 (below_size (by repeat (first | (with_reducible first | exact HB.out | apply below_alloc | apply pw_below_drewN | apply below_drew1 | refine below_set ?_ GE199.out) | exact HB.out)))); have n1_ := Aside0.mk (blk_below (g := gb199) (o := .cells #[.slice (some ad204) l0_0.length c0_0] 30 (0, 0)) (by (with_reducible repeat (first | refine blk_drewN ?_ _ | refine blk_drew ?_ | refine blk_alloc ?_ _)); exact BK199.out) hb); have n2_ := Aside0.mk (below_step (by repeat (first | (with_reducible first | exact HB.out | apply below_alloc | apply pw_below_drewN | apply below_drew1 | refine below_set ?_ GE199.out) | exact HB.out)) hb); clear BK199; clear HB; have HO207 := n0_; have BK199 := n1_; have HB := n2_; clear n0_ n1_ n2_; (try clear hb); (try clear hb2); (try clear hk); (try clear hi); (try clear ho0); obtain ⟨Ao44, co44, eo44⟩ := Kd.R_slice HO207.out; subst eo44; have p208 : 0 ≤ (a1 : Int) := of_decide_eq_true (by first | (with_reducible assumption) | assumption); have q208 : a1 < (t205.length : Int) := of_decide_eq_true (by first | (with_reducible assumption) | assumption); obtain ⟨ad208, e208, hx208_0⟩ := Kd.at_int (Kd.R_reads' HO207.out).2.2 a1 p208 q208; cases e208; replace p208 := eq_true p208; replace q208 := eq_true q208; have p209 : 0 ≤ (a2 : Int) := of_decide_eq_true (by first | (with_reducible assumption) | assumption); have q209 : a2 < (t205.length : Int) := of_decide_eq_true (by first | (with_reducible assumption) | assumption); obtain ⟨ad209, e209, hx209_0⟩ := Kd.at_int (Kd.R_reads' HO207.out).2.2 a2 p209 q209; obtain rfl : ad208 = ad209 := (by injection e209); replace p209 := eq_true p209; replace q209 := eq_true q209))
                                    go_ret
                                    exact ⟨by first | rfl | (simp [errW_none, errW_some] <;> rfl) | (simp [*, errW_none, errW_some] <;> rfl), by repeat (first | (with_reducible first | exact HB.out | apply below_alloc | apply pw_below_drewN | apply below_drew1 | refine below_set ?_ GE199.out) | exact HB.out)⟩
                                  · rw [if_neg c41] at H
                                    have c41b0 : (((rd_L1 l0_0 x24_2).length : Int) == 0) = false := beq_eq_false_iff_ne.mpr c41
                                    have c41b1 : (((rd_L1 l0_0 x24_2).length : Int) != 0) = true := bne_iff_ne.mpr c41
                                    have c41b2 : ¬ ((rd_L1 l0_0 x24_2) = []) := fun h_ => c41 (by rw [h_]; rfl)
                                    have H' := Aside0.mk H
                                    clear H
                                    have p204 : 0 ≤ (x24_2 : Int) := of_decide_eq_true (by first | (with_reducible assumption) | assumption)
                                    have q204 : x24_2 < (l0_0.length : Int) := of_decide_eq_true (by first | (with_reducible assumption) | assumption)
                                    obtain ⟨ad204, A204_0, c204_0, e204, hx204_0, hl204_0, hi204_0⟩ := at_L1 HR0_0.out x24_2 p204 q204
                                    cases e204
                                    replace hx204_0 := (HB.out.cell (World.block_lt_of_cell? w _ hx204_0)).trans hx204_0
                                    have HR204_0 := Aside0.mk hi204_0
                                    have HC204_0 := Aside0.mk hl204_0
                                    clear hi204_0 hl204_0
                                    replace p204 := eq_true p204
                                    replace q204 := eq_true q204
                                    have hcz45_0 : wr.cell? ⟨gb199, 0, none⟩ = some (.slice (some ad204) l0_0.length c0_0) := (blk_cell BK199.out 0).trans rfl
                                    have hfz45_0 := blk_frozen BK199.out 0
                                    go_wp2_with (first | ((with_reducible refine gate_callee (f := 112) rfl ?_); refine goesL_ (some 31) rfl rfl Try.func112 (by kernel_rfl) rfl #[.agg #[.slice (some ad204) l0_0.length c0_0], .int .i64 x24_2] rfl (by (try simp only [List.map_toArray, List.map_cons, List.map_nil]); first | done | rfl | (simp only [List.length_drop, List.length_take]; rfl)) ?_; (with_reducible refine (impl_Graph_lengths.calls k2 _ _ l0_0 x24_2 t205 _ ?side1 ?side2 A23.out).mono ?_); (case side1 => repeat (first | exact (Kd.C_below HR0_0.out HB.out) | (with_reducible refine Kd.C_alloc ?_ _) | (with_reducible refine Kd.C_drewN ?_ _) | (with_reducible refine Kd.C_drew ?_))); (case side2 => exact HC0_0.out); rintro e w46 ⟨v206, rfl, ho0, hb⟩; refine ⟨_, rfl, ?_⟩; have n0_ := Aside0.mk (Kd.R_lower ho0 (below_size (by repeat (first | (with_reducible first | exact HB.out | apply below_alloc | apply pw_below_drewN | apply below_drew1 | refine below_set ?_ GE199.out) | exact HB.out)))); have n1_ := Aside0.mk (blk_below (g := gb199) (o := .cells #[.slice (some ad204) l0_0.length c0_0] 30 (0, 0)) (by (with_reducible repeat (first | refine blk_drewN ?_ _ | refine blk_drew ?_ | refine blk_alloc ?_ _)); exact BK199.out) hb); have n2_ := Aside0.mk (below_step (by repeat (first | (with_reducible first | exact HB.out | apply below_alloc | apply pw_below_drewN | apply below_drew1 | refine below_set ?_ GE199.out) | exact HB.out)) hb); clear BK199; clear HB; have HO207 := n0_; have BK199 := n1_; have HB := n2_; clear n0_ n1_ n2_; (try clear hb); (try clear hb2); (try clear hk); (try clear hi); (try clear ho0); obtain ⟨Ao47, co47, eo47⟩ := Kd.R_slice HO207.out; subst eo47; have p208 : 0 ≤ (a1 : Int) := of_decide_eq_true (by first | (with_reducible assumption) | assumption); have q208 : a1 < (t205.length : Int) := of_decide_eq_true (by first | (with_reducible assumption) | assumption); obtain ⟨ad208, e208, hx208_0⟩ := Kd.at_int (Kd.R_reads' HO207.out).2.2 a1 p208 q208; cases e208; replace p208 := eq_true p208; replace q208 := eq_true q208; have p209 : 0 ≤ (a2 : Int) := of_decide_eq_true (by first | (with_reducible assumption) | assumption); have q209 : a2 < (t205.length : Int) := of_decide_eq_true (by first | (with_reducible assumption) | assumption); obtain ⟨ad209, e209, hx209_0⟩ := Kd.at_int (Kd.R_reads' HO207.out).2.2 a2 p209 q209; obtain rfl : ad208 = ad209 := (by injection e209); replace p209 := eq_true p209; replace q209 := eq_true q209))
                                    go_roundg k2
                                    case measure => have := HJ3.out; have := HK2.out; omega
                                    case rel => exact ⟨(wrap64 (x24_2 + 1)), (by first | rfl | (simp; done) | (simp [*]; done)), H', ⟨by have := HJ3.out; have := HK2.out; omega⟩, ⟨by (with_reducible repeat (first | refine blk_drewN ?_ _ | refine blk_drew ?_ | refine blk_alloc ?_ _)); exact BK199.out⟩, ⟨by repeat (first | (with_reducible first | exact HB.out | apply below_alloc | apply pw_below_drewN | apply below_drew1 | refine below_set ?_ GE199.out) | exact HB.out)⟩⟩
                          · rw [if_neg c28] at H
                            exact absurd H (by simp)
                        · rw [if_neg c27] at H
                          exact absurd H (by simp)
                      · rw [if_neg c26] at H
                        have c26b0 : decide ((rd t205 a1) < 0) = false := decide_eq_false c26
                        clear c26
                        by_cases c48 : x24_2 = a1
                        · rw [if_pos c48] at H
                          have c48b0 : (x24_2 == a1) = true := beq_iff_eq.mpr c48
                          have c48b1 : (x24_2 != a1) = false := bne_eq_false_iff_eq.mpr c48
                          clear c48
                          have H' := Aside0.mk H
                          clear H
                          have p204 : 0 ≤ (x24_2 : Int) := of_decide_eq_true (by first | (with_reducible assumption) | assumption)
                          have q204 : x24_2 < (l0_0.length : Int) := of_decide_eq_true (by first | (with_reducible assumption) | assumption)
                          obtain ⟨ad204, A204_0, c204_0, e204, hx204_0, hl204_0, hi204_0⟩ := at_L1 HR0_0.out x24_2 p204 q204
                          cases e204
                          replace hx204_0 := (HB.out.cell (World.block_lt_of_cell? w _ hx204_0)).trans hx204_0
                          have HR204_0 := Aside0.mk hi204_0
                          have HC204_0 := Aside0.mk hl204_0
                          clear hi204_0 hl204_0
                          replace p204 := eq_true p204
                          replace q204 := eq_true q204
                          have hcz49_0 : wr.cell? ⟨gb199, 0, none⟩ = some (.slice (some ad204) l0_0.length c0_0) := (blk_cell BK199.out 0).trans rfl
                          have hfz49_0 := blk_frozen BK199.out 0
                          go_wp2_with (first | ((with_reducible refine gate_callee (f := 112) rfl ?_); refine goesL_ (some 31) rfl rfl Try.func112 (by kernel_rfl) rfl #[.agg #[.slice (some ad204) l0_0.length c0_0], .int .i64 x24_2] rfl (by (try simp only [List.map_toArray, List.map_cons, List.map_nil]); first | done | rfl | (simp only [List.length_drop, List.length_take]; rfl)) ?_; (with_reducible refine (impl_Graph_lengths.calls k2 _ _ l0_0 x24_2 t205 _ ?side1 ?side2 A23.out).mono ?_); (case side1 => repeat (first | exact (Kd.C_below HR0_0.out HB.out) | (with_reducible refine Kd.C_alloc ?_ _) | (with_reducible refine Kd.C_drewN ?_ _) | (with_reducible refine Kd.C_drew ?_))); (case side2 => exact HC0_0.out); rintro e w50 ⟨v206, rfl, ho0, hb⟩; refine ⟨_, rfl, ?_⟩; have n0_ := Aside0.mk (Kd.R_lower ho0 (below_size (by repeat (first | (with_reducible first | exact HB.out | apply below_alloc | apply pw_below_drewN | apply below_drew1 | refine below_set ?_ GE199.out) | exact HB.out)))); have n1_ := Aside0.mk (blk_below (g := gb199) (o := .cells #[.slice (some ad204) l0_0.length c0_0] 30 (0, 0)) (by (with_reducible repeat (first | refine blk_drewN ?_ _ | refine blk_drew ?_ | refine blk_alloc ?_ _)); exact BK199.out) hb); have n2_ := Aside0.mk (below_step (by repeat (first | (with_reducible first | exact HB.out | apply below_alloc | apply pw_below_drewN | apply below_drew1 | refine below_set ?_ GE199.out) | exact HB.out)) hb); clear BK199; clear HB; have HO207 := n0_; have BK199 := n1_; have HB := n2_; clear n0_ n1_ n2_; (try clear hb); (try clear hb2); (try clear hk); (try clear hi); (try clear ho0); obtain ⟨Ao51, co51, eo51⟩ := Kd.R_slice HO207.out; subst eo51; have p208 : 0 ≤ (a1 : Int) := of_decide_eq_true (by first | (with_reducible assumption) | assumption); have q208 : a1 < (t205.length : Int) := of_decide_eq_true (by first | (with_reducible assumption) | assumption); obtain ⟨ad208, e208, hx208_0⟩ := Kd.at_int (Kd.R_reads' HO207.out).2.2 a1 p208 q208; cases e208; replace p208 := eq_true p208; replace q208 := eq_true q208))
                          go_roundg k2
                          case measure => have := HJ3.out; have := HK2.out; omega
                          case rel => exact ⟨(wrap64 (x24_2 + 1)), (by first | rfl | (simp; done) | (simp [*]; done)), H', ⟨by have := HJ3.out; have := HK2.out; omega⟩, ⟨by (with_reducible repeat (first | refine blk_drewN ?_ _ | refine blk_drew ?_ | refine blk_alloc ?_ _)); exact BK199.out⟩, ⟨by repeat (first | (with_reducible first | exact HB.out | apply below_alloc | apply pw_below_drewN | apply below_drew1 | refine below_set ?_ GE199.out) | exact HB.out)⟩⟩
                        · rw [if_neg c48] at H
                          have c48b0 : (x24_2 == a1) = false := beq_eq_false_iff_ne.mpr c48
                          have c48b1 : (x24_2 != a1) = true := bne_iff_ne.mpr c48
                          by_cases c52 : x24_2 = a2
                          · rw [if_pos c52] at H
                            have c52b0 : (x24_2 == a2) = true := beq_iff_eq.mpr c52
                            have c52b1 : (x24_2 != a2) = false := bne_eq_false_iff_eq.mpr c52
                            clear c52
                            have H' := Aside0.mk H
                            clear H
                            have p204 : 0 ≤ (x24_2 : Int) := of_decide_eq_true (by first | (with_reducible assumption) | assumption)
                            have q204 : x24_2 < (l0_0.length : Int) := of_decide_eq_true (by first | (with_reducible assumption) | assumption)
                            obtain ⟨ad204, A204_0, c204_0, e204, hx204_0, hl204_0, hi204_0⟩ := at_L1 HR0_0.out x24_2 p204 q204
                            cases e204
                            replace hx204_0 := (HB.out.cell (World.block_lt_of_cell? w _ hx204_0)).trans hx204_0
                            have HR204_0 := Aside0.mk hi204_0
                            have HC204_0 := Aside0.mk hl204_0
                            clear hi204_0 hl204_0
                            replace p204 := eq_true p204
                            replace q204 := eq_true q204
                            have hcz53_0 : wr.cell? ⟨gb199, 0, none⟩ = some (.slice (some ad204) l0_0.length c0_0) := (blk_cell BK199.out 0).trans rfl
                            have hfz53_0 := blk_frozen BK199.out 0
                            go_wp2_with (first | ((with_reducible refine gate_callee (f := 112) rfl ?_); refine goesL_ (some 31) rfl rfl Try.func112 (by kernel_rfl) rfl #[.agg #[.slice (some ad204) l0_0.length c0_0], .int .i64 x24_2] rfl (by (try simp only [List.map_toArray, List.map_cons, List.map_nil]); first | done | rfl | (simp only [List.length_drop, List.length_take]; rfl)) ?_; (with_reducible refine (impl_Graph_lengths.calls k2 _ _ l0_0 x24_2 t205 _ ?side1 ?side2 A23.out).mono ?_); (case side1 => repeat (first | exact (Kd.C_below HR0_0.out HB.out) | (with_reducible refine Kd.C_alloc ?_ _) | (with_reducible refine Kd.C_drewN ?_ _) | (with_reducible refine Kd.C_drew ?_))); (case side2 => exact HC0_0.out); rintro e w54 ⟨v206, rfl, ho0, hb⟩; refine ⟨_, rfl, ?_⟩; have n0_ := Aside0.mk (Kd.R_lower ho0 (below_size (by repeat (first | (with_reducible first | exact HB.out | apply below_alloc | apply pw_below_drewN | apply below_drew1 | refine below_set ?_ GE199.out) | exact HB.out)))); have n1_ := Aside0.mk (blk_below (g := gb199) (o := .cells #[.slice (some ad204) l0_0.length c0_0] 30 (0, 0)) (by (with_reducible repeat (first | refine blk_drewN ?_ _ | refine blk_drew ?_ | refine blk_alloc ?_ _)); exact BK199.out) hb); have n2_ := Aside0.mk (below_step (by repeat (first | (with_reducible first | exact HB.out | apply below_alloc | apply pw_below_drewN | apply below_drew1 | refine below_set ?_ GE199.out) | exact HB.out)) hb); clear BK199; clear HB; have HO207 := n0_; have BK199 := n1_; have HB := n2_; clear n0_ n1_ n2_; (try clear hb); (try clear hb2); (try clear hk); (try clear hi); (try clear ho0); obtain ⟨Ao55, co55, eo55⟩ := Kd.R_slice HO207.out; subst eo55; have p208 : 0 ≤ (a1 : Int) := of_decide_eq_true (by first | (with_reducible assumption) | assumption); have q208 : a1 < (t205.length : Int) := of_decide_eq_true (by first | (with_reducible assumption) | assumption); obtain ⟨ad208, e208, hx208_0⟩ := Kd.at_int (Kd.R_reads' HO207.out).2.2 a1 p208 q208; cases e208; replace p208 := eq_true p208; replace q208 := eq_true q208))
                            go_roundg k2
                            case measure => have := HJ3.out; have := HK2.out; omega
                            case rel => exact ⟨(wrap64 (x24_2 + 1)), (by first | rfl | (simp; done) | (simp [*]; done)), H', ⟨by have := HJ3.out; have := HK2.out; omega⟩, ⟨by (with_reducible repeat (first | refine blk_drewN ?_ _ | refine blk_drew ?_ | refine blk_alloc ?_ _)); exact BK199.out⟩, ⟨by repeat (first | (with_reducible first | exact HB.out | apply below_alloc | apply pw_below_drewN | apply below_drew1 | refine below_set ?_ GE199.out) | exact HB.out)⟩⟩
                          · rw [if_neg c52] at H
                            have c52b0 : (x24_2 == a2) = false := beq_eq_false_iff_ne.mpr c52
                            have c52b1 : (x24_2 != a2) = true := bne_iff_ne.mpr c52
                            by_cases c56 : ((rd_L1 l0_0 x24_2).length : Int) = 0
                            · rw [if_pos c56] at H
                              have c56b0 : (((rd_L1 l0_0 x24_2).length : Int) == 0) = true := beq_iff_eq.mpr c56
                              have c56b1 : (((rd_L1 l0_0 x24_2).length : Int) != 0) = false := bne_eq_false_iff_eq.mpr c56
                              clear c56
                              obtain rfl := Option.some.inj H
                              have p204 : 0 ≤ (x24_2 : Int) := of_decide_eq_true (by first | (with_reducible assumption) | assumption)
                              have q204 : x24_2 < (l0_0.length : Int) := of_decide_eq_true (by first | (with_reducible assumption) | assumption)
                              obtain ⟨ad204, A204_0, c204_0, e204, hx204_0, hl204_0, hi204_0⟩ := at_L1 HR0_0.out x24_2 p204 q204
                              cases e204
                              replace hx204_0 := (HB.out.cell (World.block_lt_of_cell? w _ hx204_0)).trans hx204_0
                              have HR204_0 := Aside0.mk hi204_0
                              have HC204_0 := Aside0.mk hl204_0
                              clear hi204_0 hl204_0
                              replace p204 := eq_true p204
                              replace q204 := eq_true q204
                              have hcz57_0 : wr.cell? ⟨gb199, 0, none⟩ = some (.slice (some ad204) l0_0.length c0_0) := (blk_cell BK199.out 0).trans rfl
                              have hfz57_0 := blk_frozen BK199.out 0
                              go_wp2_with (first | ((with_reducible refine gate_callee (f := 112) rfl ?_); refine goesL_ (some 31) rfl rfl Try.func112 (by kernel_rfl) rfl #[.agg #[.slice (some ad204) l0_0.length c0_0], .int .i64 x24_2] rfl (by (try simp only [List.map_toArray, List.map_cons, List.map_nil]); first | done | rfl | (simp only [List.length_drop, List.length_take]; rfl)) ?_; (with_reducible refine (impl_Graph_lengths.calls k2 _ _ l0_0 x24_2 t205 _ ?side1 ?side2 A23.out).mono ?_); (case side1 => repeat (first | exact (Kd.C_below HR0_0.out HB.out) | (with_reducible refine Kd.C_alloc ?_ _) | (with_reducible refine Kd.C_drewN ?_ _) | (with_reducible refine Kd.C_drew ?_))); (case side2 => exact HC0_0.out); rintro e w58 ⟨v206, rfl, ho0, hb⟩; refine ⟨_, rfl, ?_⟩; have n0_ := Aside0.mk (Kd.R_lower ho0 (below_size (by repeat (first | (with_reducible first | exact HB.out | apply below_alloc | apply pw_below_drewN | apply below_drew1 | refine below_set ?_ GE199.out) | exact HB.out)))); have n1_ := Aside0.mk (blk_below (g := gb199) (o := .cells #[.slice (some ad204) l0_0.length c0_0] 30 (0, 0)) (by (with_reducible repeat (first | refine blk_drewN ?_ _ | refine blk_drew ?_ | refine blk_alloc ?_ _)); exact BK199.out) hb); have n2_ := Aside0.mk (below_step (by repeat (first | (with_reducible first | exact HB.out | apply below_alloc | apply pw_below_drewN | apply below_drew1 | refine below_set ?_ GE199.out) | exact HB.out)) hb); clear BK199; clear HB; have HO207 := n0_; have BK199 := n1_; have HB := n2_; clear n0_ n1_ n2_; (try clear hb); (try clear hb2); (try clear hk); (try clear hi); (try clear ho0); obtain ⟨Ao59, co59, eo59⟩ := Kd.R_slice HO207.out; subst eo59; have p208 : 0 ≤ (a1 : Int) := of_decide_eq_true (by first | (with_reducible assumption) | assumption); have q208 : a1 < (t205.length : Int) := of_decide_eq_true (by first | (with_reducible assumption) | assumption); obtain ⟨ad208, e208, hx208_0⟩ := Kd.at_int (Kd.R_reads' HO207.out).2.2 a1 p208 q208; cases e208; replace p208 := eq_true p208; replace q208 := eq_true q208))
                              go_ret
                              exact ⟨by first | rfl | (simp [errW_none, errW_some] <;> rfl) | (simp [*, errW_none, errW_some] <;> rfl), by repeat (first | (with_reducible first | exact HB.out | apply below_alloc | apply pw_below_drewN | apply below_drew1 | refine below_set ?_ GE199.out) | exact HB.out)⟩
                            · rw [if_neg c56] at H
                              have c56b0 : (((rd_L1 l0_0 x24_2).length : Int) == 0) = false := beq_eq_false_iff_ne.mpr c56
                              have c56b1 : (((rd_L1 l0_0 x24_2).length : Int) != 0) = true := bne_iff_ne.mpr c56
                              have c56b2 : ¬ ((rd_L1 l0_0 x24_2) = []) := fun h_ => c56 (by rw [h_]; rfl)
                              have H' := Aside0.mk H
                              clear H
                              have p204 : 0 ≤ (x24_2 : Int) := of_decide_eq_true (by first | (with_reducible assumption) | assumption)
                              have q204 : x24_2 < (l0_0.length : Int) := of_decide_eq_true (by first | (with_reducible assumption) | assumption)
                              obtain ⟨ad204, A204_0, c204_0, e204, hx204_0, hl204_0, hi204_0⟩ := at_L1 HR0_0.out x24_2 p204 q204
                              cases e204
                              replace hx204_0 := (HB.out.cell (World.block_lt_of_cell? w _ hx204_0)).trans hx204_0
                              have HR204_0 := Aside0.mk hi204_0
                              have HC204_0 := Aside0.mk hl204_0
                              clear hi204_0 hl204_0
                              replace p204 := eq_true p204
                              replace q204 := eq_true q204
                              have hcz60_0 : wr.cell? ⟨gb199, 0, none⟩ = some (.slice (some ad204) l0_0.length c0_0) := (blk_cell BK199.out 0).trans rfl
                              have hfz60_0 := blk_frozen BK199.out 0
                              go_wp2_with (first | ((with_reducible refine gate_callee (f := 112) rfl ?_); refine goesL_ (some 31) rfl rfl Try.func112 (by kernel_rfl) rfl #[.agg #[.slice (some ad204) l0_0.length c0_0], .int .i64 x24_2] rfl (by (try simp only [List.map_toArray, List.map_cons, List.map_nil]); first | done | rfl | (simp only [List.length_drop, List.length_take]; rfl)) ?_; (with_reducible refine (impl_Graph_lengths.calls k2 _ _ l0_0 x24_2 t205 _ ?side1 ?side2 A23.out).mono ?_); (case side1 => repeat (first | exact (Kd.C_below HR0_0.out HB.out) | (with_reducible refine Kd.C_alloc ?_ _) | (with_reducible refine Kd.C_drewN ?_ _) | (with_reducible refine Kd.C_drew ?_))); (case side2 => exact HC0_0.out); rintro e w61 ⟨v206, rfl, ho0, hb⟩; refine ⟨_, rfl, ?_⟩; have n0_ := Aside0.mk (Kd.R_lower ho0 (below_size (by repeat (first | (with_reducible first | exact HB.out | apply below_alloc | apply pw_below_drewN | apply below_drew1 | refine below_set ?_ GE199.out) | exact HB.out)))); have n1_ := Aside0.mk (blk_below (g := gb199) (o := .cells #[.slice (some ad204) l0_0.length c0_0] 30 (0, 0)) (by (with_reducible repeat (first | refine blk_drewN ?_ _ | refine blk_drew ?_ | refine blk_alloc ?_ _)); exact BK199.out) hb); have n2_ := Aside0.mk (below_step (by repeat (first | (with_reducible first | exact HB.out | apply below_alloc | apply pw_below_drewN | apply below_drew1 | refine below_set ?_ GE199.out) | exact HB.out)) hb); clear BK199; clear HB; have HO207 := n0_; have BK199 := n1_; have HB := n2_; clear n0_ n1_ n2_; (try clear hb); (try clear hb2); (try clear hk); (try clear hi); (try clear ho0); obtain ⟨Ao62, co62, eo62⟩ := Kd.R_slice HO207.out; subst eo62; have p208 : 0 ≤ (a1 : Int) := of_decide_eq_true (by first | (with_reducible assumption) | assumption); have q208 : a1 < (t205.length : Int) := of_decide_eq_true (by first | (with_reducible assumption) | assumption); obtain ⟨ad208, e208, hx208_0⟩ := Kd.at_int (Kd.R_reads' HO207.out).2.2 a1 p208 q208; cases e208; replace p208 := eq_true p208; replace q208 := eq_true q208))
                              go_roundg k2
                              case measure => have := HJ3.out; have := HK2.out; omega
                              case rel => exact ⟨(wrap64 (x24_2 + 1)), (by first | rfl | (simp; done) | (simp [*]; done)), H', ⟨by have := HJ3.out; have := HK2.out; omega⟩, ⟨by (with_reducible repeat (first | refine blk_drewN ?_ _ | refine blk_drew ?_ | refine blk_alloc ?_ _)); exact BK199.out⟩, ⟨by repeat (first | (with_reducible first | exact HB.out | apply below_alloc | apply pw_below_drewN | apply below_drew1 | refine below_set ?_ GE199.out) | exact HB.out)⟩⟩
                    · rw [if_neg c25] at H
                      exact absurd H (by simp)
                  · rw [if_neg c24] at H
                    exact absurd H (by simp)
                · rw [if_neg c22] at H
                  exact absurd H (by simp)
              · rw [if_neg c21] at H
                exact absurd H (by simp)
            · rw [if_neg c20] at H
              have c20b0 : decide (x24_2 < (l0_0.length : Int)) = false := decide_eq_false c20
              clear c20
              obtain rfl := Option.some.inj H
              go_wp2
              go_ret
              exact ⟨by first | rfl | (simp [errW_none, errW_some] <;> rfl) | (simp [*, errW_none, errW_some] <;> rfl), by repeat (first | (with_reducible first | exact HB.out | apply below_alloc | apply pw_below_drewN | apply below_drew1 | refine below_set ?_ GE199.out) | exact HB.out)⟩
end Go.Proofs.Ytnbnalbomflafaa.HB
/-! ## HB2 -/
namespace Go.Proofs.Ytnbnalbomflafaa.HB
open Go.RowKit Go.Proofs.YtnbnalbomflafaaW.PrintWords Go.Proofs.YtnbnalbomflafaaW.PrintLast Go.Proofs.YtnbnalbomflafaaW.PrintMore
open Go.Proofs.Ytnbnalbomflafaa.GA Go.Proofs.Ytnbnalbomflafaa.GB Go.Proofs.Ytnbnalbomflafaa.KA
attribute [local go_sem] max2_int min2_int max_two min_two max_three min_three max_four min_four   -- for this text's walks alone
set_option linter.unusedVariables false
set_option linter.unusedSimpArgs false
def impl_CanEnd.f (k : Nat) (l0_0 : List (List Int)) (a1 : Int) (a2 : Int) : Option (Bool × Bool) := (impl_has.f l0_0 (([a1, a2] : List Int))).bind fun t214 => (if t214 = true then (if a1 = a2 then (some (false, false)) else ((impl_canEnd.f k l0_0 a1 a2).bind fun t215 => (some (t215, true)))) else (some (false, false)))
theorem impl_CanEnd.mono : ∀ a0 a1 a2 k, LeO (impl_CanEnd.f k a0 a1 a2) (impl_CanEnd.f (k + 1) a0 a1 a2) := by
  intro a0 a1 a2 k
  unfold impl_CanEnd.f
  repeat' first
      | (with_reducible exact impl_canEnd.mono _ _ _ _)
      | (with_reducible exact LeO.refl _)
      | (with_reducible exact LeO.none _)
      | (with_reducible refine LeO.ite ?_ ?_)
      | (with_reducible refine LeO.bind ?_ (fun _ => ?_))
      | exact impl_canEnd.mono _ _ _ _
      | exact LeO.none _
      | refine LeO.ite ?_ ?_
      | refine LeO.bind ?_ (fun _ => ?_)
def laws_FnExactCanEnd.j0 : Nat → Bool → List (List Int) → List (List Int) → Option (Bool)
  | 0, _, _, _ => none
  | k + 1, x42, x217000, x227000 => if x42 = true then (some false) else ((laws_toGraph.f k x217000).bind fun t229 => ((laws_eqGraph.f k x227000 t229).bind fun t232 => (if t232 = true then (some true) else (some false))))
def laws_FnExactCanEnd.f (k : Nat) (l0_0 : List (List Int)) (a1 : Int) (a2 : Int) : Option (Bool) := (laws_szGraph.f k l0_0 1048576).bind fun t217 => (if t217 < 0 then (some true) else ((laws_toGraph.f k l0_0).bind fun t218 => ((spec_CanEnd.f k t218 a1 a2).bind fun bt221 => ((laws_toGraph.f k l0_0).bind fun t223 => ((impl_CanEnd.f k t223 a1 a2).bind fun bt227 => (if (bt227.1 != bt221.1) = true then (laws_FnExactCanEnd.j0 k true l0_0 t223) else (laws_FnExactCanEnd.j0 k (bt227.2 != bt221.2) l0_0 t223)))))))
theorem laws_FnExactCanEnd.mono_l : ∀ k, (∀ y0 y1 y2, LeO (laws_FnExactCanEnd.j0 k y0 y1 y2) (laws_FnExactCanEnd.j0 (k + 1) y0 y1 y2))
  | 0 => fun _ _ _ r h => by simp [laws_FnExactCanEnd.j0] at h
  | k + 1 => by
    have ih0 := laws_FnExactCanEnd.mono_l k
    · intro y0 y1 y2
      unfold laws_FnExactCanEnd.j0
      repeat' first
      | (with_reducible exact ih0 _ _ _)
      | (with_reducible exact impl_CanEnd.mono _ _ _ _)
      | (with_reducible exact laws_eqGraph.mono _ _ _)
      | (with_reducible exact laws_szGraph.mono _ _ _)
      | (with_reducible exact laws_toGraph.mono _ _)
      | (with_reducible exact spec_CanEnd.mono _ _ _ _)
      | (with_reducible exact LeO.refl _)
      | (with_reducible exact LeO.none _)
      | (with_reducible refine LeO.ite ?_ ?_)
      | (with_reducible refine LeO.bind ?_ (fun _ => ?_))
      | exact ih0 _ _ _
      | exact impl_CanEnd.mono _ _ _ _
      | exact laws_eqGraph.mono _ _ _
      | exact laws_szGraph.mono _ _ _
      | exact laws_toGraph.mono _ _
      | exact spec_CanEnd.mono _ _ _ _
      | exact LeO.none _
      | refine LeO.ite ?_ ?_
      | refine LeO.bind ?_ (fun _ => ?_)
theorem laws_FnExactCanEnd.mono : ∀ a0 a1 a2 k, LeO (laws_FnExactCanEnd.f k a0 a1 a2) (laws_FnExactCanEnd.f (k + 1) a0 a1 a2) := by
  intro a0 a1 a2 k
  have ih0 := laws_FnExactCanEnd.mono_l k
  unfold laws_FnExactCanEnd.f
  repeat' first
      | (with_reducible exact ih0 _ _ _)
      | (with_reducible exact impl_CanEnd.mono _ _ _ _)
      | (with_reducible exact laws_eqGraph.mono _ _ _)
      | (with_reducible exact laws_szGraph.mono _ _ _)
      | (with_reducible exact laws_toGraph.mono _ _)
      | (with_reducible exact spec_CanEnd.mono _ _ _ _)
      | (with_reducible exact LeO.refl _)
      | (with_reducible exact LeO.none _)
      | (with_reducible refine LeO.ite ?_ ?_)
      | (with_reducible refine LeO.bind ?_ (fun _ => ?_))
      | exact ih0 _ _ _
      | exact impl_CanEnd.mono _ _ _ _
      | exact laws_eqGraph.mono _ _ _
      | exact laws_szGraph.mono _ _ _
      | exact laws_toGraph.mono _ _
      | exact spec_CanEnd.mono _ _ _ _
      | exact LeO.none _
      | refine LeO.ite ?_ ?_
      | refine LeO.bind ?_ (fun _ => ?_)
end Go.Proofs.Ytnbnalbomflafaa.HB
/-! ## Kl -/
namespace Go.Proofs.Ytnbnalbomflafaa.KA
open Go.RowKit Go.Proofs.YtnbnalbomflafaaW.PrintWords Go.Proofs.YtnbnalbomflafaaW.PrintLast
open Go.Proofs.Ytnbnalbomflafaa.GA Go.Proofs.Ytnbnalbomflafaa.GB Go.Proofs.Ytnbnalbomflafaa.HB
set_option linter.unusedVariables false
set_option linter.unusedSimpArgs false
theorem rdHB (l : List (List Int)) (i : Int) : HB.rd_L1 l i = GA.rd_L1 l i := rfl
theorem rdGB (l : List (List Int)) (i : Int) : GB.rd_L1 l i = GA.rd_L1 l i := rfl
/-- How many numbers are less than 0. -/
def neg : List Int → Nat
  | [] => 0
  | x :: t => (if x < 0 then 1 else 0) + neg t
theorem neg_set : ∀ (l : List Int) (i : Nat) (v : Int) (h : i < l.length), l[i] < 0 → 0 ≤ v → neg (l.set i v) + 1 = neg l
  | x :: t, 0, v, h, hx, hv => by
    simp only [List.set_cons_zero, neg]
    rw [List.getElem_cons_zero] at hx
    rw [if_neg (by omega), if_pos hx]
    omega
  | x :: t, i + 1, v, h, hx, hv => by
    simp only [List.set_cons_succ, neg]
    rw [List.getElem_cons_succ] at hx
    have := neg_set t i v (by simpa using h) hx hv
    omega
theorem neg_repl (n : Nat) : neg (List.replicate n (-1)) = n := by
  induction n with
  | zero => rfl
  | succ n ih =>
    rw [List.replicate_succ]
    simp only [neg]
    rw [ih, if_pos (by decide)]
    omega
/-- A row's places are met from the place h: the lengths, and the places that are new. -/
def relax (h : Int) : List Int → List Int → List Int × List Int
  | [], far => (far, [])
  | q :: row, far => if rd far q < 0 then ((relax h row (far.set q.toNat (wrap64 (rd far h + 1)))).1, q :: (relax h row (far.set q.toNat (wrap64 (rd far h + 1)))).2) else relax h row far
/-- What holds of lengths: how many places there are, none too great. -/
structure Fine (n : Nat) (far : List Int) : Prop where
  len : far.length = n
  up : ∀ x ∈ far, x + (neg far : Int) ≤ n
theorem rd_mem {far : List Int} {v : Int} (h0 : 0 ≤ v) (h1 : v < far.length) : rd far v ∈ far := by
  obtain ⟨i, rfl⟩ := Int.eq_ofNat_of_zero_le h0
  rw [rd_at far i (by omega)]
  exact List.getElem_mem _
theorem rd_set_other {far : List Int} {q v : Int} (y : Int) (h0 : 0 ≤ q) (h1 : 0 ≤ v) (hne : v ≠ q) : rd (far.set q.toNat y) v = rd far v := by
  unfold rd
  rw [List.getD_eq_getElem?_getD, List.getElem?_set_ne (by omega), ← List.getD_eq_getElem?_getD]
theorem rd_set_same {far : List Int} {q : Int} (y : Int) (h0 : 0 ≤ q) (h1 : q < far.length) : rd (far.set q.toNat y) q = y := by
  unfold rd
  rw [List.getD_eq_getElem?_getD, List.getElem?_set_self (by omega)]
  rfl
theorem fine_set {n : Nat} {far : List Int} {h q : Int} (hn : n ≤ 100) (f : Fine n far) (h0 : 0 ≤ h) (h1 : h < n) (hh : 0 ≤ rd far h) (q0 : 0 ≤ q) (q1 : q < n) (hq : rd far q < 0) :
    Fine n (far.set q.toNat (wrap64 (rd far h + 1))) ∧ neg (far.set q.toNat (wrap64 (rd far h + 1))) + 1 = neg far ∧ wrap64 (rd far h + 1) = rd far h + 1 := by
  have hl := f.len
  have hu := f.up _ (rd_mem h0 (by omega))
  have hw : wrap64 (rd far h + 1) = rd far h + 1 := wrap_id (by omega) (by omega)
  obtain ⟨i, rfl⟩ := Int.eq_ofNat_of_zero_le q0
  rw [Int.toNat_natCast, hw]
  rw [rd_at far i (by omega)] at hq
  have hs := neg_set far i (rd far h + 1) (by omega) hq (by omega)
  refine ⟨⟨by rw [List.length_set]; exact hl, fun x hx => ?_⟩, hs, rfl⟩
  rcases List.mem_or_eq_of_mem_set hx with h' | rfl
  · have := f.up x h'; omega
  · omega
structure Relaxed (n : Nat) (far : List Int) (r : List Int × List Int) : Prop where
  fine : Fine n r.1
  cnt : neg r.1 + r.2.length = neg far
  new : ∀ q ∈ r.2, 0 ≤ q ∧ q < n ∧ 0 ≤ rd r.1 q
  keep : ∀ v : Int, 0 ≤ v → v < n → 0 ≤ rd far v → 0 ≤ rd r.1 v
theorem relaxed {n : Nat} (hn : n ≤ 100) {h : Int} (h0 : 0 ≤ h) (h1 : h < n) : ∀ (row far : List Int), Fine n far → 0 ≤ rd far h → (∀ q ∈ row, 0 ≤ q ∧ q < n) → Relaxed n far (relax h row far)
  | [], far, f, hh, hr => ⟨f, rfl, by simp [relax], fun _ _ _ h => h⟩
  | q :: row, far, f, hh, hr => by
    have hq := hr q List.mem_cons_self
    have hr' : ∀ q ∈ row, 0 ≤ q ∧ q < n := fun x hx => hr x (List.mem_cons_of_mem _ hx)
    unfold relax
    split
    · rename_i hneg
      obtain ⟨f1, c1, w1⟩ := fine_set hn f h0 h1 hh hq.1 hq.2 hneg
      have hl := f.len
      have kq : ∀ v : Int, 0 ≤ v → v < n → 0 ≤ rd far v → 0 ≤ rd (far.set q.toNat (wrap64 (rd far h + 1))) v := fun v v0 v1 hv => by
        have hne : v ≠ q := by rintro rfl; omega
        rw [rd_set_other _ hq.1 v0 hne]; exact hv
      have ih := relaxed hn h0 h1 row _ f1 (kq h h0 h1 hh) hr'
      refine ⟨ih.fine, by have := ih.cnt; simp only [List.length_cons]; omega, fun x hx => ?_, fun v v0 v1 hv => ih.keep v v0 v1 (kq v v0 v1 hv)⟩
      rcases List.mem_cons.1 hx with rfl | hx
      · refine ⟨hq.1, hq.2, ih.keep x hq.1 hq.2 ?_⟩
        rw [rd_set_same _ hq.1 (by omega), w1]
        omega
      · exact ih.new x hx
    · exact relaxed hn h0 h1 row far f hh hr'
section
variable {l : List (List Int)} (hg : isGraphB l = true)
include hg
theorem impl_inner (h : Int) (h0 : 0 ≤ h) (h1 : h < l.length) (row : List Int) (hrow : ∀ q ∈ row, 0 ≤ q ∧ q < l.length) (h5 : row.length ≤ 5) (d : Nat) : ∀ (k i : Nat) (far rest : List Int), i + d = row.length → d < k → Fine l.length far → 0 ≤ rd far h → rest.length + neg far ≤ 100 →
    impl_Graph_lengths.l1 k far (h :: rest) row (row.length : Int) (i : Int) l = impl_Graph_lengths.l0 (k - d - 1) (relax h (row.drop i) far).1 (rest ++ (relax h (row.drop i) far).2) l := by
  have hn := (graph_len hg).2
  induction d with
  | zero =>
    intro k i far rest hi hk f hh hc
    obtain ⟨k, rfl⟩ := succ_of hk
    rw [List.drop_of_length_le (by omega)]
    simp only [impl_Graph_lengths.l1, relax, List.append_nil]
    rw [if_neg (by omega), if_pos (by simp only [List.length_cons]; omega)]
    rfl
  | succ d ih =>
    intro k i far rest hi hk f hh hc
    obtain ⟨k, rfl⟩ := succ_of hk
    have hlt : i < row.length := by omega
    have hq := hrow _ (List.getElem_mem hlt)
    have hl := f.len
    rw [List.drop_eq_getElem_cons hlt]
    simp only [impl_Graph_lengths.l1, relax]
    rw [if_pos (by omega), if_pos (by omega), if_pos (by omega), rd_at row i hlt, if_pos hq.1, if_pos (by omega), wrap_up hlt (by omega)]
    by_cases hneg : rd far row[i] < 0
    · obtain ⟨f1, c1, w1⟩ := fine_set (by omega) f h0 h1 hh hq.1 hq.2 hneg
      have hne : h ≠ row[i] := by intro e; rw [e] at hh; omega
      have e0 : rd (h :: rest) 0 = h := rfl
      have hh1 : 0 ≤ rd (far.set row[i].toNat (wrap64 (rd far h + 1))) h := by rw [rd_set_other _ hq.1 h0 hne]; exact hh
      rw [if_pos hneg, if_pos hneg, e0, if_pos (by simp only [List.length_cons]; omega), if_pos h0, if_pos (by omega), if_pos (by simp only [List.length_cons]; omega), List.cons_append]
      rw [ih k (i + 1) _ (rest ++ [row[i]]) (by omega) (by omega) f1 hh1 (by simp only [List.length_append, List.length_cons, List.length_nil]; omega)]
      rw [show k + 1 - (d + 1) - 1 = k - d - 1 by omega, List.append_assoc]
      rfl
    · rw [if_neg hneg, if_neg hneg, ih k (i + 1) far rest (by omega) (by omega) f hh hc, show k + 1 - (d + 1) - 1 = k - d - 1 by omega]
theorem spec_inner (h : Int) (h0 : 0 ≤ h) (h1 : h < l.length) (row : List Int) (hrow : ∀ q ∈ row, 0 ≤ q ∧ q < l.length) (h5 : row.length ≤ 5) (j : Nat) (d : Nat) : ∀ (k i : Nat) (far queue : List Int), i + d = row.length → d < k → Fine l.length far → 0 ≤ rd far h → queue.length + neg far ≤ 100 → j < queue.length → rd queue (j : Int) = h →
    spec_grFar.l2 k far queue (j : Int) row (row.length : Int) (i : Int) l = spec_grFar.l1 (k - d - 1) (relax h (row.drop i) far).1 (queue ++ (relax h (row.drop i) far).2) ((j + 1 : Nat) : Int) l := by
  have hn := (graph_len hg).2
  induction d with
  | zero =>
    intro k i far queue hi hk f hh hc hj hjh
    obtain ⟨k, rfl⟩ := succ_of hk
    rw [List.drop_of_length_le (by omega)]
    simp only [spec_grFar.l2, relax, List.append_nil]
    rw [if_neg (by omega), wrap_up hj (by omega)]
    rfl
  | succ d ih =>
    intro k i far queue hi hk f hh hc hj hjh
    obtain ⟨k, rfl⟩ := succ_of hk
    have hlt : i < row.length := by omega
    have hq := hrow _ (List.getElem_mem hlt)
    have hl := f.len
    rw [List.drop_eq_getElem_cons hlt]
    simp only [spec_grFar.l2, relax]
    rw [if_pos (by omega), if_pos (by omega), if_pos (by omega), rd_at row i hlt, if_pos hq.1, if_pos (by omega), wrap_up hlt (by omega), hjh]
    by_cases hneg : rd far row[i] < 0
    · obtain ⟨f1, c1, w1⟩ := fine_set (by omega) f h0 h1 hh hq.1 hq.2 hneg
      have hne : h ≠ row[i] := by intro e; rw [e] at hh; omega
      have hh1 : 0 ≤ rd (far.set row[i].toNat (wrap64 (rd far h + 1))) h := by rw [rd_set_other _ hq.1 h0 hne]; exact hh
      have hjh1 : rd (queue ++ [row[i]]) (j : Int) = h := by
        rw [← hjh, rd_at _ j hj, rd_at _ j (by simp; omega)]
        exact List.getElem_append_left hj
      rw [if_pos hneg, if_pos hneg, if_pos (by omega), if_pos (by omega), if_pos h0, if_pos (by omega), if_pos (by omega)]
      rw [ih k (i + 1) _ (queue ++ [row[i]]) (by omega) (by omega) f1 hh1 (by simp only [List.length_append, List.length_cons, List.length_nil]; omega) (by simp; omega) hjh1]
      rw [show k + 1 - (d + 1) - 1 = k - d - 1 by omega, List.append_assoc]
      rfl
    · rw [if_neg hneg, if_neg hneg, ih k (i + 1) far queue (by omega) (by omega) f hh hc hj hjh, show k + 1 - (d + 1) - 1 = k - d - 1 by omega]
/-- Both searches, from the same lengths and the same places that wait. -/
theorem both_outer (M : Nat) : ∀ (far queue : List Int) (j : Nat), Fine l.length far → j ≤ queue.length → neg far + (queue.drop j).length ≤ M → queue.length + neg far ≤ 50 → (∀ q ∈ queue.drop j, 0 ≤ q ∧ q < l.length ∧ 0 ≤ rd far q) →
    ∃ X, X.length = l.length ∧ ∀ k, 8 * M + 1 ≤ k → impl_Graph_lengths.l0 k far (queue.drop j) l = some X ∧ spec_grFar.l1 k far queue (j : Int) l = some X := by
  have hn := (graph_len hg).2
  induction M with
  | zero =>
    intro far queue j f hj hM hc hq
    refine ⟨far, f.len, fun k hk => ?_⟩
    obtain ⟨k, rfl⟩ := succ_of (show 0 < k by omega)
    have h0 : (queue.drop j).length = 0 := by omega
    have h1 : queue.drop j = [] := List.eq_nil_of_length_eq_zero h0
    rw [List.length_drop] at h0
    simp only [impl_Graph_lengths.l0, spec_grFar.l1]
    rw [h1, if_neg (by simp), if_neg (by omega)]
    exact ⟨rfl, rfl⟩
  | succ M ih =>
    intro far queue j f hj hM hc hq
    by_cases hlt : j < queue.length
    · have hd : queue.drop j = queue[j] :: queue.drop (j + 1) := List.drop_eq_getElem_cons hlt
      have hh := hq queue[j] (by rw [hd]; exact List.mem_cons_self)
      obtain ⟨a, ha⟩ : ∃ a : Nat, queue[j] = (a : Int) := ⟨queue[j].toNat, by omega⟩
      have hal : a < l.length := by omega
      obtain ⟨h5, hrow⟩ := graph_row hg (List.getElem_mem hal)
      have R := relaxed (by omega) hh.1 hh.2.1 l[a] far f hh.2.2 hrow
      have hlen : (queue.drop j).length = (queue.drop (j + 1)).length + 1 := by rw [hd]; rfl
      have hcnt := R.cnt
      have hq1 : ∀ q ∈ (queue ++ (relax queue[j] l[a] far).2).drop (j + 1), 0 ≤ q ∧ q < l.length ∧ 0 ≤ rd (relax queue[j] l[a] far).1 q := by
        intro q hq'
        rw [List.drop_append_of_le_length (by omega)] at hq'
        rcases List.mem_append.1 hq' with h' | h'
        · have := hq q (by rw [hd]; exact List.mem_cons_of_mem _ h')
          exact ⟨this.1, this.2.1, R.keep q this.1 this.2.1 this.2.2⟩
        · exact R.new q h'
      obtain ⟨X, hX, hk⟩ := ih (relax queue[j] l[a] far).1 (queue ++ (relax queue[j] l[a] far).2) (j + 1) R.fine (by rw [List.length_append]; omega) (by rw [List.drop_append_of_le_length (by omega), List.length_append]; omega) (by rw [List.length_append]; omega) hq1
      refine ⟨X, hX, fun k hk' => ?_⟩
      obtain ⟨k, rfl⟩ := succ_of (show 0 < k by omega)
      have e0 : rd (queue[j] :: queue.drop (j + 1)) 0 = queue[j] := rfl
      have e1 : GA.rd_L1 l queue[j] = l[a] := by rw [ha]; exact rdL_at l a hal
      have hk2 := hk (k - l[a].length - 1) (by omega)
      rw [List.drop_append_of_le_length (by omega)] at hk2
      simp only [impl_Graph_lengths.l0, spec_grFar.l1]
      constructor
      · rw [hd, if_pos (by simp only [List.length_cons]; omega), if_pos (by simp only [List.length_cons]; omega), e0, if_pos hh.1, if_pos hh.2.1, rdHB, e1]
        have := impl_inner hg queue[j] hh.1 hh.2.1 l[a] hrow h5 l[a].length k 0 far (queue.drop (j + 1)) (by omega) (by omega) f hh.2.2 (by rw [List.length_drop]; omega)
        rw [List.drop_zero] at this
        rw [show (0 : Int) = ((0 : Nat) : Int) from rfl, this]
        exact hk2.1
      · rw [if_pos (by omega), if_pos (by omega), rd_at queue j hlt, if_pos hh.1, if_pos hh.2.1, rdGB, e1]
        have := spec_inner hg queue[j] hh.1 hh.2.1 l[a] hrow h5 j l[a].length k 0 far queue (by omega) (by omega) f hh.2.2 (by omega) hlt (rd_at queue j hlt)
        rw [List.drop_zero] at this
        rw [show (0 : Int) = ((0 : Nat) : Int) from rfl, this]
        exact hk2.2
    · refine ⟨far, f.len, fun k hk => ?_⟩
      obtain ⟨k, rfl⟩ := succ_of (show 0 < k by omega)
      have h1 : queue.drop j = [] := List.drop_of_length_le (by omega)
      simp only [impl_Graph_lengths.l0, spec_grFar.l1]
      rw [h1, if_neg (by simp), if_neg (by omega)]
      exact ⟨rfl, rfl⟩
omit hg in
theorem far_fill (p : Nat) (n : Nat) (hn : n ≤ 100) (d : Nat) : ∀ (k i : Nat) (x : List Int), i + d = n → x.length = n → x.take i = List.replicate i (-1) → d < k →
    spec_grFar.l0 k (p : Int) x (n : Int) (i : Int) l = spec_grFar.l0 (k - d) (p : Int) (List.replicate n (-1)) (n : Int) (n : Int) l := by
  induction d with
  | zero =>
    intro k i x hi hx ht hk
    obtain rfl : i = n := by omega
    rw [List.take_of_length_le (by omega)] at ht
    rw [ht]
    rfl
  | succ d ih =>
    intro k i x hi hx ht hk
    obtain ⟨k, rfl⟩ := succ_of hk
    conv => lhs; unfold spec_grFar.l0
    rw [if_pos (by omega), if_pos (by omega), if_pos (by omega), wrap_up (n := n) (by omega) (by omega), Int.toNat_natCast]
    rw [ih k (i + 1) _ (by omega) (by rw [List.length_set]; exact hx) ?_ (by omega), show k + 1 - (d + 1) = k - d by omega]
    rw [List.take_succ_eq_append_getElem (by rw [List.length_set]; omega), List.take_set_of_le (Nat.le_refl _), ht, List.replicate_succ']
    simp
theorem both_far (p : Nat) (hp : p < l.length) : ∃ X, X.length = l.length ∧ ∀ k, 200 ≤ k → impl_Graph_lengths.f k l (p : Int) = some X ∧ spec_grFar.f k l (p : Int) = some X := by
  have hn := graph_len hg
  have hr : ((List.replicate l.length (-1 : Int)).set p 0).length = l.length := by simp
  have hs := neg_set (List.replicate l.length (-1)) p 0 (by simpa using hp) (by simp) (by decide)
  rw [neg_repl] at hs
  have f0 : Fine l.length ((List.replicate l.length (-1 : Int)).set p 0) := ⟨hr, fun x hx => by
    rcases List.mem_or_eq_of_mem_set hx with h' | rfl
    · have := List.eq_of_mem_replicate h'; omega
    · omega⟩
  obtain ⟨X, hX, hk⟩ := both_outer hg 10 ((List.replicate l.length (-1 : Int)).set p 0) [(p : Int)] 0 f0 (by simp) (by simp; omega) (by simp; omega) (by
    intro q hq
    simp at hq
    subst hq
    refine ⟨by omega, by omega, ?_⟩
    rw [rd_at _ p (by rw [hr]; exact hp)]
    simp)
  refine ⟨X, hX, fun k hk' => ⟨?_, ?_⟩⟩
  · unfold impl_Graph_lengths.f slices_Repeat_int_int.f
    simp only
    rw [if_pos (by omega)]
    simp only [Option.bind_some]
    rw [if_pos (by omega), if_pos (by simp; omega), Int.toNat_natCast, Int.toNat_natCast]
    have := (hk k (by omega)).1
    rw [List.drop_zero] at this
    exact this
  · unfold spec_grFar.f
    rw [if_pos (by omega), if_pos (by omega)]
    simp only [Option.bind_some]
    have hl0 : (List.replicate ((l.length : Int)).toNat (0 : Int)).length = l.length := by simp
    rw [hl0, Int.toNat_natCast]
    have := far_fill (l := l) p l.length (by omega) l.length k 0 (List.replicate l.length 0) (by omega) (by simp) (by simp) (by omega)
    rw [show (0 : Int) = ((0 : Nat) : Int) from rfl] at this ⊢
    rw [this]
    obtain ⟨m, hm⟩ := succ_of (show 0 < k - l.length by omega)
    rw [hm]
    unfold spec_grFar.l0
    rw [if_neg (by omega), if_pos (by omega), if_pos (by simp; omega), Int.toNat_natCast]
    exact (hk m (by omega)).2
end
end Go.Proofs.Ytnbnalbomflafaa.KA
/-! ## Km -/
namespace Go.Proofs.Ytnbnalbomflafaa.KA
open Go.RowKit Go.Proofs.YtnbnalbomflafaaW.PrintWords Go.Proofs.YtnbnalbomflafaaW.PrintLast
open Go.Proofs.Ytnbnalbomflafaa.GA Go.Proofs.Ytnbnalbomflafaa.GB Go.Proofs.Ytnbnalbomflafaa.HB
set_option linter.unusedVariables false
set_option linter.unusedSimpArgs false
section
variable {l : List (List Int)} (hg : isGraphB l = true) (a b : Nat) (ha : a < l.length) (hb : b < l.length)
include hg ha hb
theorem can_loop (d : Nat) : ∀ i : Nat, i + d = l.length → ∃ u, ∀ k, d + 250 ≤ k → spec_hiCan.l0 k (a : Int) (b : Int) l (l.length : Int) (i : Int) l = some u ∧ impl_canEnd.l0 k (a : Int) (b : Int) l (l.length : Int) (i : Int) l = some u := by
  have hn := (graph_len hg).2
  induction d with
  | zero =>
    intro i hi
    refine ⟨true, fun k hk => ?_⟩
    obtain ⟨k, rfl⟩ := succ_of (show 0 < k by omega)
    simp only [spec_hiCan.l0, impl_canEnd.l0]
    rw [if_neg (by omega), if_neg (by omega)]
    exact ⟨rfl, rfl⟩
  | succ d ih =>
    intro i hi
    have hlt : i < l.length := by omega
    obtain ⟨X, hX, hf⟩ := both_far hg i hlt
    obtain ⟨u, hu⟩ := ih (i + 1) (by omega)
    obtain ⟨t, ht⟩ : ∃ t : Bool, t = (if rd X (a : Int) < 0 then (if rd X (b : Int) < 0 then false else (if (i : Int) = (a : Int) then u else if (i : Int) = (b : Int) then u else if ((l[i]).length : Int) = 0 then false else u)) else (if (i : Int) = (a : Int) then u else if (i : Int) = (b : Int) then u else if ((l[i]).length : Int) = 0 then false else u)) := ⟨_, rfl⟩
    refine ⟨t, fun k hk => ?_⟩
    obtain ⟨k, rfl⟩ := succ_of (show 0 < k by omega)
    have h1 := hf k (by omega)
    have h2 := hu k (by omega)
    refine ⟨?_, ?_⟩
    · simp only [spec_hiCan.l0]
      rw [if_pos (by omega), if_pos (by omega), if_pos (by omega), h1.2]
      simp only [Option.bind_some]
      rw [rdGB, rdL_at l i hlt, wrap_up hlt (by omega), h2.1, if_pos (show 0 ≤ (a : Int) by omega), if_pos (show (a : Int) < X.length by omega), if_pos (show 0 ≤ (b : Int) by omega), if_pos (show (b : Int) < X.length by omega), ht]
      (repeat' split) <;> rfl
    · simp only [impl_canEnd.l0]
      rw [if_pos (by omega), if_pos (by omega), if_pos (by omega), h1.1]
      simp only [Option.bind_some]
      rw [rdHB, rdL_at l i hlt, wrap_up hlt (by omega), h2.2, if_pos (show 0 ≤ (a : Int) by omega), if_pos (show (a : Int) < X.length by omega), if_pos (show 0 ≤ (b : Int) by omega), if_pos (show (b : Int) < X.length by omega), ht]
      (repeat' split) <;> rfl
end
theorem goals_eq (l : List (List Int)) (a b : Int) (k : Nat) (hk : 20 ≤ k) : spec_hiGoals.f k l a b = some (placeB l a && placeB l b && (a != b)) := by
  unfold spec_hiGoals.f
  rw [grPlace_eq l a k hk, grPlace_eq l b k hk]
  cases placeB l a <;> cases placeB l b <;> simp
/-- Whether walks end at two places: one answer of both sides, where these are different places of a graph. -/
theorem can_both (l : List (List Int)) (a b : Int) (h : (placeB l a && placeB l b && (a != b)) = true) : ∃ u, ∀ k, 300 ≤ k → spec_hiCan.f k l a b = some u ∧ impl_canEnd.f k l a b = some u := by
  simp only [Bool.and_eq_true, bne_iff_ne] at h
  obtain ⟨⟨h1, h2⟩, h3⟩ := h
  obtain ⟨hg, _, h8, ha0, ha⟩ := place_is h1
  obtain ⟨_, _, _, hb0, hb⟩ := place_is h2
  obtain ⟨a, rfl⟩ := Int.eq_ofNat_of_zero_le ha0
  obtain ⟨b, rfl⟩ := Int.eq_ofNat_of_zero_le hb0
  obtain ⟨u, hu⟩ := can_loop hg a b (by omega) (by omega) l.length 0 (by omega)
  refine ⟨u, fun k hk => ⟨?_, ?_⟩⟩
  · exact (hu k (by omega)).1
  · unfold impl_canEnd.f impl_has.f
    rw [hasB_two, h1, h2]
    simp only [Option.bind_some, Bool.and_self, if_true]
    obtain ⟨k, rfl⟩ := succ_of (show 0 < k by omega)
    simp only [impl_canEnd.j0]
    rw [if_neg (by simpa using h3)]
    exact (hu k (by omega)).2
theorem can_none (l : List (List Int)) (a b : Int) (h : (placeB l a && placeB l b && (a != b)) = false) (k : Nat) (hk : 300 ≤ k) : impl_canEnd.f k l a b = some false := by
  obtain ⟨k, rfl⟩ := succ_of (show 0 < k by omega)
  unfold impl_canEnd.f impl_has.f
  rw [hasB_two]
  simp only [Option.bind_some]
  cases hp : placeB l a && placeB l b with
  | false => simp [impl_canEnd.j0]
  | true =>
    rw [hp, Bool.true_and] at h
    have e : (a == b) = true := by simpa using h
    rw [if_pos rfl, e]
    simp [impl_canEnd.j0]
end Go.Proofs.Ytnbnalbomflafaa.KA
/-! ## Ca -/
namespace Go.Proofs.Ytnbnalbomflafaa.RA
open Go.RowKit Go.Proofs.YtnbnalbomflafaaW.PrintWords Go.Proofs.YtnbnalbomflafaaW.PrintLast Go.Proofs.YtnbnalbomflafaaW.PrintMore
open Go.Proofs.Ytnbnalbomflafaa.GA
open Go.Proofs.Ytnbnalbomflafaa.GB hiding rd_L1 at_L1
open Go.Proofs.Ytnbnalbomflafaa.KA
set_option linter.unusedVariables false
set_option linter.unusedSimpArgs false
inductive Reach (l : List (List Int)) (p : Int) : Int → Prop
  | here : Reach l p p
  | step {v q : Int} : Reach l p v → q ∈ GA.rd_L1 l v → Reach l p q
def Told (l : List (List Int)) (p : Int) (X : List Int) : Prop := ∀ v : Int, 0 ≤ v → v < X.length → 0 ≤ rd X v → Reach l p v
theorem told_set {l : List (List Int)} {p : Int} {X : List Int} (h : Told l p X) {q : Int} (y : Int) (h0 : 0 ≤ q) (h1 : q < X.length) (hq : Reach l p q) : Told l p (X.set q.toNat y) := by
  intro v hv0 hv1 hv2
  rw [List.length_set] at hv1
  by_cases hvq : v = q
  · rw [hvq]; exact hq
  · rw [rd_set_other y h0 hv0 hvq] at hv2
    exact h v hv0 hv1 hv2
theorem rd_in {x : List Int} {v : Int} (h0 : 0 ≤ v) (h1 : v < x.length) : rd x v ∈ x := KA.rd_mem h0 h1
theorem ifn {α : Type} {c : Prop} [Decidable c] {t : Option α} {X : α} (h : (if c then t else none) = some X) : c ∧ t = some X := by
  by_cases hc : c
  · rw [if_pos hc] at h; exact ⟨hc, h⟩
  · rw [if_neg hc] at h; cases h
theorem far12 (l : List (List Int)) (p : Int) : ∀ k, (∀ x5 x7 x8 X, Told l p x5 → (∀ q ∈ x7, Reach l p q) → spec_grFar.l1 k x5 x7 x8 l = some X → Told l p X) ∧
    (∀ x5 x7 x8 x42 x43 x44 X, Told l p x5 → (∀ q ∈ x7, Reach l p q) → (∀ q ∈ x42, Reach l p q) → spec_grFar.l2 k x5 x7 x8 x42 x43 x44 l = some X → Told l p X)
  | 0 => ⟨fun _ _ _ _ _ _ h => by simp [spec_grFar.l1] at h, fun _ _ _ _ _ _ _ _ _ _ h => by simp [spec_grFar.l2] at h⟩
  | k + 1 => by
    obtain ⟨i1, i2⟩ := far12 l p k
    constructor
    · intro x5 x7 x8 X hT hQ h
      unfold spec_grFar.l1 at h
      by_cases c1 : x8 < (x7.length : Int)
      · rw [if_pos c1] at h
        obtain ⟨c2, h⟩ := ifn h
        obtain ⟨_, h⟩ := ifn h
        obtain ⟨_, h⟩ := ifn h
        refine i2 _ _ _ _ _ _ X hT hQ (fun q hq => ?_) h
        exact Reach.step (hQ _ (rd_in c2 c1)) hq
      · rw [if_neg c1] at h
        injection h with h
        rw [← h]; exact hT
    · intro x5 x7 x8 x42 x43 x44 X hT hQ hR h
      unfold spec_grFar.l2 at h
      by_cases c1 : x44 < x43
      · rw [if_pos c1] at h
        obtain ⟨c2, h⟩ := ifn h
        obtain ⟨c3, h⟩ := ifn h
        obtain ⟨c4, h⟩ := ifn h
        obtain ⟨c5, h⟩ := ifn h
        have hq := hR _ (rd_in c2 c3)
        by_cases c6 : rd x5 (rd x42 x44) < 0
        · rw [if_pos c6] at h
          obtain ⟨_, h⟩ := ifn h
          obtain ⟨_, h⟩ := ifn h
          obtain ⟨_, h⟩ := ifn h
          obtain ⟨_, h⟩ := ifn h
          obtain ⟨_, h⟩ := ifn h
          refine i2 _ _ _ _ _ _ X (told_set hT _ c4 c5 hq) (fun q hq2 => ?_) hR h
          rcases List.mem_append.1 hq2 with hq2 | hq2
          · exact hQ q hq2
          · rw [List.mem_singleton.1 hq2]; exact hq
        · rw [if_neg c6] at h
          exact i2 _ _ _ _ _ _ X hT hQ hR h
      · rw [if_neg c1] at h
        exact i1 _ _ _ X hT hQ h
theorem far0 (l : List (List Int)) (p : Int) : ∀ k (x5 : List Int) (i : Int) X, 0 ≤ i → x5.length ≤ 1000 → (∀ v : Int, 0 ≤ v → v < i → v < x5.length → rd x5 v < 0) → spec_grFar.l0 k p x5 (x5.length : Int) i l = some X → Told l p X
  | 0, _, _, _, _, _, _, h => by simp [spec_grFar.l0] at h
  | k + 1, x5, i, X, hi, hl, hv, h => by
    unfold spec_grFar.l0 at h
    by_cases c1 : i < (x5.length : Int)
    · rw [if_pos c1] at h
      obtain ⟨_, h⟩ := ifn h
      obtain ⟨_, h⟩ := ifn h
      rw [wrap_id (by omega) (by omega)] at h
      have hv2 : ∀ v : Int, 0 ≤ v → v < i + 1 → v < (x5.set i.toNat (-1)).length → rd (x5.set i.toNat (-1)) v < 0 := by
        intro v h0 h1 h2
        rw [List.length_set] at h2
        by_cases hvi : v = i
        · rw [hvi, rd_set_same (-1) hi c1]; omega
        · rw [rd_set_other (-1) hi h0 hvi]
          exact hv v h0 (by omega) h2
      refine far0 l p k (x5.set i.toNat (-1)) (i + 1) X (by omega) (by simpa using hl) hv2 ?_
      rw [show ((x5.set i.toNat (-1)).length : Int) = (x5.length : Int) by rw [List.length_set]]
      exact h
    · rw [if_neg c1] at h
      obtain ⟨c2, h⟩ := ifn h
      obtain ⟨c3, h⟩ := ifn h
      refine (far12 l p k).1 _ _ _ X (fun v h0 h1 h2 => ?_) (fun q hq => ?_) h
      · rw [List.length_set] at h1
        by_cases hvp : v = p
        · rw [hvp]; exact Reach.here
        · rw [rd_set_other 0 c2 h0 hvp] at h2
          have := hv v h0 (by omega) h1
          omega
      · rw [List.mem_singleton.1 hq]; exact Reach.here
theorem far_told (l : List (List Int)) (p : Int) (k : Nat) (X : List Int) (hl : l.length ≤ 1000) (h : spec_grFar.f k l p = some X) : Told l p X := by
  unfold spec_grFar.f at h
  rw [if_pos (by omega), if_pos (by omega)] at h
  simp only [Option.bind_some] at h
  exact far0 l p k _ 0 X (by omega) (by simp; omega) (fun v h0 h1 _ => by omega) h
/-- From each place a way leads to a goal, and each place that is no goal has exits. -/
def Ends (l : List (List Int)) (a b v : Int) : Prop := (Reach l v a ∨ Reach l v b) ∧ (v = a ∨ v = b ∨ (GA.rd_L1 l v).length ≠ 0)
theorem can_told (l : List (List Int)) (a b : Int) (hl : l.length ≤ 1000) : ∀ k (i : Int), 0 ≤ i → spec_hiCan.l0 k a b l (l.length : Int) i l = some true → ∀ v : Int, i ≤ v → v < l.length → Ends l a b v
  | 0, _, _, h => by simp [spec_hiCan.l0] at h
  | k + 1, i, hi, h => by
    intro v h1 h2
    unfold spec_hiCan.l0 at h
    rw [if_pos (by omega), if_pos hi, if_pos (by omega)] at h
    obtain ⟨X, hX, h⟩ := Option.bind_eq_some_iff.1 h
    have hT := far_told l i k X hl hX
    rw [wrap_id (x := i + 1) (by omega) (by omega)] at h
    have key : Ends l a b i ∧ spec_hiCan.l0 k a b l (l.length : Int) (i + 1) l = some true := by
      have tail : ∀ (_ : Reach l i a ∨ Reach l i b), (if i = a then spec_hiCan.l0 k a b l (l.length : Int) (i + 1) l else if i = b then spec_hiCan.l0 k a b l (l.length : Int) (i + 1) l else if ((GB.rd_L1 l i).length : Int) = 0 then some false else spec_hiCan.l0 k a b l (l.length : Int) (i + 1) l) = some true → Ends l a b i ∧ spec_hiCan.l0 k a b l (l.length : Int) (i + 1) l = some true := by
        intro hr h
        split at h
        · rename_i c
          exact ⟨⟨hr, Or.inl c⟩, h⟩
        · split at h
          · rename_i c
            exact ⟨⟨hr, Or.inr (Or.inl c)⟩, h⟩
          · split at h
            · cases h
            · rename_i c
              refine ⟨⟨hr, Or.inr (Or.inr ?_)⟩, h⟩
              intro hz
              apply c
              rw [rdGB]
              omega
      split at h
      · rename_i c1
        split at h
        · rename_i c2
          split at h
          · split at h
            · rename_i c4
              split at h
              · rename_i c5
                split at h
                · cases h
                · rename_i c6
                  exact tail (Or.inr (hT b c4 c5 (by omega))) h
              · cases h
            · cases h
          · rename_i c3
            exact tail (Or.inl (hT a c1 c2 (by omega))) h
        · cases h
      · cases h
    by_cases hv : v = i
    · rw [hv]; exact key.1
    · exact can_told l a b hl k (i + 1) (by omega) key.2 v (by omega) h2
end Go.Proofs.Ytnbnalbomflafaa.RA
/-! ## Rb -/
namespace Go.Proofs.Ytnbnalbomflafaa.RA
open Go.RowKit Go.Proofs.YtnbnalbomflafaaW.PrintWords Go.Proofs.YtnbnalbomflafaaW.PrintLast Go.Proofs.YtnbnalbomflafaaW.PrintMore
open Go.Proofs.Ytnbnalbomflafaa.GA
open Go.Proofs.Ytnbnalbomflafaa.GD hiding rd_L1 at_L1
set_option linter.unusedVariables false
set_option linter.unusedSimpArgs false
theorem box_10 (w : World) (v : Value) (t : TypeId) : (w.alloc (.cells #[v] t)).cell? ⟨w.heap.size, 0, none⟩ = some v := (blk_cell (blk_new w _) 0).trans rfl
theorem szG_c (w : World) (v : Value) (l : List (List Int)) (h : RowsC w v l) (x : Int) (hx : 0 ≤ x ∧ x ≤ 1048576) : Calls Try.prog 19 #[.agg #[v], .int .i64 x] w fun e w' => e = .returned (.int .i64 (szZ l x)) ∧ Below w.heap.size w w' := by
  have h2 := szSS_f l x hx h.maxs.1 h.maxs.2
  have h3 := szZ_is l x hx
  obtain ⟨A, c, rfl, hc, hC⟩ := h
  refine laws_szGraph.calls (l.length + 1) A c l x _ w hC hc ?_
  unfold laws_szGraph.f
  rw [h2, Option.bind_some]
  rcases h3 with h3 | ⟨h3, _⟩
  · rw [h3]; rfl
  · rw [if_neg (by omega)]
theorem toG_c (w : World) (v : Value) (l : List (List Int)) (h : RowsC w v l) (hs : Small l) : Calls Try.prog 21 #[.agg #[v]] w fun e w' => ∃ u, e = .returned (.agg #[u]) ∧ Below w.heap.size w w' ∧ Aside0 (RowsD w' w.heap.size u l) := by
  obtain ⟨A, c, rfl, hc, hC⟩ := h
  refine (laws_toGraph.calls (1048576 + l.length + 2) A c l l w hC hc ?_).mono ?_
  · unfold laws_toGraph.f
    rw [toSS_is l hs.1 hs.2.2]
    rfl
  · rintro e w' ⟨u, rfl, hS, hB⟩
    exact ⟨u, rfl, hB, ⟨rowsD_of_S hS⟩⟩
theorem eqG_c (w : World) (v u : Value) (l : List (List Int)) (hv : RowsC w v l) (hu : RowsC w u l) (hs : Small l) : Calls Try.prog 24 #[.agg #[v], .agg #[u]] w fun e w' => e = .returned (.bool true) ∧ Below w.heap.size w w' := by
  obtain ⟨A, c, rfl, hc, hC⟩ := hv
  obtain ⟨A2, c2, rfl, hc2, hC2⟩ := hu
  refine laws_eqGraph.calls (1048576 + l.length + 2) A c l A2 c2 l true w hC hc hC2 hc2 ?_
  unfold laws_eqGraph.f
  rw [eqIntSS_refl l (by have := hs.1; omega) 1048576 hs.2.2 (by decide)]
  rfl
end Go.Proofs.Ytnbnalbomflafaa.RA
/-! ## Re -/
namespace Go.Proofs.Ytnbnalbomflafaa.RA
open Go.RowKit Go.Proofs.YtnbnalbomflafaaW.PrintWords Go.Proofs.YtnbnalbomflafaaW.PrintLast Go.Proofs.YtnbnalbomflafaaW.PrintMore
open Go.Proofs.Ytnbnalbomflafaa.GA
open Go.Proofs.Ytnbnalbomflafaa.GD hiding rd_L1 at_L1
open Go.Proofs.Ytnbnalbomflafaa.GR hiding rd_L1 at_L1
open Go.Proofs.Ytnbnalbomflafaa.KA
set_option linter.unusedVariables false
set_option linter.unusedSimpArgs false
def okWalk : List (List Int) → List Int → Bool
  | r :: l, x :: s => inB x 0 (max ((r.length : Int) - 1) 0) && okWalk l s
  | _, _ => true
def walkB (l : List (List Int)) (x : List Int) (a : Int) : Bool := placeB l a && decide (x.length = l.length) && okWalk l x
theorem walk_is {l : List (List Int)} {s : List Int} {a : Int} (h : walkB l s a = true) : placeB l a = true ∧ s.length = l.length ∧ okWalk l s = true := by
  unfold walkB at h
  simp only [Bool.and_eq_true, decide_eq_true_eq] at h
  exact ⟨h.1.1, h.1.2, h.2⟩
end Go.Proofs.Ytnbnalbomflafaa.RA
/-! ## Cb -/
namespace Go.Proofs.Ytnbnalbomflafaa.RA
open Go.RowKit Go.Proofs.YtnbnalbomflafaaW.PrintWords Go.Proofs.YtnbnalbomflafaaW.PrintLast Go.Proofs.YtnbnalbomflafaaW.PrintMore
open Go.Proofs.Ytnbnalbomflafaa.KA
set_option linter.unusedVariables false
set_option linter.unusedSimpArgs false
def Dist (l : List (List Int)) (a b : Int) : Nat → Int → Prop
  | 0, v => v = a ∨ v = b
  | m + 1, v => v = a ∨ v = b ∨ ∃ q ∈ GA.rd_L1 l v, Dist l a b m q
theorem dist_of {l : List (List Int)} {a b p q : Int} (h : Reach l p q) : ∀ m, Dist l a b m q → ∃ m', Dist l a b m' p := by
  induction h with
  | here => exact fun m h => ⟨m, h⟩
  | step h1 h2 ih => exact fun m hm => ih (m + 1) (Or.inr (Or.inr ⟨_, h2, hm⟩))
theorem dist_ends {l : List (List Int)} {a b v : Int} (h : Ends l a b v) : ∃ m, Dist l a b m v := by
  rcases h.1 with h | h
  · exact dist_of h 0 (Or.inl rfl)
  · exact dist_of h 0 (Or.inr rfl)
theorem least_of {P : Nat → Prop} : ∀ m, P m → ∃ n, P n ∧ ∀ k, k < n → ¬ P k := by
  intro m
  induction m using Nat.strongRecOn with
  | ind m ih =>
    intro hm
    by_cases h : ∃ k, k < m ∧ P k
    · obtain ⟨k, hk, hp⟩ := h
      exact ih k hk hp
    · exact ⟨m, hm, fun k hk hp => h ⟨k, hk, hp⟩⟩
theorem dist_fun (l : List (List Int)) (a b : Int) (n : Nat) (hE : ∀ v : Int, 0 ≤ v → v < n → ∃ m, Dist l a b m v) (hrow : ∀ v : Int, 0 ≤ v → v < n → ∀ q ∈ GA.rd_L1 l v, 0 ≤ q ∧ q < n) :
    ∃ d : Int → Nat, ∀ v : Int, 0 ≤ v → v < n → v ≠ a → v ≠ b → ∃ q ∈ GA.rd_L1 l v, d q < d v := by
  classical
  refine ⟨fun v => if h : ∃ m, Dist l a b m v ∧ ∀ k, k < m → ¬ Dist l a b k v then h.choose else 0, fun v h0 h1 ha hb => ?_⟩
  have key : ∀ v : Int, 0 ≤ v → v < n → ∃ m, Dist l a b m v ∧ ∀ k, k < m → ¬ Dist l a b k v := fun v h0 h1 => by
    obtain ⟨m, hm⟩ := hE v h0 h1
    exact least_of m hm
  have hv := key v h0 h1
  simp only [dif_pos hv]
  obtain ⟨hm, hleast⟩ := hv.choose_spec
  cases hc : hv.choose with
  | zero =>
    rw [hc] at hm
    rcases hm with hm | hm
    · exact absurd hm ha
    · exact absurd hm hb
  | succ m =>
    rw [hc] at hm
    rcases hm with hm | hm | ⟨q, hq, hd⟩
    · exact absurd hm ha
    · exact absurd hm hb
    · refine ⟨q, hq, ?_⟩
      have hqn := hrow v h0 h1 q hq
      have hk := key q hqn.1 hqn.2
      rw [dif_pos hk]
      have := hk.choose_spec.2
      rcases Nat.lt_or_ge m hk.choose with h | h
      · exact absurd hd (this m h)
      · omega
def sumTo (f : Nat → Nat) : Nat → Nat
  | 0 => 0
  | n + 1 => sumTo f n + f n
theorem sumTo_same (f g : Nat → Nat) : ∀ n, (∀ i, i < n → f i = g i) → sumTo f n = sumTo g n
  | 0, _ => rfl
  | n + 1, h => by
    unfold sumTo
    rw [sumTo_same f g n (fun i hi => h i (by omega)), h n (by omega)]
theorem sumTo_one (f g : Nat → Nat) (i : Nat) : ∀ n, i < n → (∀ j, j < n → j ≠ i → f j = g j) → sumTo f n + g i = sumTo g n + f i
  | 0, h, _ => by omega
  | n + 1, h, hj => by
    unfold sumTo
    by_cases hin : i = n
    · rw [hin, sumTo_same f g n (fun j hj2 => hj j (by omega) (by omega))]
      omega
    · have := sumTo_one f g i n (by omega) (fun j h1 h2 => hj j (by omega) h2)
      have := hj n (by omega) (by omega)
      omega
theorem sumTo_le (f : Nat → Nat) : ∀ n i, i < n → f i ≤ sumTo f n
  | 0, i, h => by omega
  | n + 1, i, h => by
    unfold sumTo
    by_cases hin : i = n
    · rw [hin]; omega
    · have := sumTo_le f n i (by omega); omega
def xs : Nat → Nat
  | 0 => 0
  | e + 1 => 5 * xs e + 5
theorem xs_mono : ∀ {e f : Nat}, e ≤ f → xs e ≤ xs f := by
  intro e f h
  induction h with
  | refl => exact Nat.le_refl _
  | step _ ih => exact Nat.le_trans ih (by show _ ≤ 5 * xs _ + 5; omega)
/-- How often a place is left until it is left by exit j. -/
def turns (deg j r : Nat) : Nat := (j + deg - 1 - r) % deg + 1
theorem turns_step (deg j r : Nat) (h5 : deg ≤ 5) (hj : j < deg) (hr : r < deg) : ((r + 1) % deg = j ∧ turns deg j r = 1 ∧ turns deg j ((r + 1) % deg) ≤ 5) ∨ (turns deg j ((r + 1) % deg) + 1 = turns deg j r) := by
  unfold turns
  have h : deg = 1 ∨ deg = 2 ∨ deg = 3 ∨ deg = 4 ∨ deg = 5 := by omega
  rcases h with rfl | rfl | rfl | rfl | rfl <;> omega
end Go.Proofs.Ytnbnalbomflafaa.RA
/-! ## Cc -/
namespace Go.Proofs.Ytnbnalbomflafaa.RA
open Go.RowKit Go.Proofs.YtnbnalbomflafaaW.PrintWords Go.Proofs.YtnbnalbomflafaaW.PrintLast Go.Proofs.YtnbnalbomflafaaW.PrintMore
open Go.Proofs.Ytnbnalbomflafaa.KA
set_option linter.unusedVariables false
set_option linter.unusedSimpArgs false
inductive Run (l : List (List Int)) (a b : Int) : Nat → Int → List Int → Int → Int → List Int → Int → Prop
  | stop (v : Int) (rot : List Int) (st : Int) (h : v = a ∨ v = b) : Run l a b 0 v rot st v rot st
  | go (s : Nat) (v : Int) (rot : List Int) (st v1 : Int) (rot1 : List Int) (st1 : Int) (ha : v ≠ a) (hb : v ≠ b) (h0 : 0 ≤ v) (h1 : v < l.length) (hr : v < rot.length) (k : Nat) (hk : k < (GA.rd_L1 l v).length)
      (hkr : Int.tmod (wrap64 (rd rot v + 1)) ((GA.rd_L1 l v).length : Int) = (k : Int)) (h : Run l a b s (rd (GA.rd_L1 l v) k) (rot.set v.toNat k) (wrap64 (st + 1)) v1 rot1 st1) : Run l a b (s + 1) v rot st v1 rot1 st1
def Rots (l : List (List Int)) (rot : List Int) : Prop := rot.length = l.length ∧ ∀ v : Int, 0 ≤ v → v < l.length → 0 < (GA.rd_L1 l v).length → 0 ≤ rd rot v ∧ rd rot v < (GA.rd_L1 l v).length
theorem rots_set {l : List (List Int)} {rot : List Int} (h : Rots l rot) {v : Int} (h0 : 0 ≤ v) (h1 : v < l.length) {k : Nat} (hk : k < (GA.rd_L1 l v).length) : Rots l (rot.set v.toNat k) := by
  refine ⟨by rw [List.length_set]; exact h.1, fun u u0 u1 hd => ?_⟩
  have hl := h.1
  by_cases hu : u = v
  · rw [hu, rd_set_same _ h0 (by omega)]
    omega
  · rw [rd_set_other _ h0 u0 hu]
    exact h.2 u u0 u1 hd
theorem run_ex (l : List (List Int)) (a b : Int) (h5 : ∀ v : Int, 0 ≤ v → v < l.length → (GA.rd_L1 l v).length ≤ 5) (hrow : ∀ v : Int, 0 ≤ v → v < l.length → ∀ q ∈ GA.rd_L1 l v, 0 ≤ q ∧ q < l.length)
    (hE : ∀ v : Int, 0 ≤ v → v < l.length → Ends l a b v) : ∀ (rot : List Int) (v st : Int), Rots l rot → 0 ≤ v → v < l.length → ∃ s v1 rot1 st1, Run l a b s v rot st v1 rot1 st1 ∧ Rots l rot1 := by
  classical
  obtain ⟨d, hd⟩ := dist_fun l a b l.length (fun v h0 h1 => dist_ends (hE v h0 h1)) hrow
  have hg : ∀ v : Int, ∃ j : Nat, 0 ≤ v → v < l.length → v ≠ a → v ≠ b → j < (GA.rd_L1 l v).length ∧ d (rd (GA.rd_L1 l v) j) < d v := fun v => by
    by_cases hv : 0 ≤ v ∧ v < l.length ∧ v ≠ a ∧ v ≠ b
    · obtain ⟨q, hq, hlt⟩ := hd v hv.1 hv.2.1 hv.2.2.1 hv.2.2.2
      obtain ⟨j, hj, hjq⟩ := List.mem_iff_getElem.1 hq
      exact ⟨j, fun _ _ _ _ => ⟨hj, by rw [rd_at _ j hj, hjq]; exact hlt⟩⟩
    · exact ⟨0, fun h0 h1 h2 h3 => absurd ⟨h0, h1, h2, h3⟩ hv⟩
  let g : Int → Nat := fun v => (hg v).choose
  have hgs : ∀ v : Int, 0 ≤ v → v < l.length → v ≠ a → v ≠ b → g v < (GA.rd_L1 l v).length ∧ d (rd (GA.rd_L1 l v) (g v)) < d v := fun v => (hg v).choose_spec
  obtain ⟨M, hM⟩ : ∃ M, ∀ v : Int, 0 ≤ v → v < l.length → d v ≤ M := ⟨sumTo (fun i => d (i : Int)) l.length, fun v h0 h1 => by
    obtain ⟨i, rfl⟩ := Int.eq_ofNat_of_zero_le h0
    exact sumTo_le (fun i => d (i : Int)) l.length i (by omega)⟩
  let T : List Int → Nat → Nat := fun rot i => (xs (M - d (i : Int)) + 1) * turns (GA.rd_L1 l (i : Int)).length (g (i : Int)) (rd rot (i : Int)).toNat
  suffices H : ∀ (m : Nat) (rot : List Int) (v st : Int), Rots l rot → 0 ≤ v → v < l.length → sumTo (T rot) l.length + (xs M - xs (M - d v)) < m → ∃ s v1 rot1 st1, Run l a b s v rot st v1 rot1 st1 ∧ Rots l rot1 from
    fun rot v st hR h0 h1 => H _ rot v st hR h0 h1 (Nat.lt_succ_self _)
  intro m
  induction m with
  | zero => intro rot v st _ _ _ h; omega
  | succ m ih =>
    intro rot v st hR h0 h1 hm
    by_cases ha : v = a
    · exact ⟨0, v, rot, st, Run.stop v rot st (Or.inl ha), hR⟩
    by_cases hb : v = b
    · exact ⟨0, v, rot, st, Run.stop v rot st (Or.inr hb), hR⟩
    obtain ⟨hj, hdj⟩ := hgs v h0 h1 ha hb
    have hdeg : 0 < (GA.rd_L1 l v).length := by omega
    have hdeg5 := h5 v h0 h1
    obtain ⟨hr0, hr1⟩ := hR.2 v h0 h1 hdeg
    obtain ⟨r, hr⟩ := Int.eq_ofNat_of_zero_le hr0
    have hrl : r < (GA.rd_L1 l v).length := by omega
    have hk : (r + 1) % (GA.rd_L1 l v).length < (GA.rd_L1 l v).length := Nat.mod_lt _ hdeg
    have hkr : Int.tmod (wrap64 (rd rot v + 1)) ((GA.rd_L1 l v).length : Int) = (((r + 1) % (GA.rd_L1 l v).length : Nat) : Int) := by
      rw [hr, wrap_id (by omega) (by omega)]
      rfl
    have hts := turns_step (GA.rd_L1 l v).length (g v) r hdeg5 hj hrl
    generalize hkk : (r + 1) % (GA.rd_L1 l v).length = k at hk hkr hts
    have hR2 := rots_set hR h0 h1 hk
    have hw := hrow v h0 h1 (rd (GA.rd_L1 l v) k) (by rw [rd_at _ k hk]; exact List.getElem_mem hk)
    have hrl2 := hR.1
    obtain ⟨i, rfl⟩ := Int.eq_ofNat_of_zero_le h0
    have hsum := sumTo_one (T (rot.set (i : Int).toNat k)) (T rot) i l.length (by omega) (fun j hj hji => by
      show _ * turns _ _ (rd (rot.set (i : Int).toNat k) (j : Int)).toNat = _ * turns _ _ (rd rot (j : Int)).toNat
      rw [rd_set_other _ h0 (by omega) (by omega)])
    have hTn : T (rot.set (i : Int).toNat k) i = (xs (M - d (i : Int)) + 1) * turns (GA.rd_L1 l (i : Int)).length (g (i : Int)) k := by
      show _ * turns _ _ (rd (rot.set (i : Int).toNat k) (i : Int)).toNat = _
      rw [rd_set_same _ h0 (by omega), Int.toNat_natCast]
    have hTo : T rot i = (xs (M - d (i : Int)) + 1) * turns (GA.rd_L1 l (i : Int)).length (g (i : Int)) r := by
      show _ * turns _ _ (rd rot (i : Int)).toNat = _
      rw [hr, Int.toNat_natCast]
    have hdM := hM (i : Int) h0 h1
    have hxM : xs (M - d (i : Int)) ≤ xs M := xs_mono (by omega)
    have hlt : sumTo (T (rot.set (i : Int).toNat k)) l.length + (xs M - xs (M - d (rd (GA.rd_L1 l (i : Int)) k))) < m := by
      rcases hts with ⟨h1_, h2_, h3_⟩ | h1_
      · rw [h1_] at hkk ⊢
        have hlow : xs (M - d (i : Int) + 1) ≤ xs (M - d (rd (GA.rd_L1 l (i : Int)) (g (i : Int)))) := xs_mono (by omega)
        have hhigh : xs (M - d (rd (GA.rd_L1 l (i : Int)) (g (i : Int)))) ≤ xs M := xs_mono (by omega)
        have hx : xs (M - d (i : Int) + 1) = 5 * xs (M - d (i : Int)) + 5 := rfl
        rw [h2_, Nat.mul_one] at hTo
        have hle := Nat.mul_le_mul_left (xs (M - d (i : Int)) + 1) h3_
        rw [← hTn] at hle
        rw [h1_] at hsum hle
        omega
      · rw [← h1_, Nat.mul_add, Nat.mul_one] at hTo
        rw [← hTn] at hTo
        omega
    obtain ⟨s, v1, rot1, st1, hrun, hR1⟩ := ih (rot.set (i : Int).toNat k) (rd (GA.rd_L1 l (i : Int)) k) (wrap64 (st + 1)) hR2 hw.1 hw.2 hlt
    exact ⟨s + 1, v1, rot1, st1, Run.go s _ rot st v1 rot1 st1 ha hb h0 h1 (by omega) k hk hkr hrun, hR1⟩
end Go.Proofs.Ytnbnalbomflafaa.RA
/-! ## GR3 -/
namespace Go.Proofs.Ytnbnalbomflafaa.GR
open Go.RowKit Go.Proofs.YtnbnalbomflafaaW.PrintWords Go.Proofs.YtnbnalbomflafaaW.PrintLast Go.Proofs.YtnbnalbomflafaaW.PrintMore
open Go.Proofs.Ytnbnalbomflafaa.GA Go.Proofs.Ytnbnalbomflafaa.GB Go.Proofs.Ytnbnalbomflafaa.GD Go.Proofs.Ytnbnalbomflafaa.KA
attribute [local go_sem] max2_int min2_int max_two min_two max_three min_three max_four min_four   -- for this text's walks alone
set_option linter.unusedVariables false
set_option linter.unusedSimpArgs false
mutual
def spec_skCycle.j1 : Nat → Int → List Int → Int → Option (List Int)
  | 0, _, _, _ => none
  | k + 1, x2, x7, x8 => if x8 = x2 then (spec_skCycle.l1 k x7 0 x7 (x7.length : Int) 0) else (some ([] : List Int))
def spec_skCycle.l1 : Nat → List Int → Int → List Int → Int → Int → Option (List Int)
  | 0, _, _, _, _, _ => none
  | k + 1, x7, x10, x46, x47, x48 => if x48 < x47 then (if 0 ≤ x48 then (if x48 < (x46.length : Int) then (if 0 ≤ x10 then (if x10 < (x7.length : Int) then (if (rd x46 x48) < (rd x7 x10) then (spec_skCycle.l1 k x7 x48 x46 x47 (wrap64 (x48 + 1))) else (spec_skCycle.l1 k x7 x10 x46 x47 (wrap64 (x48 + 1)))) else (none)) else (none)) else (none)) else (none)) else (if 0 ≤ x10 then (if x10 ≤ (x7.length : Int) then ((spec_l1Own.f (x7.drop (x10 : Int).toNat)).bind fun t364 => ((some (x7.take (x10 : Int).toNat : List Int)).bind fun y367 => (if t364.length + y367.length < 17592186044416 then (some (t364 ++ y367)) else (none)))) else (none)) else (none))
def spec_skCycle.l0 : Nat → Int → List Int → Int → Int → List (List Int) → List (List Int) → Option (List Int)
  | 0, _, _, _, _, _, _ => none
  | k + 1, x2, x7, x8, x9, x349000, x350000 => if x9 < (x349000.length : Int) then (if x8 ≥ 0 then (if x8 = x2 then (spec_skCycle.j1 k x2 x7 x8) else (if x7.length < 17592186044416 then ((spec_skNext.f x349000 x350000 x8).bind fun t357 => (spec_skCycle.l0 k x2 (x7 ++ [x8]) t357 (wrap64 (x9 + 1)) x349000 x350000)) else (none))) else (spec_skCycle.j1 k x2 x7 x8)) else (spec_skCycle.j1 k x2 x7 x8)
end
def spec_skCycle.f (k : Nat) (l0_0 : List (List Int)) (l1_0 : List (List Int)) (a2 : Int) : Option (List Int) := (spec_skNext.f l0_0 l1_0 a2).bind fun t353 => (spec_skCycle.l0 k a2 (([a2] : List Int)) t353 0 l0_0 l1_0)
theorem spec_skCycle.mono_l : ∀ k, (∀ y0 y1 y2, LeO (spec_skCycle.j1 k y0 y1 y2) (spec_skCycle.j1 (k + 1) y0 y1 y2)) ∧ (∀ y0 y1 y2 y3 y4, LeO (spec_skCycle.l1 k y0 y1 y2 y3 y4) (spec_skCycle.l1 (k + 1) y0 y1 y2 y3 y4)) ∧ (∀ y0 y1 y2 y3 y4 y5, LeO (spec_skCycle.l0 k y0 y1 y2 y3 y4 y5) (spec_skCycle.l0 (k + 1) y0 y1 y2 y3 y4 y5))
  | 0 => ⟨fun _ _ _ r h => by simp [spec_skCycle.j1] at h, fun _ _ _ _ _ r h => by simp [spec_skCycle.l1] at h, fun _ _ _ _ _ _ r h => by simp [spec_skCycle.l0] at h⟩
  | k + 1 => by
    obtain ⟨ih0, ih1, ih2⟩ := spec_skCycle.mono_l k
    refine ⟨?_, ?_, ?_⟩
    · intro y0 y1 y2
      unfold spec_skCycle.j1
      repeat' first
      | (with_reducible exact ih0 _ _ _)
      | (with_reducible exact ih1 _ _ _ _ _)
      | (with_reducible exact ih2 _ _ _ _ _ _)
      | (with_reducible exact LeO.refl _)
      | (with_reducible exact LeO.none _)
      | (with_reducible refine LeO.ite ?_ ?_)
      | (with_reducible refine LeO.bind ?_ (fun _ => ?_))
      | exact ih0 _ _ _
      | exact ih1 _ _ _ _ _
      | exact ih2 _ _ _ _ _ _
      | exact LeO.none _
      | refine LeO.ite ?_ ?_
      | refine LeO.bind ?_ (fun _ => ?_)
    · intro y0 y1 y2 y3 y4
      unfold spec_skCycle.l1
      repeat' first
      | (with_reducible exact ih0 _ _ _)
      | (with_reducible exact ih1 _ _ _ _ _)
      | (with_reducible exact ih2 _ _ _ _ _ _)
      | (with_reducible exact LeO.refl _)
      | (with_reducible exact LeO.none _)
      | (with_reducible refine LeO.ite ?_ ?_)
      | (with_reducible refine LeO.bind ?_ (fun _ => ?_))
      | exact ih0 _ _ _
      | exact ih1 _ _ _ _ _
      | exact ih2 _ _ _ _ _ _
      | exact LeO.none _
      | refine LeO.ite ?_ ?_
      | refine LeO.bind ?_ (fun _ => ?_)
    · intro y0 y1 y2 y3 y4 y5
      unfold spec_skCycle.l0
      repeat' first
      | (with_reducible exact ih0 _ _ _)
      | (with_reducible exact ih1 _ _ _ _ _)
      | (with_reducible exact ih2 _ _ _ _ _ _)
      | (with_reducible exact LeO.refl _)
      | (with_reducible exact LeO.none _)
      | (with_reducible refine LeO.ite ?_ ?_)
      | (with_reducible refine LeO.bind ?_ (fun _ => ?_))
      | exact ih0 _ _ _
      | exact ih1 _ _ _ _ _
      | exact ih2 _ _ _ _ _ _
      | exact LeO.none _
      | refine LeO.ite ?_ ?_
      | refine LeO.bind ?_ (fun _ => ?_)
theorem spec_skCycle.mono : ∀ a0 a1 a2 k, LeO (spec_skCycle.f k a0 a1 a2) (spec_skCycle.f (k + 1) a0 a1 a2) := by
  intro a0 a1 a2 k
  obtain ⟨ih0, ih1, ih2⟩ := spec_skCycle.mono_l k
  unfold spec_skCycle.f
  repeat' first
      | (with_reducible exact ih0 _ _ _)
      | (with_reducible exact ih1 _ _ _ _ _)
      | (with_reducible exact ih2 _ _ _ _ _ _)
      | (with_reducible exact LeO.refl _)
      | (with_reducible exact LeO.none _)
      | (with_reducible refine LeO.ite ?_ ?_)
      | (with_reducible refine LeO.bind ?_ (fun _ => ?_))
      | exact ih0 _ _ _
      | exact ih1 _ _ _ _ _
      | exact ih2 _ _ _ _ _ _
      | exact LeO.none _
      | refine LeO.ite ?_ ?_
      | refine LeO.bind ?_ (fun _ => ?_)
def spec_skCycles.l0 : Nat → List (List Int) → Int → Int → List (List Int) → List (List Int) → Option ((List (List Int)))
  | 0, _, _, _, _, _ => none
  | k + 1, x5, x10, x11, x375000, x376000 => if x11 < x10 then ((spec_skCycle.f k x375000 x376000 x11).bind fun t376 => (if (t376.length : Int) > 0 then (if 0 < (t376.length : Int) then (if (rd t376 0) = x11 then (if x5.length < 5864062014805 then (spec_skCycles.l0 k (x5 ++ [t376]) x10 (wrap64 (x11 + 1)) x375000 x376000) else (none)) else (spec_skCycles.l0 k x5 x10 (wrap64 (x11 + 1)) x375000 x376000)) else (none)) else (spec_skCycles.l0 k x5 x10 (wrap64 (x11 + 1)) x375000 x376000))) else (some x5)
def spec_skCycles.f (k : Nat) (l0_0 : List (List Int)) (l1_0 : List (List Int)) : Option ((List (List Int))) := spec_skCycles.l0 k ([] : List (List Int)) (l0_0.length : Int) 0 l0_0 l1_0
theorem spec_skCycles.mono_l : ∀ k, (∀ y0 y1 y2 y3 y4, LeO (spec_skCycles.l0 k y0 y1 y2 y3 y4) (spec_skCycles.l0 (k + 1) y0 y1 y2 y3 y4))
  | 0 => fun _ _ _ _ _ r h => by simp [spec_skCycles.l0] at h
  | k + 1 => by
    have ih0 := spec_skCycles.mono_l k
    · intro y0 y1 y2 y3 y4
      unfold spec_skCycles.l0
      repeat' first
      | (with_reducible exact ih0 _ _ _ _ _)
      | (with_reducible exact spec_skCycle.mono _ _ _ _)
      | (with_reducible exact LeO.refl _)
      | (with_reducible exact LeO.none _)
      | (with_reducible refine LeO.ite ?_ ?_)
      | (with_reducible refine LeO.bind ?_ (fun _ => ?_))
      | exact ih0 _ _ _ _ _
      | exact spec_skCycle.mono _ _ _ _
      | exact LeO.none _
      | refine LeO.ite ?_ ?_
      | refine LeO.bind ?_ (fun _ => ?_)
theorem spec_skCycles.mono : ∀ a0 a1 k, LeO (spec_skCycles.f k a0 a1) (spec_skCycles.f (k + 1) a0 a1) := by
  intro a0 a1 k
  have ih0 := spec_skCycles.mono_l k
  unfold spec_skCycles.f
  repeat' first
      | (with_reducible exact ih0 _ _ _ _ _)
      | (with_reducible exact spec_skCycle.mono _ _ _ _)
      | (with_reducible exact LeO.refl _)
      | (with_reducible exact LeO.none _)
      | (with_reducible refine LeO.ite ?_ ?_)
      | (with_reducible refine LeO.bind ?_ (fun _ => ?_))
      | exact ih0 _ _ _ _ _
      | exact spec_skCycle.mono _ _ _ _
      | exact LeO.none _
      | refine LeO.ite ?_ ?_
      | refine LeO.bind ?_ (fun _ => ?_)
def spec_CyclesOf.f (k : Nat) (l0_0 : List (List Int)) (a1 : Int) (l2_0 : List (List Int)) : Option ((List (List Int)) × Bool) := (spec_skGood.f k l0_0 a1 l2_0).bind fun t385 => (if t385 = true then ((spec_skCycles.f k l0_0 l2_0).bind fun t386 => (some (t386, true))) else (some (([] : List (List Int)), false)))
theorem spec_CyclesOf.mono : ∀ a0 a1 a2 k, LeO (spec_CyclesOf.f k a0 a1 a2) (spec_CyclesOf.f (k + 1) a0 a1 a2) := by
  intro a0 a1 a2 k
  unfold spec_CyclesOf.f
  repeat' first
      | (with_reducible exact spec_skCycles.mono _ _ _)
      | (with_reducible exact spec_skGood.mono _ _ _ _)
      | (with_reducible exact LeO.refl _)
      | (with_reducible exact LeO.none _)
      | (with_reducible refine LeO.ite ?_ ?_)
      | (with_reducible refine LeO.bind ?_ (fun _ => ?_))
      | exact spec_skCycles.mono _ _ _
      | exact spec_skGood.mono _ _ _ _
      | exact LeO.none _
      | refine LeO.ite ?_ ?_
      | refine LeO.bind ?_ (fun _ => ?_)
end Go.Proofs.Ytnbnalbomflafaa.GR
/-! ## Y4 -/
namespace Go.Proofs.Ytnbnalbomflafaa.RA
open Go.RowKit
theorem field80_0 (a b c : Value) (w : World) : (Instr.field 80 (.agg #[a, b, c]) 0).run Try.prog w = .ok a w := by kernel_rfl
theorem field80_1 (a b c : Value) (w : World) : (Instr.field 80 (.agg #[a, b, c]) 1).run Try.prog w = .ok b w := by kernel_rfl
theorem field80_2 (a b c : Value) (w : World) : (Instr.field 80 (.agg #[a, b, c]) 2).run Try.prog w = .ok c w := by kernel_rfl
end Go.Proofs.Ytnbnalbomflafaa.RA
/-! ## GQ0 -/
namespace Go.Proofs.Ytnbnalbomflafaa.GQ
open Go.RowKit Go.Proofs.YtnbnalbomflafaaW.PrintWords Go.Proofs.YtnbnalbomflafaaW.PrintLast Go.Proofs.YtnbnalbomflafaaW.PrintMore
open Go.Proofs.Ytnbnalbomflafaa.GA Go.Proofs.Ytnbnalbomflafaa.GB Go.Proofs.Ytnbnalbomflafaa.GD Go.Proofs.Ytnbnalbomflafaa.KA Go.Proofs.Ytnbnalbomflafaa.GR
attribute [local go_sem] RA.field80_0 RA.field80_1 RA.field80_2 max2_int min2_int max_two min_two max_three min_three max_four min_four   -- for this text's walks alone
set_option linter.unusedVariables false
set_option linter.unusedSimpArgs false
def errW : Option Int → Value
  | none => .nilIface
  | some c => .iface 0 (.int .i64 c)
theorem errW_none : errW none = .nilIface := rfl
theorem errW_some (c : Int) : errW (some c) = .iface 0 (.int .i64 c) := rfl
theorem info3 : (Try.prog.info? 3).map (fun i => (i.zero, i.size, i.bytes)) = some (some (.int .i64 0), 1, 8) := by kernel_rfl
def rd_L1 (xs : List (List Int)) (i : Int) : (List Int) := xs.getD i.toNat ([] : List Int)
theorem at_L1 {w : World} {A : Option Addr} {n : Nat} {xs : List (List Int)} (h : Kd.C (Kd.slice 3 (Kd.int .i64)) w A n xs) (i : Int) (h0 : 0 ≤ i) (h1 : i < n) : ∃ ad A0 c0, A = some ad ∧ w.cell? (ad.add i.toNat) = some (.slice A0 (rd_L1 xs i).length c0) ∧ (rd_L1 xs i).length ≤ c0 ∧ (Kd.int .i64).C w A0 (rd_L1 xs i).length (rd_L1 xs i) := by
  obtain ⟨ad, c, e, _, hK, hc0⟩ := Kd.C_get h ([] : List Int) i h0 h1
  have hc : ∀ j u, c[j]? = some u → w.cell? (ad.add (i.toNat * 1 + j)) = some u := hc0
  obtain ⟨A0, c0, rfl, l0, g0⟩ := hK
  exact ⟨ad, A0, c0, e, by have hq := hc 0 _ rfl; rwa [Nat.mul_one, Nat.add_zero] at hq, l0, g0⟩
end Go.Proofs.Ytnbnalbomflafaa.GQ
/-! ## GQ1 -/
namespace Go.Proofs.Ytnbnalbomflafaa.GQ
open Go.RowKit Go.Proofs.YtnbnalbomflafaaW.PrintWords Go.Proofs.YtnbnalbomflafaaW.PrintLast Go.Proofs.YtnbnalbomflafaaW.PrintMore
open Go.Proofs.Ytnbnalbomflafaa.GA Go.Proofs.Ytnbnalbomflafaa.GB Go.Proofs.Ytnbnalbomflafaa.GD Go.Proofs.Ytnbnalbomflafaa.KA Go.Proofs.Ytnbnalbomflafaa.GR
attribute [local go_sem] RA.field80_0 RA.field80_1 RA.field80_2 max2_int min2_int max_two min_two max_three min_three max_four min_four   -- for this text's walks alone
set_option linter.unusedVariables false
set_option linter.unusedSimpArgs false
def spec_hiGood.f (k : Nat) (l0_0 : List (List Int)) (a1 : Int) (a2 : Int) : Option (Bool) := (spec_hiGoals.f k l0_0 a1 a2).bind fun t140 => (if t140 = true then ((spec_hiCan.f k l0_0 a1 a2).bind fun t141 => (some t141)) else (some false))
theorem spec_hiGood.mono : ∀ a0 a1 a2 k, LeO (spec_hiGood.f k a0 a1 a2) (spec_hiGood.f (k + 1) a0 a1 a2) := by
  intro a0 a1 a2 k
  unfold spec_hiGood.f
  repeat' first
      | (with_reducible exact spec_hiCan.mono _ _ _ _)
      | (with_reducible exact spec_hiGoals.mono _ _ _ _)
      | (with_reducible exact LeO.refl _)
      | (with_reducible exact LeO.none _)
      | (with_reducible refine LeO.ite ?_ ?_)
      | (with_reducible refine LeO.bind ?_ (fun _ => ?_))
      | exact spec_hiCan.mono _ _ _ _
      | exact spec_hiGoals.mono _ _ _ _
      | exact LeO.none _
      | refine LeO.ite ?_ ?_
      | refine LeO.bind ?_ (fun _ => ?_)
set_option maxHeartbeats 8000000 in
set_option maxRecDepth 100000 in
theorem spec_hiGood.calls (k : Nat) (A0_0 : Option Addr) (c0_0 : Nat) (l0_0 : List (List Int)) (a1 : Int) (a2 : Int) (r : Bool) (w : World) (hr0_0 : Kd.C (Kd.slice 3 (Kd.int .i64)) w A0_0 l0_0.length l0_0) (hc0_0 : l0_0.length ≤ c0_0) (h : spec_hiGood.f k l0_0 a1 a2 = some r) :
    Calls Try.prog 87 #[.agg #[.slice A0_0 l0_0.length c0_0], .int .i64 a1, .int .i64 a2] w fun e w' => e = .returned (.bool r) ∧ Below w.heap.size w w' := by
  have hu30 := Try.underlying30
  have HR0_0 := Aside0.mk hr0_0
  have HC0_0 := Aside0.mk hc0_0
  clear hr0_0 hc0_0
  have HB := Aside0.mk (Below.refl w.heap.size w)
  have H : ((spec_hiGoals.f k l0_0 a1 a2).bind fun t140 => (if t140 = true then ((spec_hiCan.f k l0_0 a1 a2).bind fun t141 => (some t141)) else (some false))) = some r := h
  clear h
  replace H := Option.bind_eq_some_iff.mp H
  obtain ⟨t140, A40, H⟩ := H
  replace H : (if t140 = true then ((spec_hiCan.f k l0_0 a1 a2).bind fun t141 => (some t141)) else (some false)) = some r := H
  have A4 := Aside0.mk A40
  clear A40
  by_cases c5 : t140 = true
  · subst c5
    have H1 : ((spec_hiCan.f k l0_0 a1 a2).bind fun t141 => (some t141)) = some r := by rw [if_pos rfl] at H; exact H
    clear H
    have H := H1
    clear H1
    replace H := Option.bind_eq_some_iff.mp H
    obtain ⟨t141, A60, H⟩ := H
    replace H : (some t141) = some r := H
    have A6 := Aside0.mk A60
    clear A60
    obtain rfl := Option.some.inj H
    go_enter Try.func87, Try.ntmps87
    go_wp2_with (first | ((with_reducible refine gate_dst (N := 3) rfl ?_); refine box_event ?hg (N := 3) ?hd (cs := #[.slice A0_0 l0_0.length c0_0]) (t := 30) ?hr ?_; (case hd => rfl); (case hg => rfl); (case hr => first | (go_simp; done) | (go_simp; rfl)); intro gb139 hg w7 hbox hb; have n0_ := Aside0.mk (below_step (by repeat (first | (with_reducible first | exact HB.out | apply below_alloc | apply pw_below_drewN | apply below_drew1) | exact HB.out)) hb); have n1_ := Aside0.mk (hbox); have n2_ := Aside0.mk ((by rw [hg]; exact (below_size (by repeat (first | (with_reducible first | exact HB.out | apply below_alloc | apply pw_below_drewN | apply below_drew1) | exact HB.out))) : w.heap.size ≤ gb139)); have n3_ := Aside0.mk ((by rw [hg]; exact (below_size (by repeat (first | (with_reducible first | exact HB.out | apply below_alloc | apply pw_below_drewN | apply below_drew1) | exact HB.out))) : w.heap.size ≤ gb139)); clear HB; have HB := n0_; have BK139 := n1_; have GW139 := n2_; have GE139 := n3_; clear n0_ n1_ n2_ n3_; clear hb hbox hg; have hcz8_0 : w7.cell? ⟨gb139, 0, none⟩ = some (.slice A0_0 l0_0.length c0_0) := (blk_cell BK139.out 0).trans rfl; have hfz8_0 := blk_frozen BK139.out 0) | ((with_reducible refine gate_callee (f := 79) rfl ?_); refine goesL_ (some 10) rfl rfl Try.func79 (by kernel_rfl) rfl #[.agg #[.slice A0_0 l0_0.length c0_0], .int .i64 a1, .int .i64 a2] rfl (by (try simp only [List.map_toArray, List.map_cons, List.map_nil]); first | done | rfl | (simp only [List.length_drop, List.length_take]; rfl)) ?_; (with_reducible refine (spec_hiGoals.calls k _ _ l0_0 a1 a2 true _ ?side1 ?side2 A4.out).mono ?_); (case side1 => repeat (first | exact (Kd.C_below HR0_0.out HB.out) | (with_reducible refine Kd.C_alloc ?_ _) | (with_reducible refine Kd.C_drewN ?_ _) | (with_reducible refine Kd.C_drew ?_))); (case side2 => exact HC0_0.out); rintro e w9 ⟨rfl, hb⟩; refine ⟨_, rfl, ?_⟩; have n0_ := Aside0.mk (blk_below (g := gb139) (o := .cells #[.slice A0_0 l0_0.length c0_0] 30 (0, 0)) (by (with_reducible repeat (first | refine blk_drewN ?_ _ | refine blk_drew ?_ | refine blk_alloc ?_ _)); exact BK139.out) hb); have n1_ := Aside0.mk (below_step (by repeat (first | (with_reducible first | exact HB.out | apply below_alloc | apply pw_below_drewN | apply below_drew1 | refine below_set ?_ GE139.out) | exact HB.out)) hb); clear BK139; clear HB; have BK139 := n0_; have HB := n1_; clear n0_ n1_; (try clear hb); (try clear hb2); (try clear hk); (try clear hi); have hcz10_0 : w9.cell? ⟨gb139, 0, none⟩ = some (.slice A0_0 l0_0.length c0_0) := (blk_cell BK139.out 0).trans rfl; have hfz10_0 := blk_frozen BK139.out 0) | (go_at_call 80; (with_reducible refine (spec_hiCan.calls k _ _ l0_0 a1 a2 t141 _ ?side1 ?side2 A6.out).mono ?_); (case side1 => repeat (first | exact (Kd.C_below HR0_0.out HB.out) | (with_reducible refine Kd.C_alloc ?_ _) | (with_reducible refine Kd.C_drewN ?_ _) | (with_reducible refine Kd.C_drew ?_))); (case side2 => exact HC0_0.out); rintro e w11 ⟨rfl, hb⟩; have n0_ := Aside0.mk (blk_below (g := gb139) (o := .cells #[.slice A0_0 l0_0.length c0_0] 30 (0, 0)) (by (with_reducible repeat (first | refine blk_drewN ?_ _ | refine blk_drew ?_ | refine blk_alloc ?_ _)); exact BK139.out) hb); have n1_ := Aside0.mk (below_step (by repeat (first | (with_reducible first | exact HB.out | apply below_alloc | apply pw_below_drewN | apply below_drew1 | refine below_set ?_ GE139.out) | exact HB.out)) hb); clear BK139; clear HB; have BK139 := n0_; have HB := n1_; clear n0_ n1_; (try clear hb); (try clear hb2); (try clear hk); (try clear hi)))
    go_ret
    exact ⟨by first | rfl | (simp [errW_none, errW_some] <;> rfl) | (simp [*, errW_none, errW_some] <;> rfl), by repeat (first | (with_reducible first | exact HB.out | apply below_alloc | apply pw_below_drewN | apply below_drew1 | refine below_set ?_ GE139.out) | exact HB.out)⟩
  · replace c5 := Bool.eq_false_iff.mpr c5
    subst c5
    have H1 : (some false) = some r := by rw [if_neg (show ¬ (false = true) by decide)] at H; exact H
    clear H
    have H := H1
    clear H1
    obtain rfl := Option.some.inj H
    go_enter Try.func87, Try.ntmps87
    go_wp2_with (first | ((with_reducible refine gate_dst (N := 3) rfl ?_); refine box_event ?hg (N := 3) ?hd (cs := #[.slice A0_0 l0_0.length c0_0]) (t := 30) ?hr ?_; (case hd => rfl); (case hg => rfl); (case hr => first | (go_simp; done) | (go_simp; rfl)); intro gb139 hg w12 hbox hb; have n0_ := Aside0.mk (below_step (by repeat (first | (with_reducible first | exact HB.out | apply below_alloc | apply pw_below_drewN | apply below_drew1) | exact HB.out)) hb); have n1_ := Aside0.mk (hbox); have n2_ := Aside0.mk ((by rw [hg]; exact (below_size (by repeat (first | (with_reducible first | exact HB.out | apply below_alloc | apply pw_below_drewN | apply below_drew1) | exact HB.out))) : w.heap.size ≤ gb139)); have n3_ := Aside0.mk ((by rw [hg]; exact (below_size (by repeat (first | (with_reducible first | exact HB.out | apply below_alloc | apply pw_below_drewN | apply below_drew1) | exact HB.out))) : w.heap.size ≤ gb139)); clear HB; have HB := n0_; have BK139 := n1_; have GW139 := n2_; have GE139 := n3_; clear n0_ n1_ n2_ n3_; clear hb hbox hg; have hcz13_0 : w12.cell? ⟨gb139, 0, none⟩ = some (.slice A0_0 l0_0.length c0_0) := (blk_cell BK139.out 0).trans rfl; have hfz13_0 := blk_frozen BK139.out 0) | ((with_reducible refine gate_callee (f := 79) rfl ?_); refine goesL_ (some 10) rfl rfl Try.func79 (by kernel_rfl) rfl #[.agg #[.slice A0_0 l0_0.length c0_0], .int .i64 a1, .int .i64 a2] rfl (by (try simp only [List.map_toArray, List.map_cons, List.map_nil]); first | done | rfl | (simp only [List.length_drop, List.length_take]; rfl)) ?_; (with_reducible refine (spec_hiGoals.calls k _ _ l0_0 a1 a2 false _ ?side1 ?side2 A4.out).mono ?_); (case side1 => repeat (first | exact (Kd.C_below HR0_0.out HB.out) | (with_reducible refine Kd.C_alloc ?_ _) | (with_reducible refine Kd.C_drewN ?_ _) | (with_reducible refine Kd.C_drew ?_))); (case side2 => exact HC0_0.out); rintro e w14 ⟨rfl, hb⟩; refine ⟨_, rfl, ?_⟩; have n0_ := Aside0.mk (blk_below (g := gb139) (o := .cells #[.slice A0_0 l0_0.length c0_0] 30 (0, 0)) (by (with_reducible repeat (first | refine blk_drewN ?_ _ | refine blk_drew ?_ | refine blk_alloc ?_ _)); exact BK139.out) hb); have n1_ := Aside0.mk (below_step (by repeat (first | (with_reducible first | exact HB.out | apply below_alloc | apply pw_below_drewN | apply below_drew1 | refine below_set ?_ GE139.out) | exact HB.out)) hb); clear BK139; clear HB; have BK139 := n0_; have HB := n1_; clear n0_ n1_; (try clear hb); (try clear hb2); (try clear hk); (try clear hi)))
    go_ret
    exact ⟨by first | rfl | (simp [errW_none, errW_some] <;> rfl) | (simp [*, errW_none, errW_some] <;> rfl), by repeat (first | (with_reducible first | exact HB.out | apply below_alloc | apply pw_below_drewN | apply below_drew1 | refine below_set ?_ GE139.out) | exact HB.out)⟩
def spec_hiAsked.f (k : Nat) (l0_0 : List (List Int)) (l1 : List Int) (a2 : Int) (a3 : Int) (a4 : Int) (a5 : Int) : Option (Bool) := (spec_hiGood.f k l0_0 a3 a4).bind fun t150 => (if t150 = true then ((spec_waGood.f k l0_0 l1 a2).bind fun t151 => (if t151 = true then ((spec_l1In.f a5 0 100).bind fun t152 => (some t152)) else (some false))) else (some false))
theorem spec_hiAsked.mono : ∀ a0 a1 a2 a3 a4 a5 k, LeO (spec_hiAsked.f k a0 a1 a2 a3 a4 a5) (spec_hiAsked.f (k + 1) a0 a1 a2 a3 a4 a5) := by
  intro a0 a1 a2 a3 a4 a5 k
  unfold spec_hiAsked.f
  repeat' first
      | (with_reducible exact spec_hiGood.mono _ _ _ _)
      | (with_reducible exact spec_waGood.mono _ _ _ _)
      | (with_reducible exact LeO.refl _)
      | (with_reducible exact LeO.none _)
      | (with_reducible refine LeO.ite ?_ ?_)
      | (with_reducible refine LeO.bind ?_ (fun _ => ?_))
      | exact spec_hiGood.mono _ _ _ _
      | exact spec_waGood.mono _ _ _ _
      | exact LeO.none _
      | refine LeO.ite ?_ ?_
      | refine LeO.bind ?_ (fun _ => ?_)
mutual
def spec_hiRun.l0 : Nat → Int → Int → Int → Int → List (List Int) → List Int → List Int → Int → Option (List Int × List Int × Int)
  | 0, _, _, _, _, _, _, _, _ => none
  | k + 1, x2, x3, x4, x5, x160000, x165000, x165001, x165002 => if x5 > 0 then (spec_hiRun.l1 k x2 x3 x4 x5 x2 x160000 x165000 x165001 x165002) else (some (x165000, x165001, x165002))
def spec_hiRun.l1 : Nat → Int → Int → Int → Int → Int → List (List Int) → List Int → List Int → Int → Option (List Int × List Int × Int)
  | 0, _, _, _, _, _, _, _, _, _ => none
  | k + 1, x2, x3, x4, x5, x14, x160000, x165000, x165001, x165002 => if x14 = x3 then (if x165000.length < 17592186044416 then (spec_hiRun.l0 k x2 x3 x4 (wrap64 (x5 - 1)) x160000 (x165000 ++ [1]) x165001 x165002) else (none)) else (if x14 = x4 then (if x165000.length < 17592186044416 then (spec_hiRun.l0 k x2 x3 x4 (wrap64 (x5 - 1)) x160000 (x165000 ++ [0]) x165001 x165002) else (none)) else (if 0 ≤ x14 then (if x14 < (x160000.length : Int) then (if x14 < (x165001.length : Int) then (if ((rd_L1 x160000 x14).length : Int) = 0 then (none) else (if 0 ≤ (Int.tmod (wrap64 ((rd x165001 x14) + 1)) ((rd_L1 x160000 x14).length : Int)) then (if (Int.tmod (wrap64 ((rd x165001 x14) + 1)) ((rd_L1 x160000 x14).length : Int)) < ((rd_L1 x160000 x14).length : Int) then (spec_hiRun.l1 k x2 x3 x4 x5 (rd (rd_L1 x160000 x14) (Int.tmod (wrap64 ((rd x165001 x14) + 1)) ((rd_L1 x160000 x14).length : Int))) x160000 x165000 (x165001.set (x14 : Int).toNat (Int.tmod (wrap64 ((rd x165001 x14) + 1)) ((rd_L1 x160000 x14).length : Int))) (wrap64 (x165002 + 1))) else (none)) else (none))) else (none)) else (none)) else (none)))
end
def spec_hiRun.f (k : Nat) (l0_0 : List (List Int)) (l1 : List Int) (a2 : Int) (a3 : Int) (a4 : Int) (a5 : Int) : Option (List Int × List Int × Int) := (spec_l1Own.f l1).bind fun t161 => (spec_hiRun.l0 k a2 a3 a4 a5 l0_0 ([] : List Int) t161 0)
theorem spec_hiRun.mono_l : ∀ k, (∀ y0 y1 y2 y3 y4 y5 y6 y7, LeO (spec_hiRun.l0 k y0 y1 y2 y3 y4 y5 y6 y7) (spec_hiRun.l0 (k + 1) y0 y1 y2 y3 y4 y5 y6 y7)) ∧ (∀ y0 y1 y2 y3 y4 y5 y6 y7 y8, LeO (spec_hiRun.l1 k y0 y1 y2 y3 y4 y5 y6 y7 y8) (spec_hiRun.l1 (k + 1) y0 y1 y2 y3 y4 y5 y6 y7 y8))
  | 0 => ⟨fun _ _ _ _ _ _ _ _ r h => by simp [spec_hiRun.l0] at h, fun _ _ _ _ _ _ _ _ _ r h => by simp [spec_hiRun.l1] at h⟩
  | k + 1 => by
    obtain ⟨ih0, ih1⟩ := spec_hiRun.mono_l k
    refine ⟨?_, ?_⟩
    · intro y0 y1 y2 y3 y4 y5 y6 y7
      unfold spec_hiRun.l0
      repeat' first
      | (with_reducible exact ih0 _ _ _ _ _ _ _ _)
      | (with_reducible exact ih1 _ _ _ _ _ _ _ _ _)
      | (with_reducible exact LeO.refl _)
      | (with_reducible exact LeO.none _)
      | (with_reducible refine LeO.ite ?_ ?_)
      | (with_reducible refine LeO.bind ?_ (fun _ => ?_))
      | exact ih0 _ _ _ _ _ _ _ _
      | exact ih1 _ _ _ _ _ _ _ _ _
      | exact LeO.none _
      | refine LeO.ite ?_ ?_
      | refine LeO.bind ?_ (fun _ => ?_)
    · intro y0 y1 y2 y3 y4 y5 y6 y7 y8
      unfold spec_hiRun.l1
      repeat' first
      | (with_reducible exact ih0 _ _ _ _ _ _ _ _)
      | (with_reducible exact ih1 _ _ _ _ _ _ _ _ _)
      | (with_reducible exact LeO.refl _)
      | (with_reducible exact LeO.none _)
      | (with_reducible refine LeO.ite ?_ ?_)
      | (with_reducible refine LeO.bind ?_ (fun _ => ?_))
      | exact ih0 _ _ _ _ _ _ _ _
      | exact ih1 _ _ _ _ _ _ _ _ _
      | exact LeO.none _
      | refine LeO.ite ?_ ?_
      | refine LeO.bind ?_ (fun _ => ?_)
theorem spec_hiRun.mono : ∀ a0 a1 a2 a3 a4 a5 k, LeO (spec_hiRun.f k a0 a1 a2 a3 a4 a5) (spec_hiRun.f (k + 1) a0 a1 a2 a3 a4 a5) := by
  intro a0 a1 a2 a3 a4 a5 k
  obtain ⟨ih0, ih1⟩ := spec_hiRun.mono_l k
  unfold spec_hiRun.f
  repeat' first
      | (with_reducible exact ih0 _ _ _ _ _ _ _ _)
      | (with_reducible exact ih1 _ _ _ _ _ _ _ _ _)
      | (with_reducible exact LeO.refl _)
      | (with_reducible exact LeO.none _)
      | (with_reducible refine LeO.ite ?_ ?_)
      | (with_reducible refine LeO.bind ?_ (fun _ => ?_))
      | exact ih0 _ _ _ _ _ _ _ _
      | exact ih1 _ _ _ _ _ _ _ _ _
      | exact LeO.none _
      | refine LeO.ite ?_ ?_
      | refine LeO.bind ?_ (fun _ => ?_)
def spec_StepsOfHits.f (k : Nat) (l0_0 : List (List Int)) (l1 : List Int) (a2 : Int) (a3 : Int) (a4 : Int) (a5 : Int) : Option (Int × Bool) := (spec_hiAsked.f k l0_0 l1 a2 a3 a4 a5).bind fun t176 => (if t176 = true then ((spec_hiRun.f k l0_0 l1 a2 a3 a4 a5).bind fun bt177 => (some (bt177.2.2, true))) else (some (0, false)))
theorem spec_StepsOfHits.mono : ∀ a0 a1 a2 a3 a4 a5 k, LeO (spec_StepsOfHits.f k a0 a1 a2 a3 a4 a5) (spec_StepsOfHits.f (k + 1) a0 a1 a2 a3 a4 a5) := by
  intro a0 a1 a2 a3 a4 a5 k
  unfold spec_StepsOfHits.f
  repeat' first
      | (with_reducible exact spec_hiAsked.mono _ _ _ _ _ _ _)
      | (with_reducible exact spec_hiRun.mono _ _ _ _ _ _ _)
      | (with_reducible exact LeO.refl _)
      | (with_reducible exact LeO.none _)
      | (with_reducible refine LeO.ite ?_ ?_)
      | (with_reducible refine LeO.bind ?_ (fun _ => ?_))
      | exact spec_hiAsked.mono _ _ _ _ _ _ _
      | exact spec_hiRun.mono _ _ _ _ _ _ _
      | exact LeO.none _
      | refine LeO.ite ?_ ?_
      | refine LeO.bind ?_ (fun _ => ?_)
def spec_hiSum.l0 : Nat → Int → List Int → Int → Int → Option (Int)
  | 0, _, _, _, _ => none
  | k + 1, x3, x6, x7, x8 => if x8 < x7 then (if 0 ≤ x8 then (if x8 < (x6.length : Int) then (spec_hiSum.l0 k (wrap64 (x3 + (rd x6 x8))) x6 x7 (wrap64 (x8 + 1))) else (none)) else (none)) else (some x3)
def spec_hiSum.f (k : Nat) (l0 : List Int) : Option (Int) := spec_hiSum.l0 k 0 l0 (l0.length : Int) 0
theorem spec_hiSum.mono_l : ∀ k, (∀ y0 y1 y2 y3, LeO (spec_hiSum.l0 k y0 y1 y2 y3) (spec_hiSum.l0 (k + 1) y0 y1 y2 y3))
  | 0 => fun _ _ _ _ r h => by simp [spec_hiSum.l0] at h
  | k + 1 => by
    have ih0 := spec_hiSum.mono_l k
    · intro y0 y1 y2 y3
      unfold spec_hiSum.l0
      repeat' first
      | (with_reducible exact ih0 _ _ _ _)
      | (with_reducible exact LeO.refl _)
      | (with_reducible exact LeO.none _)
      | (with_reducible refine LeO.ite ?_ ?_)
      | (with_reducible refine LeO.bind ?_ (fun _ => ?_))
      | exact ih0 _ _ _ _
      | exact LeO.none _
      | refine LeO.ite ?_ ?_
      | refine LeO.bind ?_ (fun _ => ?_)
theorem spec_hiSum.mono : ∀ a0 k, LeO (spec_hiSum.f k a0) (spec_hiSum.f (k + 1) a0) := by
  intro a0 k
  have ih0 := spec_hiSum.mono_l k
  unfold spec_hiSum.f
  repeat' first
      | (with_reducible exact ih0 _ _ _ _)
      | (with_reducible exact LeO.refl _)
      | (with_reducible exact LeO.none _)
      | (with_reducible refine LeO.ite ?_ ?_)
      | (with_reducible refine LeO.bind ?_ (fun _ => ?_))
      | exact ih0 _ _ _ _
      | exact LeO.none _
      | refine LeO.ite ?_ ?_
      | refine LeO.bind ?_ (fun _ => ?_)
def spec_HitsOf.f (k : Nat) (l0_0 : List (List Int)) (l1 : List Int) (a2 : Int) (a3 : Int) (a4 : Int) (a5 : Int) : Option (Int × Bool) := (spec_hiAsked.f k l0_0 l1 a2 a3 a4 a5).bind fun t186 => (if t186 = true then ((spec_hiRun.f k l0_0 l1 a2 a3 a4 a5).bind fun bt187 => ((spec_hiSum.f k bt187.1).bind fun t194 => (some (t194, true)))) else (some (0, false)))
theorem spec_HitsOf.mono : ∀ a0 a1 a2 a3 a4 a5 k, LeO (spec_HitsOf.f k a0 a1 a2 a3 a4 a5) (spec_HitsOf.f (k + 1) a0 a1 a2 a3 a4 a5) := by
  intro a0 a1 a2 a3 a4 a5 k
  unfold spec_HitsOf.f
  repeat' first
      | (with_reducible exact spec_hiAsked.mono _ _ _ _ _ _ _)
      | (with_reducible exact spec_hiRun.mono _ _ _ _ _ _ _)
      | (with_reducible exact spec_hiSum.mono _ _)
      | (with_reducible exact LeO.refl _)
      | (with_reducible exact LeO.none _)
      | (with_reducible refine LeO.ite ?_ ?_)
      | (with_reducible refine LeO.bind ?_ (fun _ => ?_))
      | exact spec_hiAsked.mono _ _ _ _ _ _ _
      | exact spec_hiRun.mono _ _ _ _ _ _ _
      | exact spec_hiSum.mono _ _
      | exact LeO.none _
      | refine LeO.ite ?_ ?_
      | refine LeO.bind ?_ (fun _ => ?_)
def spec_HitList.f (k : Nat) (l0_0 : List (List Int)) (l1 : List Int) (a2 : Int) (a3 : Int) (a4 : Int) (a5 : Int) : Option (List Int × Bool) := (spec_hiAsked.f k l0_0 l1 a2 a3 a4 a5).bind fun t196 => (if t196 = true then ((spec_hiRun.f k l0_0 l1 a2 a3 a4 a5).bind fun bt197 => (some (bt197.1, true))) else (some (([] : List Int), false)))
theorem spec_HitList.mono : ∀ a0 a1 a2 a3 a4 a5 k, LeO (spec_HitList.f k a0 a1 a2 a3 a4 a5) (spec_HitList.f (k + 1) a0 a1 a2 a3 a4 a5) := by
  intro a0 a1 a2 a3 a4 a5 k
  unfold spec_HitList.f
  repeat' first
      | (with_reducible exact spec_hiAsked.mono _ _ _ _ _ _ _)
      | (with_reducible exact spec_hiRun.mono _ _ _ _ _ _ _)
      | (with_reducible exact LeO.refl _)
      | (with_reducible exact LeO.none _)
      | (with_reducible refine LeO.ite ?_ ?_)
      | (with_reducible refine LeO.bind ?_ (fun _ => ?_))
      | exact spec_hiAsked.mono _ _ _ _ _ _ _
      | exact spec_hiRun.mono _ _ _ _ _ _ _
      | exact LeO.none _
      | refine LeO.ite ?_ ?_
      | refine LeO.bind ?_ (fun _ => ?_)
def spec_RotorsBehind.f (k : Nat) (l0_0 : List (List Int)) (l1 : List Int) (a2 : Int) (a3 : Int) (a4 : Int) (a5 : Int) : Option (List Int × Bool) := (spec_hiAsked.f k l0_0 l1 a2 a3 a4 a5).bind fun t205 => (if t205 = true then ((spec_hiRun.f k l0_0 l1 a2 a3 a4 a5).bind fun bt206 => (some (bt206.2.1, true))) else (some (([] : List Int), false)))
theorem spec_RotorsBehind.mono : ∀ a0 a1 a2 a3 a4 a5 k, LeO (spec_RotorsBehind.f k a0 a1 a2 a3 a4 a5) (spec_RotorsBehind.f (k + 1) a0 a1 a2 a3 a4 a5) := by
  intro a0 a1 a2 a3 a4 a5 k
  unfold spec_RotorsBehind.f
  repeat' first
      | (with_reducible exact spec_hiAsked.mono _ _ _ _ _ _ _)
      | (with_reducible exact spec_hiRun.mono _ _ _ _ _ _ _)
      | (with_reducible exact LeO.refl _)
      | (with_reducible exact LeO.none _)
      | (with_reducible refine LeO.ite ?_ ?_)
      | (with_reducible refine LeO.bind ?_ (fun _ => ?_))
      | exact spec_hiAsked.mono _ _ _ _ _ _ _
      | exact spec_hiRun.mono _ _ _ _ _ _ _
      | exact LeO.none _
      | refine LeO.ite ?_ ?_
      | refine LeO.bind ?_ (fun _ => ?_)
end Go.Proofs.Ytnbnalbomflafaa.GQ
/-! ## Cd -/
namespace Go.Proofs.Ytnbnalbomflafaa.RA
open Go.RowKit Go.Proofs.YtnbnalbomflafaaW.PrintWords Go.Proofs.YtnbnalbomflafaaW.PrintLast Go.Proofs.YtnbnalbomflafaaW.PrintMore
open Go.Proofs.Ytnbnalbomflafaa.GA
open Go.Proofs.Ytnbnalbomflafaa.GB hiding rd_L1 at_L1
open Go.Proofs.Ytnbnalbomflafaa.GD hiding rd_L1 at_L1
open Go.Proofs.Ytnbnalbomflafaa.GR hiding rd_L1 at_L1
open Go.Proofs.Ytnbnalbomflafaa.GQ hiding rd_L1 at_L1
open Go.Proofs.Ytnbnalbomflafaa.HB hiding rd_L1 at_L1
open Go.Proofs.Ytnbnalbomflafaa.KA
set_option linter.unusedVariables false
set_option linter.unusedSimpArgs false
def hitOf (v a : Int) : Int := if v = a then 1 else 0
inductive Chips (l : List (List Int)) (a b p : Int) : Nat → List Int → List Int → Int → List Int → List Int → Int → Prop
  | none (hits rot : List Int) (st : Int) : Chips l a b p 0 hits rot st hits rot st
  | more (n s : Nat) (hits rot : List Int) (st v1 : Int) (rot1 : List Int) (st1 : Int) (hits2 rot2 : List Int) (st2 : Int) (h : Run l a b s p rot st v1 rot1 st1) (h2 : Chips l a b p n (hits ++ [hitOf v1 a]) rot1 st1 hits2 rot2 st2) : Chips l a b p (n + 1) hits rot st hits2 rot2 st2
theorem chips_ex (l : List (List Int)) (a b p : Int) (h5 : ∀ v : Int, 0 ≤ v → v < l.length → (GA.rd_L1 l v).length ≤ 5) (hrow : ∀ v : Int, 0 ≤ v → v < l.length → ∀ q ∈ GA.rd_L1 l v, 0 ≤ q ∧ q < l.length)
    (hE : ∀ v : Int, 0 ≤ v → v < l.length → Ends l a b v) (hp0 : 0 ≤ p) (hp1 : p < l.length) : ∀ (n : Nat) (hits rot : List Int) (st : Int), Rots l rot → ∃ hits2 rot2 st2, Chips l a b p n hits rot st hits2 rot2 st2 ∧ Rots l rot2
  | 0, hits, rot, st, hR => ⟨hits, rot, st, Chips.none _ _ _, hR⟩
  | n + 1, hits, rot, st, hR => by
    obtain ⟨s, v1, rot1, st1, hrun, hR1⟩ := run_ex l a b h5 hrow hE rot p st hR hp0 hp1
    obtain ⟨hits2, rot2, st2, hc, hR2⟩ := chips_ex l a b p h5 hrow hE hp0 hp1 n (hits ++ [hitOf v1 a]) rot1 st1 hR1
    exact ⟨hits2, rot2, st2, Chips.more n s hits rot st v1 rot1 st1 hits2 rot2 st2 hrun hc, hR2⟩
end Go.Proofs.Ytnbnalbomflafaa.RA
/-! ## Ce -/
namespace Go.Proofs.Ytnbnalbomflafaa.RA
open Go.RowKit Go.Proofs.YtnbnalbomflafaaW.PrintWords Go.Proofs.YtnbnalbomflafaaW.PrintLast Go.Proofs.YtnbnalbomflafaaW.PrintMore
open Go.Proofs.Ytnbnalbomflafaa.GA
open Go.Proofs.Ytnbnalbomflafaa.GB hiding rd_L1 at_L1
open Go.Proofs.Ytnbnalbomflafaa.GD hiding rd_L1 at_L1
open Go.Proofs.Ytnbnalbomflafaa.GR hiding rd_L1 at_L1
open Go.Proofs.Ytnbnalbomflafaa.GQ hiding rd_L1 at_L1
open Go.Proofs.Ytnbnalbomflafaa.HB hiding rd_L1 at_L1
open Go.Proofs.Ytnbnalbomflafaa.KA
set_option linter.unusedVariables false
set_option linter.unusedSimpArgs false
theorem good_both (l : List (List Int)) (a b : Int) : ∃ u, (∀ k, 400 ≤ k → spec_hiGood.f k l a b = some u ∧ impl_canEnd.f k l a b = some u) ∧ (u = true → placeB l a = true ∧ placeB l b = true ∧ a ≠ b ∧ ∀ v : Int, 0 ≤ v → v < l.length → Ends l a b v) := by
  cases h : placeB l a && placeB l b && (a != b) with
  | false =>
    refine ⟨false, fun k hk => ⟨?_, can_none l a b h k (by omega)⟩, fun h => by cases h⟩
    unfold spec_hiGood.f
    rw [goals_eq l a b k (by omega), h]
    rfl
  | true =>
    obtain ⟨u, hu⟩ := can_both l a b h
    refine ⟨u, fun k hk => ⟨?_, (hu k (by omega)).2⟩, fun hut => ?_⟩
    · unfold spec_hiGood.f
      rw [goals_eq l a b k (by omega), h, Option.bind_some, if_pos rfl, (hu k (by omega)).1]
      rfl
    · simp only [Bool.and_eq_true, bne_iff_ne] at h
      obtain ⟨⟨h1, h2⟩, h3⟩ := h
      obtain ⟨hg, _, h8, _, _⟩ := place_is h1
      refine ⟨h1, h2, h3, fun v h0 hv => ?_⟩
      have hc := (hu 300 (Nat.le_refl _)).1
      rw [hut] at hc
      exact can_told l a b (by omega) 300 0 (Int.le_refl _) hc v h0 hv
open Classical in
noncomputable def goodB (l : List (List Int)) (a b : Int) : Bool := (good_both l a b).choose
theorem goodB_is (l : List (List Int)) (a b : Int) : (∀ k, 400 ≤ k → spec_hiGood.f k l a b = some (goodB l a b) ∧ impl_canEnd.f k l a b = some (goodB l a b)) ∧ (goodB l a b = true → placeB l a = true ∧ placeB l b = true ∧ a ≠ b ∧ ∀ v : Int, 0 ≤ v → v < l.length → Ends l a b v) := (good_both l a b).choose_spec
noncomputable def askedB (l : List (List Int)) (x : List Int) (p a b n : Int) : Bool := goodB l a b && walkB l x p && inB n 0 100
theorem okWalk_at : ∀ (l : List (List Int)) (x : List Int), okWalk l x = true → ∀ (i : Nat) (h1 : i < l.length) (h2 : i < x.length), inB x[i] 0 (max ((l[i].length : Int) - 1) 0) = true
  | [], _, _, i, h1, _ => by simp at h1
  | _ :: _, [], _, i, _, h2 => by simp at h2
  | e :: l, r :: s, h, i, h1, h2 => by
    unfold okWalk at h
    rw [Bool.and_eq_true] at h
    cases i with
    | zero => exact h.1
    | succ i => exact okWalk_at l s h.2 i (by simpa using h1) (by simpa using h2)
theorem rots_of {l : List (List Int)} {x : List Int} {p : Int} (h : walkB l x p = true) : Rots l x := by
  obtain ⟨_, hl, hk⟩ := walk_is h
  refine ⟨hl, fun v h0 h1 hd => ?_⟩
  obtain ⟨i, rfl⟩ := Int.eq_ofNat_of_zero_le h0
  have hi : i < l.length := by omega
  have hx : i < x.length := by omega
  have := okWalk_at l x hk i hi hx
  unfold inB at this
  rw [decide_eq_true_eq] at this
  rw [rdL_at l i hi] at hd ⊢
  rw [rd_at x i hx]
  omega
/-- The chips' end, where it is asked. -/
theorem asked_ends {l : List (List Int)} {x : List Int} {p a b n : Int} (h : askedB l x p a b n = true) : a ≠ b ∧ 0 ≤ p ∧ p < l.length ∧ l.length ≤ 8 ∧ Rots l x ∧ 0 ≤ n ∧ n ≤ 100 ∧ ∃ hits2 rot2 st2, Chips l a b p n.toNat [] x 0 hits2 rot2 st2 ∧ Rots l rot2 := by
  unfold askedB at h
  simp only [Bool.and_eq_true] at h
  obtain ⟨⟨h1, h2⟩, h3⟩ := h
  obtain ⟨hpa, hpb, hab, hE⟩ := (goodB_is l a b).2 h1
  obtain ⟨hp, hl, hk⟩ := walk_is h2
  obtain ⟨hg, h11, h8, hp0, hp1⟩ := place_is hp
  unfold inB at h3
  rw [decide_eq_true_eq] at h3
  have hrow : ∀ v : Int, 0 ≤ v → v < l.length → GA.rd_L1 l v ∈ l := fun v h0 h1 => by
    obtain ⟨i, rfl⟩ := Int.eq_ofNat_of_zero_le h0
    rw [rdL_at l i (by omega)]
    exact List.getElem_mem _
  refine ⟨hab, hp0, hp1, h8, rots_of h2, h3.1, h3.2, chips_ex l a b p (fun v h0 h1 => (graph_row hg (hrow v h0 h1)).1) (fun v h0 h1 => (graph_row hg (hrow v h0 h1)).2) hE hp0 hp1 n.toNat [] x 0 (rots_of h2)⟩
open Classical in
noncomputable def chipsA (l : List (List Int)) (x : List Int) (p a b n : Int) : List Int × List Int × Int :=
  if h : askedB l x p a b n = true then ((asked_ends h).2.2.2.2.2.2.2.choose, (asked_ends h).2.2.2.2.2.2.2.choose_spec.choose, (asked_ends h).2.2.2.2.2.2.2.choose_spec.choose_spec.choose) else ([], [], 0)
end Go.Proofs.Ytnbnalbomflafaa.RA
/-! ## Cf -/
namespace Go.Proofs.Ytnbnalbomflafaa.RA
open Go.RowKit Go.Proofs.YtnbnalbomflafaaW.PrintWords Go.Proofs.YtnbnalbomflafaaW.PrintLast Go.Proofs.YtnbnalbomflafaaW.PrintMore
open Go.Proofs.Ytnbnalbomflafaa.GA
open Go.Proofs.Ytnbnalbomflafaa.GR hiding rd_L1 at_L1
open Go.Proofs.Ytnbnalbomflafaa.GQ hiding rd_L1 at_L1
open Go.Proofs.Ytnbnalbomflafaa.KA
set_option linter.unusedVariables false
set_option linter.unusedSimpArgs false
noncomputable def stepsA (l : List (List Int)) (x : List Int) (p a b n : Int) : Int × Bool := if askedB l x p a b n = true then ((chipsA l x p a b n).2.2, true) else (0, false)
noncomputable def hitListA (l : List (List Int)) (x : List Int) (p a b n : Int) : List Int × Bool := if askedB l x p a b n = true then ((chipsA l x p a b n).1, true) else ([], false)
noncomputable def behindA (l : List (List Int)) (x : List Int) (p a b n : Int) : List Int × Bool := if askedB l x p a b n = true then ((chipsA l x p a b n).2.1, true) else ([], false)
end Go.Proofs.Ytnbnalbomflafaa.RA
/-! ## Cg -/
namespace Go.Proofs.Ytnbnalbomflafaa.RA
open Go.RowKit Go.Proofs.YtnbnalbomflafaaW.PrintWords Go.Proofs.YtnbnalbomflafaaW.PrintLast Go.Proofs.YtnbnalbomflafaaW.PrintMore
open Go.Proofs.Ytnbnalbomflafaa.GA
set_option linter.unusedVariables false
set_option linter.unusedSimpArgs false
theorem lastS_ {P : Program} {md : Region.Mode} {ops : Array Oper} {Q : Exit → Act → World → Prop} {S : World → Prop} {ds : List Nat} {i : Nat} {oi : Oper} {fuel : Nat} {l : Array Bool} {a : Act} {w w1 : World} (l' : Array Bool) (hi : ops[i]? = some oi) (hN : oi.dst = none) (hc : readyB md ops l l' i = true) (hd : i ∈ ds)
    (hw : Region.wanted oi (yielded ops a.tmps) = true) (hrun : (execOp a.eval oi).run P w = .ok .skip w1) (h : wpAnyLast P md ops Q S ds fuel l' a w1) : wpAnyLast P md ops Q S ds (fuel + 1) l a w :=
  last_ l' hi hN hc hd fun _ hK => skip_ hw hN hrun (hK.out _ _ h)
theorem cell_heap {w w1 : World} (h : w1.heap = w.heap) (p : Addr) : w1.cell? p = w.cell? p := by
  unfold World.cell?
  rw [h]
theorem add_block (a : Addr) (n : Nat) : (a.add n).block = a.block := by unfold Addr.add; split <;> rfl
end Go.Proofs.Ytnbnalbomflafaa.RA
/-! ## Ch -/
namespace Go.Proofs.Ytnbnalbomflafaa.RA
open Go.RowKit Go.Proofs.YtnbnalbomflafaaW.PrintWords Go.Proofs.YtnbnalbomflafaaW.PrintLast Go.Proofs.YtnbnalbomflafaaW.PrintMore
open Go.Proofs.Ytnbnalbomflafaa.GA
open Go.Proofs.Ytnbnalbomflafaa.GR hiding rd_L1 at_L1
open Go.Proofs.Ytnbnalbomflafaa.HB hiding rd_L1 at_L1
open Go.Proofs.Ytnbnalbomflafaa.KA
set_option linter.unusedVariables false
set_option linter.unusedSimpArgs false
theorem canEnd_c (l : List (List Int)) (a b : Int) (W : World) (v : Value) (hv : RowsC W v l) : Calls Try.prog 81 #[.agg #[v], .int .i64 a, .int .i64 b] W fun e w' => e = .returned (.bool (goodB l a b)) ∧ Below W.heap.size W w' := by
  obtain ⟨A, c, rfl, hc, hC⟩ := hv
  exact impl_canEnd.calls 400 A c l a b _ W hC hc ((goodB_is l a b).1 400 (Nat.le_refl _)).2
theorem oneI_D (w : World) (N : Nat) (x : Int) (hN : N ≤ w.heap.size) : ListD (w.alloc (.cells #[.int .i64 x] 3)) N (.slice (some ⟨w.heap.size, 0, none⟩) 1 1) [x] :=
  ⟨rfl, .inr ⟨w.heap.size, 1, #[.int .i64 x], rfl, hN, blk_new w _, Nat.le_refl _, by unfold maxLen; simp, rfl, rfl⟩⟩
theorem noI_D (w : World) (N : Nat) (hN : N ≤ w.heap.size) : ListD (w.alloc (.cells #[] 3)) N (.slice (some ⟨w.heap.size, 0, none⟩) 0 0) [] :=
  ⟨rfl, .inr ⟨w.heap.size, 0, #[], rfl, hN, blk_new w _, Nat.le_refl _, by unfold maxLen; simp, rfl, rfl⟩⟩
theorem has_c (l : List (List Int)) (p : Int) (W : World) (v u : Value) (hv : RowsC W v l) (hu : ListC W u [p]) : Calls Try.prog 76 #[.agg #[v], u] W fun e w' => e = .returned (.bool (placeB l p)) ∧ Below W.heap.size W w' := by
  obtain ⟨A, c, rfl, hc, hC⟩ := hv
  obtain ⟨A2, c2, rfl, hc2, hC2⟩ := hu
  refine impl_has.calls A c l A2 c2 [p] (placeB l p) W hC hc hC2 hc2 ?_
  unfold impl_has.f hasB placeB
  simp
theorem clone_c (x : List Int) (W : World) (u : Value) (hu : ListC W u x) (hl : x.length ≤ 100) : Calls Try.prog 114 #[u] W fun e w' => ∃ v, e = .returned v ∧ Below W.heap.size W w' ∧ Aside0 (ListD w' W.heap.size v x) := by
  obtain ⟨A2, c2, rfl, hc2, hC2⟩ := hu
  refine (clone_calls A2 c2 x W (by omega) hC2).mono ?_
  rintro e w' ⟨v, rfl, hR, hB⟩
  exact ⟨v, rfl, hB, ⟨Kd.own_of_R hR⟩⟩
theorem listD_form {w : World} {N : Nat} {v : Value} {r : List Int} (h : ListD w N v r) (hp : 0 < r.length) : ∃ G cap, v = .slice (some ⟨G, 0, none⟩) r.length cap := by
  rcases h.2 with ⟨h1, h2⟩ | ⟨g, cap, cur, h1, _⟩
  · omega
  · exact ⟨g, cap, h1⟩
theorem ListD.lower' {w : World} {base base' : Nat} {v : Value} {l : List Int} (h : ListD w base v l) (hb : base' ≤ base) : ListD w base' v l := own_weaken h hb
structure HitAt (w : World) (N B : Nat) (gv vr lv : Value) (at_ : Int) (rot hl : List Int) : Prop where
  bx : w.heap[N]? = some (.cells #[gv] 30 (0, 0))
  blk : w.heap[B]? = some (.cells #[vr, .int .i64 at_] 98 (0, 0))
  hB : N ≤ B
  r : ListD w N vr rot
  l : ListD w N lv hl
  rl : ∀ k, vr.ownBlock = some k → lv.ownBlock ≠ some k
theorem HitAt.heap {w w1 : World} {N B : Nat} {gv vr lv : Value} {at_ : Int} {rot hl : List Int} (h : HitAt w N B gv vr lv at_ rot hl) (e : ∀ b, b < w.heap.size → w1.heap[b]? = w.heap[b]?) : HitAt w1 N B gv vr lv at_ rot hl :=
  ⟨(e N (blk_lt h.bx)).trans h.bx, (e B (blk_lt h.blk)).trans h.blk, h.hB, own_move h.r fun k hk => e k (own_lt h.r k hk), own_move h.l fun k hk => e k (own_lt h.l k hk), h.rl⟩
theorem HitAt.drewN {w : World} {N B : Nat} {gv vr lv : Value} {at_ : Int} {rot hl : List Int} (h : HitAt w N B gv vr lv at_ rot hl) (n : Nat) : HitAt (w.drewN n) N B gv vr lv at_ rot hl := h.heap fun _ _ => by simp
theorem HitAt.alloc {w : World} {N B : Nat} {gv vr lv : Value} {at_ : Int} {rot hl : List Int} (h : HitAt w N B gv vr lv at_ rot hl) (o : Obj) : HitAt (w.alloc o) N B gv vr lv at_ rot hl := h.heap fun b hb => Below.heap_alloc w o b hb
theorem HitAt.form {w : World} {N B : Nat} {gv vr lv : Value} {at_ : Int} {rot hl : List Int} (h : HitAt w N B gv vr lv at_ rot hl) (hp : 0 < rot.length) : ∃ G cap cur, vr = .slice (some ⟨G, 0, none⟩) rot.length cap ∧ N ≤ G ∧ w.heap[G]? = some (.cells cur 3 (0, 0)) ∧ B ≠ G ∧ ∀ i (hi : i < rot.length), cur[i]? = some (.int .i64 rot[i]) := by
  rcases h.r.2 with ⟨h1, h2⟩ | ⟨g, cap, cur, h1, hb, hh, h3, h4, h5, h6⟩
  · omega
  · refine ⟨g, cap, cur, h1, hb, hh, fun c => ?_, fun i hi => ?_⟩
    · rw [← c, h.blk] at hh
      simp at hh
    · have h7 := congrArg (fun x : List Value => x[i]?) h6
      simp only [encI, List.getElem?_map, List.getElem?_eq_getElem hi, Option.map_some] at h7
      rw [Nat.mul_one, List.getElem?_take_of_lt hi, Array.getElem?_toList] at h7
      exact h7
theorem HitAt.app {W w1 : World} {N B : Nat} {gv vr lv v1 : Value} {at_ y : Int} {rot hl : List Int} (h : HitAt W N B gv vr lv at_ rot hl) (hown : w1.ownsRow N 3 1 v1 (hl ++ [y]).length (nums .i64 (hl ++ [y]))) (hg : W.grownBy w1 lv.ownBlock) (hat : v1.ownBlock = lv.ownBlock ∨ ∃ b, v1.ownBlock = some b ∧ W.heap.size ≤ b) : HitAt w1 N B gv vr v1 at_ rot (hl ++ [y]) := by
  refine ⟨(hg.block _ (blk_lt h.bx) (fun c => ?_)).trans h.bx, (hg.block _ (blk_lt h.blk) (fun c => ?_)).trans h.blk, h.hB, own_move h.r (fun k hk => hg.block k (own_lt h.r k hk) (fun c => ?_)), hown, fun k hk c => ?_⟩
  · obtain ⟨cells, hc⟩ := own_typed h.l N (by first | exact c | exact c.symm)
    have e := h.bx
    rw [hc] at e
    simp at e
  · obtain ⟨cells, hc⟩ := own_typed h.l B (by first | exact c | exact c.symm)
    have e := h.blk
    rw [hc] at e
    simp at e
  · exact h.rl k hk (by first | exact c | exact c.symm)
  · rcases hat with q | ⟨b, q1, q2⟩
    · exact h.rl k hk (by rw [← q]; exact c)
    · rw [q1] at c
      have := own_lt h.r k hk
      have c2 : b = k := Option.some.inj c
      omega
end Go.Proofs.Ytnbnalbomflafaa.RA
