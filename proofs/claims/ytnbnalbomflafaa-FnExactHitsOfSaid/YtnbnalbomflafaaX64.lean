/-
  Texts of the seat, merged (part 4).
-/
import Derived.Deep.AppendLies
import Derived.Test.YtnbnalbomflafaaProg
import Derived.Below
import Derived.Deep.Draws
import Derived.Maps.AppendAt
import Derived.OwnWalk
import Derived.Laws.BytesArg
import Derived.Laws.MakeOwn
import Derived.Laws.OwnMore
import Derived.Deep.OwnRows
import Derived.Tactics
import Derived.Lib.ConvBytes
import Derived.Laws.Slices
import Derived.WalkKit
import Derived.KernelRfl
import Derived.RowKit3
import Derived.Deep.LoopGhost
import Derived.Deep.QuietTactic
import Derived.BigQuiet
import Derived.WideLaws
import Derived.Deep.DeepCutAuto
import Derived.Deep.CutBlock
import Derived.Deep.RegionHeld3
import Derived.Laws.Rows
import Derived.Lib.AppendStr
import Derived.ArgAppend
import Derived.Laws.IdiomCopy
import Derived.OrdersHeld
import Derived.Laws.BitsLemmas
import Derived.RowKit
import Derived.Test.YtnbnalbomflafaaWWords
import Derived.Test.YtnbnalbomflafaaWLast
import Derived.Test.YtnbnalbomflafaaWTab
import Derived.Test.YtnbnalbomflafaaWFour
import Derived.Test.YtnbnalbomflafaaWQPut
import Derived.Test.YtnbnalbomflafaaWApart
import Derived.Test.YtnbnalbomflafaaWArr
import Derived.Test.YtnbnalbomflafaaWZeros
import Derived.Test.YtnbnalbomflafaaWFoot
import Derived.Test.YtnbnalbomflafaaWKept
import Derived.Test.YtnbnalbomflafaaWShare
import Derived.Test.YtnbnalbomflafaaWN
import Derived.Test.YtnbnalbomflafaaWFootNe
import Derived.Test.YtnbnalbomflafaaWAt
import Derived.Test.YtnbnalbomflafaaWEqStruct
import Derived.Test.YtnbnalbomflafaaWRepsOne
import Derived.Test.YtnbnalbomflafaaWInv
import Derived.Test.YtnbnalbomflafaaWInvWords
import Derived.Test.YtnbnalbomflafaaWGuard
import Derived.Test.YtnbnalbomflafaaWNEv
import Derived.Test.YtnbnalbomflafaaWMore
import Derived.Deep.Matrix
import Derived.Lib.SmallJoins
import Derived.ProofKit
import Derived.OpenShut
import Derived.ChangeSame
import Derived.Test.YtnbnalbomflafaaX63
/-! ## Ch -/
namespace Go.Proofs.Ytnbnalbomflafaa.RA
open Go.RowKit Go.Proofs.YtnbnalbomflafaaW.PrintWords Go.Proofs.YtnbnalbomflafaaW.PrintLast Go.Proofs.YtnbnalbomflafaaW.PrintMore
open Go.Proofs.Ytnbnalbomflafaa.GA
open Go.Proofs.Ytnbnalbomflafaa.GR hiding rd_L1 at_L1
open Go.Proofs.Ytnbnalbomflafaa.HB hiding rd_L1 at_L1
open Go.Proofs.Ytnbnalbomflafaa.KA
set_option linter.unusedVariables false
set_option linter.unusedSimpArgs false
def HT14 : Bool × List (List Nat × List Nat) := (true, [([], []), ([], []), ([1], [1]), ([], []), ([0, 0], [0]), ([2, 4, 0, 1, 2, 4], [2]), ([3, 5, 0, 1, 2, 3, 4, 5], [3]), ([6, 0, 1, 2, 3, 4, 5, 6], [])])
def HB14 : List Nat := [0, 0, 2, 0, 1, 23, 63, 127]
theorem htab14 : rtab .any (opsOf Try.f84 14) = HT14 := by kernel_rfl
theorem hbits14 : waitsOk HT14.2 HB14 = true := by kernel_rfl
theorem canEnd_c (l : List (List Int)) (a b : Int) (W : World) (v : Value) (hv : RowsC W v l) : Calls Try.prog 81 #[.agg #[v], .int .i64 a, .int .i64 b] W fun e w' => e = .returned (.bool (goodB l a b)) ∧ Below W.heap.size W w' := by
  obtain ⟨A, c, rfl, hc, hC⟩ := hv
  exact impl_canEnd.calls 400 A c l a b _ W hC hc ((goodB_is l a b).1 400 (Nat.le_refl _)).2
theorem oneI_D (w : World) (N : Nat) (x : Int) (hN : N ≤ w.heap.size) : ListD (w.alloc (.cells #[.int .i64 x] 3)) N (.slice (some ⟨w.heap.size, 0, none⟩) 1 1) [x] :=
  ⟨rfl, .inr ⟨w.heap.size, 1, #[.int .i64 x], rfl, hN, blk_new w _, Nat.le_refl _, by unfold maxLen; simp, rfl, rfl⟩⟩
theorem noI_D (w : World) (N : Nat) (hN : N ≤ w.heap.size) : ListD (w.alloc (.cells #[] 3)) N (.slice (some ⟨w.heap.size, 0, none⟩) 0 0) [] :=
  ⟨rfl, .inr ⟨w.heap.size, 0, #[], rfl, hN, blk_new w _, Nat.le_refl _, by unfold maxLen; simp, rfl, rfl⟩⟩
theorem has_c (l : List (List Int)) (p : Int) (W : World) (v u : Value) (hv : RowsC W v l) (hu : ListC W u [p]) : Calls Try.prog 76 #[.agg #[v], u] W fun e w' => e = .returned (.bool (placeB l p)) ∧ Below W.heap.size W w' := by
  obtain ⟨A, c, rfl, hc, hC⟩ := hv
  obtain ⟨A2, c2, rfl, hc2, hC2⟩ := hu
  refine impl_has.calls A c l A2 c2 [p] (placeB l p) W hC hc hC2 hc2 ?_
  unfold impl_has.f hasB placeB
  simp
theorem areRotors_c (l : List (List Int)) (x : List Int) (p : Int) (hp : placeB l p = true) (W : World) (v u : Value) (hv : RowsC W v l) (hu : ListC W u x) : Calls Try.prog 102 #[.agg #[v], u] W fun e w' => e = .returned (.bool (walkB l x p)) ∧ Below W.heap.size W w' := by
  obtain ⟨A, c, rfl, hc, hC⟩ := hv
  obtain ⟨A2, c2, rfl, hc2, hC2⟩ := hu
  exact impl_areRotors.calls 100 A c l A2 c2 x _ W hC hc hC2 hc2 (areRotors_eq l x p hp 100 (Nat.le_refl _))
theorem in_c (x lo hi : Int) (W : World) : Calls Try.prog 77 #[.int .i64 x, .int .i64 lo, .int .i64 hi] W fun e w' => e = .returned (.bool (inB x lo hi)) ∧ Drawn0 W w' := by
  refine (impl_in.calls x lo hi _ W (in_eq x lo hi)).mono ?_
  rintro e w' ⟨rfl, nd, rfl⟩
  exact ⟨rfl, nd, rfl⟩
theorem clone_c (x : List Int) (W : World) (u : Value) (hu : ListC W u x) (hl : x.length ≤ 100) : Calls Try.prog 114 #[u] W fun e w' => ∃ v, e = .returned v ∧ Below W.heap.size W w' ∧ Aside0 (ListD w' W.heap.size v x) := by
  obtain ⟨A2, c2, rfl, hc2, hC2⟩ := hu
  refine (clone_calls A2 c2 x W (by omega) hC2).mono ?_
  rintro e w' ⟨v, rfl, hR, hB⟩
  exact ⟨v, rfl, hB, ⟨Kd.own_of_R hR⟩⟩
theorem listD_form {w : World} {N : Nat} {v : Value} {r : List Int} (h : ListD w N v r) (hp : 0 < r.length) : ∃ G cap, v = .slice (some ⟨G, 0, none⟩) r.length cap := by
  rcases h.2 with ⟨h1, h2⟩ | ⟨g, cap, cur, h1, _⟩
  · omega
  · exact ⟨g, cap, h1⟩
theorem ListD.lower' {w : World} {base base' : Nat} {v : Value} {l : List Int} (h : ListD w base v l) (hb : base' ≤ base) : ListD w base' v l := own_weaken h hb
structure HitAt (w : World) (N B : Nat) (gv vr lv : Value) (at_ : Int) (rot hl : List Int) : Prop where
  bx : w.heap[N]? = some (.cells #[gv] 30 (0, 0))
  blk : w.heap[B]? = some (.cells #[vr, .int .i64 at_] 98 (0, 0))
  hB : N ≤ B
  r : ListD w N vr rot
  l : ListD w N lv hl
  rl : ∀ k, vr.ownBlock = some k → lv.ownBlock ≠ some k
theorem HitAt.heap {w w1 : World} {N B : Nat} {gv vr lv : Value} {at_ : Int} {rot hl : List Int} (h : HitAt w N B gv vr lv at_ rot hl) (e : ∀ b, b < w.heap.size → w1.heap[b]? = w.heap[b]?) : HitAt w1 N B gv vr lv at_ rot hl :=
  ⟨(e N (blk_lt h.bx)).trans h.bx, (e B (blk_lt h.blk)).trans h.blk, h.hB, own_move h.r fun k hk => e k (own_lt h.r k hk), own_move h.l fun k hk => e k (own_lt h.l k hk), h.rl⟩
theorem HitAt.drewN {w : World} {N B : Nat} {gv vr lv : Value} {at_ : Int} {rot hl : List Int} (h : HitAt w N B gv vr lv at_ rot hl) (n : Nat) : HitAt (w.drewN n) N B gv vr lv at_ rot hl := h.heap fun _ _ => by simp
theorem HitAt.alloc {w : World} {N B : Nat} {gv vr lv : Value} {at_ : Int} {rot hl : List Int} (h : HitAt w N B gv vr lv at_ rot hl) (o : Obj) : HitAt (w.alloc o) N B gv vr lv at_ rot hl := h.heap fun b hb => Below.heap_alloc w o b hb
theorem HitAt.setAt {w : World} {N B : Nat} {gv vr lv : Value} {at_ : Int} {rot hl : List Int} (h : HitAt w N B gv vr lv at_ rot hl) (x : Int) : HitAt (w.setCell ⟨B, 1, none⟩ (.int .i64 x)) N B gv vr lv x rot hl :=
  ⟨blk_far h.bx (p := ⟨B, 1, none⟩) (fun c => by have e := h.bx; have e2 := h.blk; rw [c] at e; rw [e] at e2; simp at e2) _, blk_set h.blk 1 _, h.hB, own_setCell h.r (fun c => by obtain ⟨cells, hc⟩ := own_typed h.r B c.symm; rw [h.blk] at hc; simp at hc) _, own_setCell h.l (fun c => by obtain ⟨cells, hc⟩ := own_typed h.l B c.symm; rw [h.blk] at hc; simp at hc) _, h.rl⟩
theorem HitAt.setRot {w : World} {N B G cap n : Nat} {gv lv : Value} {at_ : Int} {rot hl : List Int} (h : HitAt w N B gv (.slice (some ⟨G, 0, none⟩) n cap) lv at_ rot hl) (hn : n = rot.length) (i : Nat) (x : Int) : HitAt (w.setCell ⟨G, i, none⟩ (.int .i64 x)) N B gv (.slice (some ⟨G, 0, none⟩) n cap) lv at_ (rot.set i x) hl := by
  subst hn
  have hGB : B ≠ G := fun c => by
    obtain ⟨cells, hc⟩ := own_typed h.r G rfl
    rw [← c, h.blk] at hc
    simp at hc
  refine ⟨blk_far h.bx (p := ⟨G, i, none⟩) (fun c => by have c1 : N = G := c; obtain ⟨cells, hc⟩ := own_typed h.r G rfl; have e := h.bx; rw [c1, hc] at e; simp at e) _, blk_far h.blk (p := ⟨G, i, none⟩) hGB _, h.hB, ?_, own_setCell h.l (fun c => h.rl G rfl c.symm) _, h.rl⟩
  have := (own_store h.r (i : Int) x).1
  rw [Int.toNat_natCast] at this
  show World.ownsRow _ N 3 1 _ (rot.set i x).length _
  rw [List.length_set]
  exact this
theorem HitAt.form {w : World} {N B : Nat} {gv vr lv : Value} {at_ : Int} {rot hl : List Int} (h : HitAt w N B gv vr lv at_ rot hl) (hp : 0 < rot.length) : ∃ G cap cur, vr = .slice (some ⟨G, 0, none⟩) rot.length cap ∧ N ≤ G ∧ w.heap[G]? = some (.cells cur 3 (0, 0)) ∧ B ≠ G ∧ ∀ i (hi : i < rot.length), cur[i]? = some (.int .i64 rot[i]) := by
  rcases h.r.2 with ⟨h1, h2⟩ | ⟨g, cap, cur, h1, hb, hh, h3, h4, h5, h6⟩
  · omega
  · refine ⟨g, cap, cur, h1, hb, hh, fun c => ?_, fun i hi => ?_⟩
    · rw [← c, h.blk] at hh
      simp at hh
    · have h7 := congrArg (fun x : List Value => x[i]?) h6
      simp only [encI, List.getElem?_map, List.getElem?_eq_getElem hi, Option.map_some] at h7
      rw [Nat.mul_one, List.getElem?_take_of_lt hi, Array.getElem?_toList] at h7
      exact h7
theorem HitAt.app {W w1 : World} {N B : Nat} {gv vr lv v1 : Value} {at_ y : Int} {rot hl : List Int} (h : HitAt W N B gv vr lv at_ rot hl) (hown : w1.ownsRow N 3 1 v1 (hl ++ [y]).length (nums .i64 (hl ++ [y]))) (hg : W.grownBy w1 lv.ownBlock) (hat : v1.ownBlock = lv.ownBlock ∨ ∃ b, v1.ownBlock = some b ∧ W.heap.size ≤ b) : HitAt w1 N B gv vr v1 at_ rot (hl ++ [y]) := by
  refine ⟨(hg.block _ (blk_lt h.bx) (fun c => ?_)).trans h.bx, (hg.block _ (blk_lt h.blk) (fun c => ?_)).trans h.blk, h.hB, own_move h.r (fun k hk => hg.block k (own_lt h.r k hk) (fun c => ?_)), hown, fun k hk c => ?_⟩
  · obtain ⟨cells, hc⟩ := own_typed h.l N (by first | exact c | exact c.symm)
    have e := h.bx
    rw [hc] at e
    simp at e
  · obtain ⟨cells, hc⟩ := own_typed h.l B (by first | exact c | exact c.symm)
    have e := h.blk
    rw [hc] at e
    simp at e
  · exact h.rl k hk (by first | exact c | exact c.symm)
  · rcases hat with q | ⟨b, q1, q2⟩
    · exact h.rl k hk (by rw [← q]; exact c)
    · rw [q1] at c
      have := own_lt h.r k hk
      have c2 : b = k := Option.some.inj c
      omega
theorem HitAt.start {w5 : World} {N G n cap : Nat} {x : List Int} {gv : Value} (hbx : w5.heap[N]? = some (.cells #[gv] 30 (0, 0))) (hR : ListD w5 N (.slice (some ⟨G, 0, none⟩) n cap) x) (hN : N ≤ w5.heap.size) (p : Int) : HitAt ((w5.alloc (.cells #[] 3)).alloc (.cells #[.slice (some ⟨G, 0, none⟩) n cap, .int .i64 p] 98)) N (w5.heap.size + 1) gv (.slice (some ⟨G, 0, none⟩) n cap) (.slice (some ⟨w5.heap.size, 0, none⟩) 0 0) p x [] := by
  have h1 := noI_D w5 N hN
  refine ⟨(blk_alloc (blk_alloc hbx _) _), ?_, by omega, own_move hR (fun k hk => ?_), own_move h1 (fun k hk => Below.heap_alloc _ _ k (own_lt h1 k hk)), fun k hk c => ?_⟩
  · have := blk_new (w5.alloc (.cells #[] 3)) (.cells #[.slice (some ⟨G, 0, none⟩) n cap, .int .i64 p] 98)
    simpa using this
  · have hlt := own_lt hR k hk
    exact (Below.heap_alloc _ _ k (by simp; omega)).trans (Below.heap_alloc _ _ k hlt)
  · have hlt := own_lt hR k hk
    have : w5.heap.size = k := by simpa [Value.ownBlock] using c
    omega
def HitsOut (w : World) (l : List (List Int)) (x : List Int) (p a b n : Int) (e : Ending) (w' : World) : Prop :=
  ∃ v1 v2, e = .returned (.tuple #[v1, v2, .int .i64 (stepsA l x p a b n).1, .bool (askedB l x p a b n)]) ∧ Below w.heap.size w w' ∧ Aside0 (ListD w' w.heap.size v1 (hitListA l x p a b n).1) ∧ Aside0 (ListD w' w.heap.size v2 (behindA l x p a b n).1)
theorem no_ans {l : List (List Int)} {x : List Int} {p a b n : Int} (h : askedB l x p a b n = false) (w w' : World) (hB : Below w.heap.size w w') : HitsOut w l x p a b n (.returned (.tuple #[.slice none 0 0, .slice none 0 0, .int .i64 0, .bool false])) w' := by
  refine ⟨.slice none 0 0, .slice none 0 0, ?_, hB, ?_, ?_⟩
  · unfold stepsA; rw [h]; rfl
  · unfold hitListA; rw [h]; exact ⟨own_nil _ _ _ _⟩
  · unfold behindA; rw [h]; exact ⟨own_nil _ _ _ _⟩
set_option maxHeartbeats 4000000 in
set_option maxRecDepth 100000 in
theorem hits_c (l : List (List Int)) (x : List Int) (p a b n : Int) (w : World) (v u : Value) (hv : RowsC w v l) (hu : ListC w u x) :
    Calls Try.prog 84 #[.agg #[v], u, .int .i64 p, .int .i64 a, .int .i64 b, .int .i64 n] w (HitsOut w l x p a b n) := by
  have HV := Aside0.mk hv
  have HU := Aside0.mk hu
  obtain ⟨A, c, rfl, hc_, hC_⟩ := hv
  clear hc_ hC_ hu
  cases h1 : goodB l a b with
  | false =>
    have hno : askedB l x p a b n = false := by unfold askedB; rw [h1]; rfl
    have H1 := Aside0.mk h1
    clear h1
    go_enter Try.func84, Try.ntmps84
    go_wp2_with (go_at_call 81; refine (canEnd_c l a b _ _ (HV.out.below ((Below.refl _ _).alloc (Nat.le_refl _) _))).mono ?_; rw [H1.out]; rintro e w1 ⟨rfl, hB⟩)
    refine bodyPost_ret (v := .tuple #[.slice none 0 0, .slice none 0 0, .int .i64 0, .bool false]) (by simp [results, Try.results84, go_sem]) rfl ?_
    exact no_ans hno _ _ (((Below.refl _ _).alloc (Nat.le_refl _) _).trans (hB.mono (by simp)))
  | true =>
    have H1 := Aside0.mk h1
    cases h2 : placeB l p with
    | false =>
      have hno : askedB l x p a b n = false := by unfold askedB walkB; rw [h2]; simp
      have H2 := Aside0.mk h2
      clear h1 h2
      go_enter Try.func84, Try.ntmps84
      go_wp2_with (first | (go_at_call 81; refine (canEnd_c l a b _ _ (HV.out.below ((Below.refl _ _).alloc (Nat.le_refl _) _))).mono ?_; rw [H1.out]; rintro e w1 ⟨rfl, hB⟩; have hbx : w1.cell? ⟨w.heap.size, 0, none⟩ = some (.slice A l.length c) := (hB.cell (p := ⟨w.heap.size, 0, none⟩) (by simp)).trans ((blk_cell (blk_new _ _) 0).trans rfl); have HB := Aside0.mk (((Below.refl w.heap.size w).alloc (Nat.le_refl _) _).trans (hB.mono (by simp))); clear hB) | (go_at_call 76; refine (has_c l p _ _ _ (HV.out.below ((HB.out.alloc HB.out.size _))) (oneI_D _ w.heap.size p HB.out.size).reads).mono ?_; rw [H2.out]; rintro e w2 ⟨rfl, hB⟩))
      refine bodyPost_ret (v := .tuple #[.slice none 0 0, .slice none 0 0, .int .i64 0, .bool false]) (by simp [results, Try.results84, go_sem]) rfl ?_
      exact no_ans hno _ _ (HB.out.trans (((Below.refl _ _).alloc HB.out.size _).trans (hB.mono (by have := HB.out.size; simp; omega))))
    | true =>
      cases h3 : walkB l x p with
      | false =>
        have hno : askedB l x p a b n = false := by unfold askedB; rw [h3]; simp
        have H2 := Aside0.mk h2
        have H3 := Aside0.mk h3
        clear h1 h2 h3
        go_enter Try.func84, Try.ntmps84
        go_wp2_with (first | (go_at_call 81; refine (canEnd_c l a b _ _ (HV.out.below ((Below.refl _ _).alloc (Nat.le_refl _) _))).mono ?_; rw [H1.out]; rintro e w1 ⟨rfl, hB⟩; have hbx : w1.cell? ⟨w.heap.size, 0, none⟩ = some (.slice A l.length c) := (hB.cell (p := ⟨w.heap.size, 0, none⟩) (by simp)).trans ((blk_cell (blk_new _ _) 0).trans rfl); have HB := Aside0.mk (((Below.refl w.heap.size w).alloc (Nat.le_refl _) _).trans (hB.mono (by simp))); have hsz : w.heap.size < w1.heap.size := (by have := hB.size; simp at this; omega); have HX1 : Aside0 (w1.heap[w.heap.size]? = some (.cells #[.slice A l.length c] 30 (0, 0))) := ⟨(hB.block _ (by simp)).trans (blk_new _ _)⟩; clear hB) | (go_at_call 76; refine (has_c l p _ _ _ (HV.out.below ((HB.out.alloc HB.out.size _))) (oneI_D _ w.heap.size p HB.out.size).reads).mono ?_; rw [H2.out]; rintro e w2 ⟨rfl, hB⟩; have hbx2 : w2.cell? ⟨w.heap.size, 0, none⟩ = some (.slice A l.length c) := (hB.cell (p := ⟨w.heap.size, 0, none⟩) (by simp; omega)).trans ((World.cell?_alloc_lt _ _ _ hsz).trans hbx); have HB2 := Aside0.mk ((HB.out.alloc HB.out.size _).trans (hB.mono (by have := HB.out.size; simp; omega))); have hsz2 : w.heap.size < w2.heap.size := (by have := hB.size; simp at this; omega); have HX2 : Aside0 (w2.heap[w.heap.size]? = some (.cells #[.slice A l.length c] 30 (0, 0))) := ⟨(hB.block _ (by simp; omega)).trans (blk_alloc HX1.out _)⟩; clear hB hbx) | (go_at_call 102; refine (areRotors_c l x p H2.out _ _ _ (HV.out.below HB2.out) (HU.out.below HB2.out)).mono ?_; rw [H3.out]; rintro e w3 ⟨rfl, hB⟩))
        refine bodyPost_ret (v := .tuple #[.slice none 0 0, .slice none 0 0, .int .i64 0, .bool false]) (by simp [results, Try.results84, go_sem]) rfl ?_
        exact no_ans hno _ _ (HB2.out.trans (hB.mono HB2.out.size))
      | true =>
        cases h4 : inB n 0 100 with
        | false =>
          have hno : askedB l x p a b n = false := by unfold askedB; rw [h4]; simp
          have H2 := Aside0.mk h2
          have H3 := Aside0.mk h3
          have H4 := Aside0.mk h4
          clear h1 h2 h3 h4
          go_enter Try.func84, Try.ntmps84
          go_wp2_with (first | (go_at_call 81; refine (canEnd_c l a b _ _ (HV.out.below ((Below.refl _ _).alloc (Nat.le_refl _) _))).mono ?_; rw [H1.out]; rintro e w1 ⟨rfl, hB⟩; have hbx : w1.cell? ⟨w.heap.size, 0, none⟩ = some (.slice A l.length c) := (hB.cell (p := ⟨w.heap.size, 0, none⟩) (by simp)).trans ((blk_cell (blk_new _ _) 0).trans rfl); have HB := Aside0.mk (((Below.refl w.heap.size w).alloc (Nat.le_refl _) _).trans (hB.mono (by simp))); have hsz : w.heap.size < w1.heap.size := (by have := hB.size; simp at this; omega); have HX1 : Aside0 (w1.heap[w.heap.size]? = some (.cells #[.slice A l.length c] 30 (0, 0))) := ⟨(hB.block _ (by simp)).trans (blk_new _ _)⟩; clear hB) | (go_at_call 76; refine (has_c l p _ _ _ (HV.out.below ((HB.out.alloc HB.out.size _))) (oneI_D _ w.heap.size p HB.out.size).reads).mono ?_; rw [H2.out]; rintro e w2 ⟨rfl, hB⟩; have hbx2 : w2.cell? ⟨w.heap.size, 0, none⟩ = some (.slice A l.length c) := (hB.cell (p := ⟨w.heap.size, 0, none⟩) (by simp; omega)).trans ((World.cell?_alloc_lt _ _ _ hsz).trans hbx); have HB2 := Aside0.mk ((HB.out.alloc HB.out.size _).trans (hB.mono (by have := HB.out.size; simp; omega))); have hsz2 : w.heap.size < w2.heap.size := (by have := hB.size; simp at this; omega); have HX2 : Aside0 (w2.heap[w.heap.size]? = some (.cells #[.slice A l.length c] 30 (0, 0))) := ⟨(hB.block _ (by simp; omega)).trans (blk_alloc HX1.out _)⟩; clear hB hbx) | (go_at_call 102; refine (areRotors_c l x p H2.out _ _ _ (HV.out.below HB2.out) (HU.out.below HB2.out)).mono ?_; rw [H3.out]; rintro e w3 ⟨rfl, hB⟩; have hbx3 : w3.cell? ⟨w.heap.size, 0, none⟩ = some (.slice A l.length c) := (hB.cell (p := ⟨w.heap.size, 0, none⟩) hsz2).trans hbx2; have HB3 := Aside0.mk (HB2.out.trans (hB.mono HB2.out.size)); have hsz3 : w.heap.size < w3.heap.size := (by have := hB.size; omega); have HX3 : Aside0 (w3.heap[w.heap.size]? = some (.cells #[.slice A l.length c] 30 (0, 0))) := ⟨(hB.block _ hsz2).trans HX2.out⟩; clear hB hbx2) | (go_at_call 77; refine (in_c n 0 100 _).mono ?_; rw [H4.out]; rintro e w' ⟨rfl, nd, rfl⟩))
          refine bodyPost_ret (v := .tuple #[.slice none 0 0, .slice none 0 0, .int .i64 0, .bool false]) (by simp [results, Try.results84, go_sem]) rfl ?_
          exact no_ans hno _ _ (pw_below_drewN HB3.out nd)
        | true =>
          have hA : askedB l x p a b n = true := by unfold askedB; rw [h1, h3, h4]; rfl
          have H2 := Aside0.mk h2
          have H3 := Aside0.mk h3
          have H4 := Aside0.mk h4
          have hx8 : x.length = l.length ∧ l.length ≤ 8 := ⟨(walk_is h3).2.1, (place_is h2).2.2.1⟩
          have hx1 : 0 < x.length := by have := (place_is h2).2.1; omega
          clear h1 h2 h3 h4
          go_enter Try.func84, Try.ntmps84
          go_upto_region 4 with (first | (go_at_call 81; refine (canEnd_c l a b _ _ (HV.out.below ((Below.refl _ _).alloc (Nat.le_refl _) _))).mono ?_; rw [H1.out]; rintro e w1 ⟨rfl, hB⟩; have hbx : w1.cell? ⟨w.heap.size, 0, none⟩ = some (.slice A l.length c) := (hB.cell (p := ⟨w.heap.size, 0, none⟩) (by simp)).trans ((blk_cell (blk_new _ _) 0).trans rfl); have HB := Aside0.mk (((Below.refl w.heap.size w).alloc (Nat.le_refl _) _).trans (hB.mono (by simp))); have hsz : w.heap.size < w1.heap.size := (by have := hB.size; simp at this; omega); have HX1 : Aside0 (w1.heap[w.heap.size]? = some (.cells #[.slice A l.length c] 30 (0, 0))) := ⟨(hB.block _ (by simp)).trans (blk_new _ _)⟩; clear hB) | (go_at_call 76; refine (has_c l p _ _ _ (HV.out.below ((HB.out.alloc HB.out.size _))) (oneI_D _ w.heap.size p HB.out.size).reads).mono ?_; rw [H2.out]; rintro e w2 ⟨rfl, hB⟩; have hbx2 : w2.cell? ⟨w.heap.size, 0, none⟩ = some (.slice A l.length c) := (hB.cell (p := ⟨w.heap.size, 0, none⟩) (by simp; omega)).trans ((World.cell?_alloc_lt _ _ _ hsz).trans hbx); have HB2 := Aside0.mk ((HB.out.alloc HB.out.size _).trans (hB.mono (by have := HB.out.size; simp; omega))); have hsz2 : w.heap.size < w2.heap.size := (by have := hB.size; simp at this; omega); have HX2 : Aside0 (w2.heap[w.heap.size]? = some (.cells #[.slice A l.length c] 30 (0, 0))) := ⟨(hB.block _ (by simp; omega)).trans (blk_alloc HX1.out _)⟩; clear hB hbx) | (go_at_call 102; refine (areRotors_c l x p H2.out _ _ _ (HV.out.below HB2.out) (HU.out.below HB2.out)).mono ?_; rw [H3.out]; rintro e w3 ⟨rfl, hB⟩; have hbx3 : w3.cell? ⟨w.heap.size, 0, none⟩ = some (.slice A l.length c) := (hB.cell (p := ⟨w.heap.size, 0, none⟩) hsz2).trans hbx2; have HB3 := Aside0.mk (HB2.out.trans (hB.mono HB2.out.size)); have hsz3 : w.heap.size < w3.heap.size := (by have := hB.size; omega); have HX3 : Aside0 (w3.heap[w.heap.size]? = some (.cells #[.slice A l.length c] 30 (0, 0))) := ⟨(hB.block _ hsz2).trans HX2.out⟩; clear hB hbx2) | (go_at_call 77; refine (in_c n 0 100 _).mono ?_; rw [H4.out]; rintro e w' ⟨rfl, nd, rfl⟩) | (go_at_call 114; refine (clone_c x _ u (HU.out.below (pw_below_drewN HB3.out nd)) (by omega)).mono ?_; rintro e w5 ⟨vr, rfl, hB, hR⟩; obtain ⟨G, cap, hvr⟩ := listD_form hR.out hx1; subst hvr))
          have HH := Aside0.mk (HitAt.start ((hB.block _ (by simpa using hsz3)).trans HX3.out) (hR.out.lower' (by have := HB3.out.size; simpa using this)) (by have := HB3.out.size; have := hB.size; simp at this; omega) p)
          have hsz5 := hB.size
          simp at hsz5
          have HB5 : Aside0 (Below w.heap.size w ((w5.alloc (.cells #[] 3)).alloc (.cells #[.slice (some ⟨G, 0, none⟩) x.length cap, .int .i64 p] 98))) := ⟨(((pw_below_drewN HB3.out nd).trans (hB.mono (by simpa using HB3.out.size))).alloc (by omega) _).alloc (by simp; omega) _⟩
          have hBn : w.heap.size < w5.heap.size + 1 := by omega
          clear hbx3 HB3 HB2 HB hR hB HX1 HX2 HX3
          rw [hx8.1] at HH HB5
          generalize (w5.alloc (.cells #[] 3)).alloc (.cells #[.slice (some ⟨G, 0, none⟩) l.length cap, .int .i64 p] 98) = W6 at *
          generalize w5.heap.size + 1 = B at *
          go_wp2_with (fail)
          obtain ⟨hC, hRR⟩ := chipsA_is hA
          obtain ⟨_, hp0, hp1, _, _, hn0, hn1, _⟩ := asked_ends hA
          have hout : ∀ w' v1 v2, Below w.heap.size w w' → ListD w' w.heap.size v1 (chipsA l x p a b n).1 → ListD w' w.heap.size v2 (chipsA l x p a b n).2.1 → HitsOut w l x p a b n (.returned (.tuple #[v1, v2, .int .i64 (chipsA l x p a b n).2.2, .bool true])) w' := fun w' v1 v2 q1 q2 q3 => by
            refine ⟨v1, v2, ?_, q1, ?_, ?_⟩
            · unfold stepsA; rw [hA]; rfl
            · unfold hitListA; rw [hA]; exact ⟨q2⟩
            · unfold behindA; rw [hA]; exact ⟨q3⟩
          have hlx : x.length = l.length := hx8.1
          generalize chipsA l x p a b n = Z at *
          obtain ⟨H2z, R2z, S2z⟩ := Z
          have HC := Aside0.mk hC
          have HO := Aside0.mk hout
          clear hC hRR hout hA
          go_loopg [17, 18, 48] n.toNat (fun kq v17 v18 v48 wr => ∃ (i : Nat) (at_ : Int) (rot hl : List Int) (st : Int) (L7 : Option Addr) (c7 : Nat), v48 = .int .i64 (i : Int) ∧ v18 = .int .i64 st ∧ v17 = .slice L7 hl.length c7 ∧ Aside0 ((i : Int) + kq = n ∧ hl.length = i) ∧ Aside0 (Chips l a b p kq hl rot st H2z R2z S2z) ∧ Aside0 (rot.length = l.length) ∧ Aside0 (HitAt wr w.heap.size B (.slice A l.length c) (.slice (some ⟨G, 0, none⟩) l.length cap) (.slice L7 hl.length c7) at_ rot hl) ∧ Aside0 (Below w.heap.size w wr))
          case atStart => exact ⟨0, p, x, [], 0, _, _, rfl, rfl, rfl, ⟨by omega, rfl⟩, HC, ⟨hlx⟩, HH, HB5⟩
          case round =>
            clear HC HH HB5
            obtain ⟨i, at_, rot, hl, st, L7, c7, rfl, rfl, rfl, HI, HC, HL, HH, HB⟩ := hrel
            cases gk with
            | zero =>
              have hi : ¬ ((i : Int) < n) := by have := HI.out.1; omega
              have hc := HC.out
              cases hc
              have hcB : wr.drew.cell? ⟨B, 0, none⟩ = some (.slice (some ⟨G, 0, none⟩) l.length cap) := (blk_cell HH.out.blk 0).trans rfl
              have HB7 := Aside0.mk (pw_below_drewN HB.out 1)
              have HH7 := Aside0.mk (HH.out.drewN 1)
              replace HB7 : Aside0 (Below w.heap.size w wr.drew) := HB7
              replace HH7 : Aside0 (HitAt wr.drew w.heap.size B (.slice A l.length c) (.slice (some ⟨G, 0, none⟩) l.length cap) (.slice L7 H2z.length c7) at_ R2z H2z) := HH7
              clear HH HB
              go_upto_region 14 with (fail)
              refine start_ (n := 8) (S := fun w' => w'.cell? ⟨B, 0, none⟩ = some (.slice (some ⟨G, 0, none⟩) l.length cap)) (ds := []) #[false, false, false, false, false, false, false, false] (by kernel_rfl) rfl rfl hcB (fun hHeld => ?_)
              refine with_tabW htab14 hbits14 (fun HT_ HW_ => ?_)
              generalize wr.drew = W9 at *
              refine pure_ (i := 0) (N := some 77) (v := ?_) (a' := ?_) #[true, false, false, false, false, false, false, false] rfl rfl (any_of HT_.out (by kernel_rfl)) (fun _ _ _ h => h) (Or.inl ⟨by rfl, ?_⟩) ?_ ?_
              rotate_left
              · intro w'
                go_simp
                with_reducible rfl
              rotate_left
              · simp only [Act.put, List.setIfInBounds_toArray, List.set_cons_zero, List.set_cons_succ, i64_w, i32_w]
                rfl
              refine pure_ (i := 1) (N := some 78) (v := ?_) (a' := ?_) #[true, true, false, false, false, false, false, false] rfl rfl (any_of HT_.out (by kernel_rfl)) (fun _ _ _ h => h) (Or.inl ⟨by rfl, ?_⟩) ?_ ?_
              rotate_left
              · intro w'
                go_simp
                with_reducible rfl
              rotate_left
              · simp only [Act.put, List.setIfInBounds_toArray, List.set_cons_zero, List.set_cons_succ, i64_w, i32_w]
                rfl
              refine take_ (i := 2) (N := some 79) (v := ?_) (a' := ?_) #[true, true, true, false, false, false, false, false] rfl rfl (take_ofW HT_.out HW_.out (by kernel_rfl)) (fun _ _ _ h => h) (Or.inl ⟨by rfl, ?_⟩) hHeld ?_ ?_
              rotate_left
              · intro w' s0
                go_simp
                with_reducible rfl
              rotate_left
              · simp only [Act.put, List.setIfInBounds_toArray, List.set_cons_zero, List.set_cons_succ, i64_w, i32_w]
                rfl
              refine pure_ (i := 3) (N := some 80) (v := ?_) (a' := ?_) #[true, true, true, true, false, false, false, false] rfl rfl (any_of HT_.out (by kernel_rfl)) (fun _ _ _ h => h) (Or.inl ⟨by rfl, ?_⟩) ?_ ?_
              rotate_left
              · intro w'
                go_simp
                with_reducible rfl
              rotate_left
              · simp only [Act.put, List.setIfInBounds_toArray, List.set_cons_zero, List.set_cons_succ, i64_w, i32_w]
                rfl
              refine pure_ (i := 4) (N := some 12) (v := ?_) (a' := ?_) #[true, true, true, true, true, false, false, false] rfl rfl (any_of HT_.out (by kernel_rfl)) (fun _ _ _ h => h) (Or.inl ⟨by rfl, ?_⟩) ?_ ?_
              rotate_left
              · intro w'
                go_simp
                with_reducible rfl
              rotate_left
              · simp only [Act.put, List.setIfInBounds_toArray, List.set_cons_zero, List.set_cons_succ, i64_w, i32_w]
                rfl
              refine pure_ (i := 5) (N := some 13) (v := ?_) (a' := ?_) #[true, true, true, true, true, true, false, false] rfl rfl (any_of HT_.out (by kernel_rfl)) (fun _ _ _ h => h) (Or.inl ⟨by rfl, ?_⟩) ?_ ?_
              rotate_left
              · intro w'
                go_simp
                with_reducible rfl
              rotate_left
              · simp only [Act.put, List.setIfInBounds_toArray, List.set_cons_zero, List.set_cons_succ, i64_w, i32_w]
                rfl
              refine pure_ (i := 6) (N := some 14) (v := ?_) (a' := ?_) #[true, true, true, true, true, true, true, false] rfl rfl (any_of HT_.out (by kernel_rfl)) (fun _ _ _ h => h) (Or.inl ⟨by rfl, ?_⟩) ?_ ?_
              rotate_left
              · intro w'
                go_simp
                with_reducible rfl
              rotate_left
              · simp only [Act.put, List.setIfInBounds_toArray, List.set_cons_zero, List.set_cons_succ, i64_w, i32_w]
                rfl
              refine pure_ (i := 7) (N := some 15) (v := ?_) (a' := ?_) #[true, true, true, true, true, true, true, true] rfl rfl (any_of HT_.out (by kernel_rfl)) (fun _ _ _ h => h) (Or.inl ⟨by rfl, ?_⟩) ?_ ?_
              rotate_left
              · intro w'
                go_simp
                with_reducible rfl
              rotate_left
              · simp only [Act.put, List.setIfInBounds_toArray, List.set_cons_zero, List.set_cons_succ, i64_w, i32_w]
                rfl
              refine done_ (done_of HT_.out (by kernel_rfl)) ?_
              clear HT_ HW_ hHeld
              go_wp2_with (fail)
              refine bodyPost_ret (v := .tuple #[.slice L7 H2z.length c7, .slice (some ⟨G, 0, none⟩) l.length cap, .int .i64 S2z, .bool true]) (by simp [results, Try.results84, go_sem]) rfl ?_
              exact HO.out _ _ _ HB7.out HH7.out.l HH7.out.r
            | succ m =>
              have hi : (i : Int) < n := by have := HI.out.1; omega
              have hc := HC.out
              obtain ⟨s, v1, rot1, st1, hrun, hrest⟩ : ∃ s v1 rot1 st1, Run l a b s p rot st v1 rot1 st1 ∧ Chips l a b p m (hl ++ [hitOf v1 a]) rot1 st1 H2z R2z S2z := by
                cases hc with
                | more _ s _ _ _ v1 rot1 st1 _ _ _ h h2 => exact ⟨s, v1, rot1, st1, h, h2⟩
              have HR := Aside0.mk hrun
              have HC2 := Aside0.mk hrest
              clear hc hrun hrest HC
              have k1 := (blk_cell HH.out.blk 1).trans rfl
              have y1 := blk_frozen HH.out.blk 1
              go_upto_region 7 with (fail)
              have H7 := Aside0.mk (HH.out.setAt p)
              have B7 : Aside0 (Below w.heap.size w (wr.setCell ⟨B, 1, none⟩ (.int .i64 p))) := ⟨HB.out.setCell HH.out.hB _⟩
              clear HH HB k1 y1
              generalize wr.setCell ⟨B, 1, none⟩ (.int .i64 p) = W7 at *
              go_loopg [18] s (fun kq v18 wq => ∃ (v : Int) (rot2 : List Int) (st2 : Int), v18 = .int .i64 st2 ∧ Aside0 (Run l a b kq v rot2 st2 v1 rot1 st1) ∧ Aside0 (rot2.length = l.length) ∧ Aside0 (HitAt wq w.heap.size B (.slice A l.length c) (.slice (some ⟨G, 0, none⟩) l.length cap) (.slice L7 hl.length c7) v rot2 hl) ∧ Aside0 (Below w.heap.size w wq))
              case atStart => exact ⟨p, rot, st, rfl, HR, HL, H7, B7⟩
              case round =>
                clear HR H7 B7 HL
                obtain ⟨v, rot2, st2, rfl, HR, HL, HH, HB⟩ := hrel
                have k0 := (blk_cell HH.out.bx 0).trans rfl
                have k1 := (blk_cell HH.out.blk 1).trans rfl
                cases gk with
                | zero =>
                  have hr := HR.out
                  have hstop : (v = a ∨ v = b) ∧ v1 = v ∧ rot1 = rot2 ∧ st1 = st2 := by
                    cases hr with
                    | stop _ _ _ h => exact ⟨h, rfl, rfl, rfl⟩
                  obtain ⟨hab, rfl, rfl, rfl⟩ := hstop
                  clear hr HR
                  by_cases hva : v1 = a
                  · have q1 : (v1 == a) = true := beq_iff_eq.mpr hva
                    have q2 : (v1 != a) = false := bne_eq_false_iff_eq.mpr hva
                    have hh : hitOf v1 a = 1 := by unfold hitOf; rw [if_pos hva]
                    rw [hh] at HC2
                    clear hva hab hh
                    have ws : w.heap.size ≤ wr.heap.size := HB.out.size
                    have HO7 : wr.ownsRow w.heap.size 3 1 (.slice L7 hl.length c7) hl.length (nums .i64 hl) := HH.out.l
                    go_wp2_with (at_builtin; go_loud (refine print_append_num (w0 := w) w.heap.size rfl (.tmp 70) (.tmp 71) 37 3 .i64 8 rfl Try.underlying37 GA.info3 (by decide) (.slice L7 hl.length c7) hl (1 : Int) rfl rfl HO7 HB.out ws (by have := HI.out; omega) ?_; intro v9 w9 hown hbel hg hat; obtain ⟨A9, m9, hv9⟩ := own_slice hown; subst hv9; have HH9 := Aside0.mk (HH.out.app hown hg hat); have HB9 := Aside0.mk hbel; clear hown hbel hg hat))
                    go_roundg m
                    case measure => omega
                    case rel => exact ⟨i + 1, v1, rot1, hl ++ [1], st1, A9, m9, by first | rfl | go_num, rfl, by rw [List.length_append]; rfl, ⟨by have := HI.out; simp; omega⟩, HC2, HL, HH9, HB9⟩
                  · have q1 : (v1 == a) = false := beq_eq_false_iff_ne.mpr hva
                    have q2 : (v1 != a) = true := bne_iff_ne.mpr hva
                    have q3 : (v1 == b) = true := beq_iff_eq.mpr (hab.resolve_left hva)
                    have q4 : (v1 != b) = false := bne_eq_false_iff_eq.mpr (hab.resolve_left hva)
                    have hh : hitOf v1 a = 0 := by unfold hitOf; rw [if_neg hva]
                    rw [hh] at HC2
                    clear hva hab hh
                    have ws : w.heap.size ≤ wr.heap.size := HB.out.size
                    have HO7 : wr.ownsRow w.heap.size 3 1 (.slice L7 hl.length c7) hl.length (nums .i64 hl) := HH.out.l
                    go_wp2_with (at_builtin; go_loud (refine print_append_num (w0 := w) w.heap.size rfl (.tmp 73) (.tmp 74) 37 3 .i64 8 rfl Try.underlying37 GA.info3 (by decide) (.slice L7 hl.length c7) hl (0 : Int) rfl rfl HO7 HB.out ws (by have := HI.out; omega) ?_; intro v9 w9 hown hbel hg hat; obtain ⟨A9, m9, hv9⟩ := own_slice hown; subst hv9; have HH9 := Aside0.mk (HH.out.app hown hg hat); have HB9 := Aside0.mk hbel; clear hown hbel hg hat))
                    go_roundg m
                    case measure => omega
                    case rel => exact ⟨i + 1, v1, rot1, hl ++ [0], st1, A9, m9, by first | rfl | go_num, rfl, by rw [List.length_append]; rfl, ⟨by have := HI.out; simp; omega⟩, HC2, HL, HH9, HB9⟩
                | succ q =>
                  have hr := HR.out
                  cases hr with
                  | go _ _ _ _ _ _ _ ha hb h0 h1 hvr k hk hkr h =>
                    have HR2 := Aside0.mk h
                    clear h HR
                    obtain ⟨A_, c_, he_, hc_, hC_⟩ := HV.out
                    injection he_ with e1 e2 e3
                    subst e1 e3
                    obtain ⟨ad, A0, c0, rfl, hx, hl0, hi0⟩ := at_L1 hC_ v h0 h1
                    obtain ⟨adr, rfl, hx2⟩ := Kd.at_int hi0 (k : Int) (by omega) (by omega)
                    rw [Int.toNat_natCast] at hx2
                    obtain ⟨G_, cap_, cur, hf_, hNG, bG, hBG, hcur⟩ := HH.out.form (by omega)
                    rw [HL.out] at hf_
                    injection hf_ with e4 _ e5
                    injection e4 with e4
                    injection e4 with e4
                    subst e4 e5
                    have hcur := hcur v.toNat (by omega)
                    have hlt := World.block_lt_of_cell? w _ hx2
                    rw [add_block] at hlt
                    have q1 : (v == a) = false := beq_eq_false_iff_ne.mpr ha
                    have q2 : (v != a) = true := bne_iff_ne.mpr ha
                    have q3 : (v == b) = false := beq_eq_false_iff_ne.mpr hb
                    have q4 : (v != b) = true := bne_iff_ne.mpr hb
                    have hrd : rot2[v.toNat]'(by omega) = rd rot2 v := by
                      have := rd_at rot2 v.toNat (by omega)
                      rw [Int.toNat_of_nonneg h0] at this
                      exact this.symm
                    rw [hrd] at hcur
                    have hx := (HB.out.cell (World.block_lt_of_cell? w _ hx)).trans hx
                    have hx2 := (HB.out.cell (World.block_lt_of_cell? w _ hx2)).trans hx2
                    have ST := Aside0.mk (step_raw ad c l.length w.heap.size B G cap v (rd rot2 v) (rd (rd_L1 l v) k) k (rd_L1 l v).length c0 adr cur wr HB.out.size h0 h1 hx HH.out.blk bG hcur hx2 hk hkr hBG (by omega) HH.out.hB hNG)
                    clear hx hx2 bG hcur hi0 hl0 hC_ hc_
                    go_wp2_with (go_at_call 115; refine ST.out.mono ?_; rintro e W8 ⟨rfl, hB8, hheap⟩)
                    go_roundg q
                    case measure => omega
                    case rel =>
                      refine ⟨rd (rd_L1 l v) k, rot2.set v.toNat k, wrap64 (st2 + 1), by first | rfl | go_num, HR2, ⟨by rw [List.length_set]; exact HL.out⟩, ⟨?_⟩, ⟨HB.out.trans hB8⟩⟩
                      refine HitAt.heap (((HH.out.alloc (.cells #[.slice (some ad) l.length c] 30)).setRot HL.out.symm v.toNat k).setAt (rd (rd_L1 l v) k)) (fun b hb => by rw [hheap])
end Go.Proofs.Ytnbnalbomflafaa.RA
/-! ## GU0 -/
namespace Go.Proofs.Ytnbnalbomflafaa.GU
open Go.RowKit Go.Proofs.YtnbnalbomflafaaW.PrintWords Go.Proofs.YtnbnalbomflafaaW.PrintLast Go.Proofs.YtnbnalbomflafaaW.PrintMore
open Go.Proofs.Ytnbnalbomflafaa.GA
attribute [local go_sem] max2_int min2_int max_two min_two max_three min_three max_four min_four   -- for this text's walks alone
set_option linter.unusedVariables false
set_option linter.unusedSimpArgs false
def errW : Option Int → Value
  | none => .nilIface
  | some c => .iface 0 (.int .i64 c)
theorem errW_none : errW none = .nilIface := rfl
theorem errW_some (c : Int) : errW (some c) = .iface 0 (.int .i64 c) := rfl
end Go.Proofs.Ytnbnalbomflafaa.GU
/-! ## GU1 -/
namespace Go.Proofs.Ytnbnalbomflafaa.GU
open Go.RowKit Go.Proofs.YtnbnalbomflafaaW.PrintWords Go.Proofs.YtnbnalbomflafaaW.PrintLast Go.Proofs.YtnbnalbomflafaaW.PrintMore
open Go.Proofs.Ytnbnalbomflafaa.GA
attribute [local go_sem] max2_int min2_int max_two min_two max_three min_three max_four min_four   -- for this text's walks alone
set_option linter.unusedVariables false
set_option linter.unusedSimpArgs false
def impl_sum.l0 : Nat → Int → List Int → Int → Int → Option (Int)
  | 0, _, _, _, _ => none
  | k + 1, x3, x6, x7, x8 => if x8 < x7 then (if 0 ≤ x8 then (if x8 < (x6.length : Int) then (impl_sum.l0 k (wrap64 (x3 + (rd x6 x8))) x6 x7 (wrap64 (x8 + 1))) else (none)) else (none)) else (some x3)
def impl_sum.f (k : Nat) (l0 : List Int) : Option (Int) := impl_sum.l0 k 0 l0 (l0.length : Int) 0
set_option maxHeartbeats 8000000 in
set_option maxRecDepth 100000 in
theorem impl_sum.calls (k : Nat) (A0 : Option Addr) (c0 : Nat) (l0 : List Int) (r : Int) (w : World) (hr0 : Kd.C (Kd.int .i64) w A0 l0.length l0) (hc0 : l0.length ≤ c0) (h : impl_sum.f k l0 = some r) :
    Calls Try.prog 86 #[.slice A0 l0.length c0] w fun e w' => e = .returned (.int .i64 r) ∧ Drawn0 w w' := by
  have HR0 := Aside0.mk hr0
  have HC0 := Aside0.mk hc0
  clear hr0 hc0
  have H : (impl_sum.l0 k 0 l0 (l0.length : Int) 0) = some r := h
  clear h
  have H' := Aside0.mk H
  clear H
  go_enter Try.func86, Try.ntmps86
  go_wp2
  go_loopg [3, 8] k (fun kq v3 v8 w' => ∃ (x3_1 : Int) (x8_1 : Int), v3 = .int .i64 x3_1 ∧ v8 = .int .i64 x8_1 ∧ Aside0 (impl_sum.l0 kq x3_1 l0 (l0.length : Int) x8_1 = some r) ∧ Aside0 (kq ≤ k) ∧ Drawn0 w w')
  case atStart => exact ⟨(0), (0), (by first | rfl | (simp; done) | (simp [*]; done)), (by first | rfl | (simp; done) | (simp [*]; done)), H', ⟨Nat.le_refl _⟩, by repeat (first | exact Drawn0.refl _ | apply Drawn0.step)⟩
  case round =>
    clear H'
    obtain ⟨x3_1, x8_1, rfl, rfl, HA, HK1, ⟨m1, rfl⟩⟩ := hrel
    cases gk with
    | zero => exact absurd HA.out (by simp [impl_sum.l0])
    | succ k1 =>
      have H := HA.out
      clear HA
      simp only [impl_sum.l0] at H
      by_cases c2 : x8_1 < (l0.length : Int)
      · rw [if_pos c2] at H
        have c2b0 : decide (x8_1 < (l0.length : Int)) = true := decide_eq_true c2
        clear c2
        by_cases c3 : 0 ≤ x8_1
        · rw [if_pos c3] at H
          have c3b0 : decide (0 ≤ x8_1) = true := decide_eq_true c3
          clear c3
          by_cases c4 : x8_1 < (l0.length : Int)
          · rw [if_pos c4] at H
            have c4b0 : decide (x8_1 < (l0.length : Int)) = true := decide_eq_true c4
            clear c4
            have H' := Aside0.mk H
            clear H
            have p101 : 0 ≤ (x8_1 : Int) := of_decide_eq_true (by first | (with_reducible assumption) | assumption)
            have q101 : x8_1 < (l0.length : Int) := of_decide_eq_true (by first | (with_reducible assumption) | assumption)
            obtain ⟨ad101, e101, hx101_0⟩ := Kd.at_int HR0.out x8_1 p101 q101
            cases e101
            replace p101 := eq_true p101
            replace q101 := eq_true q101
            go_wp2
            go_roundg k1
            case measure => have := HK1.out; omega
            case rel => exact ⟨(wrap64 (x3_1 + (rd l0 x8_1))), (wrap64 (x8_1 + 1)), (by first | rfl | (simp; done) | (simp [*]; done)), (by first | rfl | (simp; done) | (simp [*]; done)), H', ⟨by have := HK1.out; omega⟩, by repeat (first | exact Drawn0.refl _ | apply Drawn0.step)⟩
          · rw [if_neg c4] at H
            exact absurd H (by simp)
        · rw [if_neg c3] at H
          exact absurd H (by simp)
      · rw [if_neg c2] at H
        have c2b0 : decide (x8_1 < (l0.length : Int)) = false := decide_eq_false c2
        clear c2
        obtain rfl := Option.some.inj H
        go_wp2
        go_ret
        exact ⟨by first | rfl | (simp; done) | (simp [*]; done), by repeat (first | exact Drawn0.refl _ | apply Drawn0.step)⟩
end Go.Proofs.Ytnbnalbomflafaa.GU
/-! ## Ci -/
namespace Go.Proofs.Ytnbnalbomflafaa.RA
open Go.RowKit Go.Proofs.YtnbnalbomflafaaW.PrintWords Go.Proofs.YtnbnalbomflafaaW.PrintLast Go.Proofs.YtnbnalbomflafaaW.PrintMore
open Go.Proofs.Ytnbnalbomflafaa.GA
open Go.Proofs.Ytnbnalbomflafaa.GR hiding rd_L1 at_L1
open Go.Proofs.Ytnbnalbomflafaa.GQ hiding rd_L1 at_L1
open Go.Proofs.Ytnbnalbomflafaa.KA
set_option linter.unusedVariables false
set_option linter.unusedSimpArgs false
/-- The answers: numbers. -/
def NumC (w : World) (R : Int) (ok : Bool) (e : Ending) (w' : World) : Prop := e = .returned (.tuple #[.int .i64 R, .bool ok]) ∧ Below w.heap.size w w'
def sumW (acc : Int) : List Int → Int
  | [] => acc
  | x :: l => sumW (wrap64 (acc + x)) l
theorem impl_sum_loop (s : List Int) (hl : s.length ≤ 1000000) (d : Nat) : ∀ (k i : Nat) (acc : Int), i + d = s.length → d < k → GU.impl_sum.l0 k acc s (s.length : Int) (i : Int) = some (sumW acc (s.drop i)) := by
  induction d with
  | zero =>
    intro k i acc hi hk
    obtain ⟨k, rfl⟩ := succ_of hk
    unfold GU.impl_sum.l0
    rw [if_neg (by omega), List.drop_eq_nil_of_le (by omega)]
    rfl
  | succ d ih =>
    intro k i acc hi hk
    obtain ⟨k, rfl⟩ := succ_of hk
    have hin : i < s.length := by omega
    have e2 := wrap_up hin (by omega)
    unfold GU.impl_sum.l0
    rw [if_pos (by omega), if_pos (by omega), if_pos (by omega), e2, ih k (i + 1) _ (by omega) (by omega), List.drop_eq_getElem_cons hin, rd_at s i hin]
    rfl
theorem spec_sum_loop (s : List Int) (hl : s.length ≤ 1000000) (d : Nat) : ∀ (k i : Nat) (acc : Int), i + d = s.length → d < k → spec_hiSum.l0 k acc s (s.length : Int) (i : Int) = some (sumW acc (s.drop i)) := by
  induction d with
  | zero =>
    intro k i acc hi hk
    obtain ⟨k, rfl⟩ := succ_of hk
    unfold spec_hiSum.l0
    rw [if_neg (by omega), List.drop_eq_nil_of_le (by omega)]
    rfl
  | succ d ih =>
    intro k i acc hi hk
    obtain ⟨k, rfl⟩ := succ_of hk
    have hin : i < s.length := by omega
    have e2 := wrap_up hin (by omega)
    unfold spec_hiSum.l0
    rw [if_pos (by omega), if_pos (by omega), if_pos (by omega), e2, ih k (i + 1) _ (by omega) (by omega), List.drop_eq_getElem_cons hin, rd_at s i hin]
    rfl
theorem impl_sum_f (s : List Int) (hl : s.length ≤ 1000000) (k : Nat) (hk : s.length < k) : GU.impl_sum.f k s = some (sumW 0 s) := by
  unfold GU.impl_sum.f
  have := impl_sum_loop s hl s.length k 0 0 (by omega) hk
  rwa [List.drop_zero] at this
theorem spec_sum_f (s : List Int) (hl : s.length ≤ 1000000) (k : Nat) (hk : s.length < k) : spec_hiSum.f k s = some (sumW 0 s) := by
  unfold spec_hiSum.f
  have := spec_sum_loop s hl s.length k 0 0 (by omega) hk
  rwa [List.drop_zero] at this
theorem sum_c (s : List Int) (hl : s.length ≤ 1000000) (W : World) (v : Value) (hv : ListC W v s) : Calls Try.prog 86 #[v] W fun e w' => e = .returned (.int .i64 (sumW 0 s)) ∧ Drawn0 W w' := by
  obtain ⟨A, c, rfl, hc, hC⟩ := hv
  exact GU.impl_sum.calls (s.length + 1) A c s _ W hC hc (impl_sum_f s hl _ (Nat.lt_succ_self _))
noncomputable def hitsA (l : List (List Int)) (x : List Int) (p a b n : Int) : Int × Bool := (sumW 0 (hitListA l x p a b n).1, askedB l x p a b n)
theorem spec_HitsOf_f (l : List (List Int)) (x : List Int) (p a b n : Int) : ∃ k, spec_HitsOf.f k l x p a b n = some (hitsA l x p a b n) := by
  cases h : askedB l x p a b n with
  | false =>
    refine ⟨400, ?_⟩
    unfold spec_HitsOf.f hitsA hitListA
    rw [asked_eq l x p a b n 400 (Nat.le_refl _), h]
    rfl
  | true =>
    obtain ⟨K, hK⟩ := hiRun_f h
    have hf := hitListA_fits l x p a b n
    refine ⟨K + 400 + (hitListA l x p a b n).1.length + 1, ?_⟩
    unfold spec_HitsOf.f
    rw [asked_eq l x p a b n _ (by omega), h, Option.bind_some, if_pos rfl, hK _ (by omega), Option.bind_some]
    unfold hitsA
    have e : (chipsA l x p a b n).1 = (hitListA l x p a b n).1 := by unfold hitListA; rw [if_pos h]
    rw [e, spec_sum_f _ hf _ (by omega), Option.bind_some, h]
theorem spec_HitsOf_c (l : List (List Int)) (x : List Int) (p a b n : Int) (W : World) (v u : Value) (hv : RowsC W v l) (hu : ListC W u x) : Calls Try.prog 31 #[.agg #[v], u, .int .i64 p, .int .i64 a, .int .i64 b, .int .i64 n] W (NumC W (hitsA l x p a b n).1 (hitsA l x p a b n).2) := by
  obtain ⟨A, c, rfl, hc, hC⟩ := hv
  obtain ⟨A2, c2, rfl, hc2, hC2⟩ := hu
  obtain ⟨k, hk⟩ := spec_HitsOf_f l x p a b n
  exact spec_HitsOf.calls k A c l A2 c2 x p a b n _ _ W hC hc hC2 hc2 hk
set_option maxHeartbeats 4000000 in
set_option maxRecDepth 100000 in
theorem impl_HitsOf_c (l : List (List Int)) (x : List Int) (p a b n : Int) (w : World) (v u : Value) (hv : RowsC w v l) (hu : ListC w u x) : Calls Try.prog 32 #[.agg #[v], u, .int .i64 p, .int .i64 a, .int .i64 b, .int .i64 n] w (NumC w (hitsA l x p a b n).1 (hitsA l x p a b n).2) := by
  have HV := Aside0.mk hv
  have HU := Aside0.mk hu
  obtain ⟨A, c, rfl, _, _⟩ := hv
  obtain ⟨A2, c2, rfl, _, _⟩ := hu
  have hk2 : (hitsA l x p a b n).2 = askedB l x p a b n := rfl
  rw [hk2]
  have hk1 : (hitsA l x p a b n).1 = sumW 0 (hitListA l x p a b n).1 := rfl
  rw [hk1]
  have hf := hitListA_fits l x p a b n
  go_enter Try.func32, Try.ntmps32
  have hal : Below w.heap.size w (w.alloc (.cells #[.slice A l.length c] 30)) := (Below.refl _ _).alloc (Nat.le_refl _) _
  have HAL := Aside0.mk hal
  clear hal
  go_upto_region 2 with (go_at_call 84; refine (hits_c l x p a b n _ _ _ (HV.out.below HAL.out) (HU.out.below HAL.out)).mono ?_; rintro e w1 ⟨v1, v2, rfl, hB, h1, h2⟩; have HB := Aside0.mk (HAL.out.trans (hB.mono (by simp))); have HL1 := Aside0.mk (h1.out.lower' (base' := w.heap.size) (by simp)); have HL2 := Aside0.mk (h2.out.lower' (base' := w.heap.size) (by simp)); clear hB h1 h2)
  go_wp2_with (go_at_call 86; refine (sum_c _ hf _ _ HL1.out.reads).mono ?_; rintro e w' ⟨rfl, nd, rfl⟩)
  refine bodyPost_ret (v := .tuple #[.int .i64 (sumW 0 (hitListA l x p a b n).1), .bool (askedB l x p a b n)]) (by simp [results, Try.results32, go_sem]) rfl ?_
  exact ⟨rfl, pw_below_drewN HB.out nd⟩
end Go.Proofs.Ytnbnalbomflafaa.RA
/-! ## Rm -/
namespace Go.Proofs.Ytnbnalbomflafaa.RA
open Go.RowKit Go.Proofs.YtnbnalbomflafaaW.PrintWords Go.Proofs.YtnbnalbomflafaaW.PrintLast Go.Proofs.YtnbnalbomflafaaW.PrintMore
set_option linter.unusedVariables false
set_option linter.unusedSimpArgs false
def T6_13 : Bool × List (List Nat × List Nat) := (true, [([], []), ([], []), ([1], [1]), ([0, 2, 2], [0, 2]), ([3], [3])])
def B6_13 : List Nat := [0, 0, 2, 7, 15]
theorem tabT6_13 : rtab .any (opsOf Try.f6 13) = T6_13 := by kernel_rfl
theorem bitsB6_13 : waitsOk T6_13.2 B6_13 = true := by kernel_rfl
set_option maxHeartbeats 4000000 in
set_option maxRecDepth 100000 in
theorem law_HitsOf.walk (v0 : Value) (l0 : List (List Int)) (A_v1 : Option Addr) (c_v1 : Nat) (l1 : List Int) (a2 : Int) (a3 : Int) (a4 : Int) (a5 : Int) (w : World) (hv0 : RowsC w v0 l0) (hv1 : ListC w (.slice A_v1 l1.length c_v1) l1)  : Calls Try.prog 6 #[.agg #[v0], (.slice A_v1 l1.length c_v1), .int .i64 a2, .int .i64 a3, .int .i64 a4, .int .i64 a5] w fun e w' => e = .returned (.bool true) ∧ Below w.heap.size w w' := by
  have HS0 := Aside0.mk hv0
  have HS1 := Aside0.mk hv1
  clear hv0 hv1
  by_cases hl1 : (l1.length : Int) > 1048576
  · go_enter Try.func6, Try.ntmps6
    go_upto_region 1 with (fail)
    have HBw : Aside0 (Below w.heap.size w (w.alloc (.cells #[v0] 24))) := ⟨(Below.refl w.heap.size w).alloc (by simp) _⟩
    have hzb : w.heap.size + 1 ≤ (w.alloc (.cells #[v0] 24)).heap.size := by simp
    have cx_0 : (w.alloc (.cells #[v0] 24)).cell? ⟨w.heap.size, 0, none⟩ = some v0 := box_10 w v0 24
    generalize (w.alloc (.cells #[v0] 24)) = Wb at *
    go_wp2_with (fail)
    go_ret
    exact ⟨by first | rfl | trivial, HBw.out⟩
  have hs1 : SmallL l1 := by unfold SmallL; omega
  obtain ⟨z0, hz0⟩ : ∃ z, z = szZ l0 1048576 := ⟨_, rfl⟩
  rcases szZ_is l0 1048576 (by omega) with hq0 | ⟨hp0, hr0, hs0⟩
  · rw [← hz0] at hq0
    have hn0 : z0 < 0 := by omega
    replace hz0 := Aside0.mk hz0
    go_enter Try.func6, Try.ntmps6
    have HZ0 := Aside0.mk hz0.out
    go_upto_region 1 with (fail)
    have HBw : Aside0 (Below w.heap.size w (w.alloc (.cells #[v0] 24))) := ⟨(Below.refl w.heap.size w).alloc (by simp) _⟩
    have hzb : w.heap.size + 1 ≤ (w.alloc (.cells #[v0] 24)).heap.size := by simp
    have cx_0 : (w.alloc (.cells #[v0] 24)).cell? ⟨w.heap.size, 0, none⟩ = some v0 := box_10 w v0 24
    generalize (w.alloc (.cells #[v0] 24)) = Wb at *
    go_wp2_with (first | (go_at_call 19; refine (szG_c _ v0 l0 (HS0.out.below HBw.out) 1048576 (by omega)).mono ?_; rintro e W1 ⟨rfl, hB1⟩; rw [← HZ0.out]; have hz2 := hB1.size; have HB3 : Aside0 (Below w.heap.size w W1) := ⟨HBw.out.trans (hB1.mono (by omega))⟩; have HB4 : Aside0 (Below w.heap.size w W1) := ⟨HBw.out.trans (hB1.mono (by omega))⟩; have cx5 : W1.cell? ⟨w.heap.size, 0, none⟩ = some v0 := (hB1.cell (p := ⟨w.heap.size, 0, none⟩) (show w.heap.size < Wb.heap.size by omega)).trans cx_0; clear cx_0; clear HBw; clear hB1))
    go_ret
    exact ⟨by first | rfl | trivial, HB3.out⟩
  · rw [← hz0] at hp0 hr0
    have hg0 : ¬ (z0 < 0) := by omega
    have HM : Aside0 (Small l0 ∧ SmallL l1) := ⟨hs0, hs1⟩
    have ht0 : 0 ≤ tot l0 ∧ tot l0 ≤ 1048576 := ⟨tot_pos _, HM.out.1.2.1⟩
    have ht1 : 0 ≤ (l1.length : Int) ∧ (l1.length : Int) ≤ 1048576 := ⟨by omega, HM.out.2⟩
    have hk : ¬ (1 + tot l0 + (l1.length : Int) < 0) := by omega
    have HK0 : Aside0 (0 ≤ 1 + tot l0 ∧ 1 + tot l0 ≤ 100000000) := ⟨by omega⟩
    have HK1 : Aside0 (0 ≤ 1 + tot l0 + (l1.length : Int) ∧ 1 + tot l0 + (l1.length : Int) ≤ 100000000) := ⟨by omega⟩
    clear ht0 ht1
    obtain ⟨R, hR⟩ : ∃ R, R = (hitsA l0 l1 a2 a3 a4 a5).1 := ⟨_, rfl⟩
    obtain ⟨ok, hok⟩ : ∃ ok, ok = (hitsA l0 l1 a2 a3 a4 a5).2 := ⟨_, rfl⟩
    have spec0 := fun W v u hv hu => spec_HitsOf_c l0 l1 a2 a3 a4 a5 W v u hv hu
    have impl0 := fun W v u hv hu => impl_HitsOf_c l0 l1 a2 a3 a4 a5 W v u hv hu
    rw [← hR, ← hok] at spec0 impl0
    have SP := Aside0.mk spec0
    have IM := Aside0.mk impl0
    clear hR hok spec0 impl0
    have HZ0 := Aside0.mk hz0
    clear hz0
    clear hs0 hs1
    go_enter Try.func6, Try.ntmps6
    go_upto_region 1 with (fail)
    have HBw : Aside0 (Below w.heap.size w (w.alloc (.cells #[v0] 24))) := ⟨(Below.refl w.heap.size w).alloc (by simp) _⟩
    have hzb : w.heap.size + 1 ≤ (w.alloc (.cells #[v0] 24)).heap.size := by simp
    have cx_0 : (w.alloc (.cells #[v0] 24)).cell? ⟨w.heap.size, 0, none⟩ = some v0 := box_10 w v0 24
    generalize (w.alloc (.cells #[v0] 24)) = Wb at *
    go_upto_region 7 with (first | (go_at_call 19; refine (szG_c _ v0 l0 (HS0.out.below HBw.out) 1048576 (by omega)).mono ?_; rintro e W1 ⟨rfl, hB6⟩; rw [← HZ0.out]; have hz7 := hB6.size; have HB8 : Aside0 (Below w.heap.size w W1) := ⟨HBw.out.trans (hB6.mono (by omega))⟩; have HB9 : Aside0 (Below w.heap.size w W1) := ⟨HBw.out.trans (hB6.mono (by omega))⟩; have cx10 : W1.cell? ⟨w.heap.size, 0, none⟩ = some v0 := (hB6.cell (p := ⟨w.heap.size, 0, none⟩) (show w.heap.size < Wb.heap.size by omega)).trans cx_0; clear cx_0; clear HBw; clear hB6))
    clear HZ0
    go_upto_region 8 with (first | (go_at_call 21; refine (toG_c _ v0 l0 (HS0.out.below HB8.out) HM.out.1).mono ?_; rintro e W2 ⟨v11, rfl, hB12, hD13⟩; have hz14 := hB12.size; have HB15 : Aside0 (Below w.heap.size w W2) := ⟨HB8.out.trans (hB12.mono (by omega))⟩; have HB16 : Aside0 (Below w.heap.size w W2) := ⟨HB9.out.trans (hB12.mono (by omega))⟩; have cx17 : W2.cell? ⟨w.heap.size, 0, none⟩ = some v0 := (hB12.cell (p := ⟨w.heap.size, 0, none⟩) (show w.heap.size < W1.heap.size by omega)).trans cx10; clear cx10; clear HB8 HB9; have HD18 := Aside0.mk hD13.out.toU; clear hD13) | (go_at_call 28; refine (toL_c _ (.slice A_v1 l1.length c_v1) l1 (HS1.out.below HB16.out) HM.out.2).mono ?_; rintro e W3 ⟨v19, rfl, hB20, hD21⟩; have hz22 := hB20.size; have HB23 : Aside0 (Below w.heap.size w W3) := ⟨HB15.out.trans (hB20.mono (by omega))⟩; have HB24 : Aside0 (Below w.heap.size w W3) := ⟨HB16.out.trans (hB20.mono (by omega))⟩; have HD25 := Aside0.mk (HD18.out.below (by omega) hB20); have cx26 : W3.cell? ⟨w.heap.size, 0, none⟩ = some v0 := (hB20.cell (p := ⟨w.heap.size, 0, none⟩) (show w.heap.size < W2.heap.size by omega)).trans cx17; clear cx17; clear HB15 HB16 HD18; have HD27 := Aside0.mk hD21.out.toU; clear hD21) | (go_at_call 31; refine (SP.out _ v11 v19 HD25.out.reads HD27.out.reads).mono ?_; rintro e W4 ⟨rfl, hB28⟩; have hz29 := hB28.size; have HB30 : Aside0 (Below w.heap.size w W4) := ⟨HB23.out.trans (hB28.mono (by omega))⟩; have HB31 : Aside0 (Below w.heap.size w W4) := ⟨HB24.out.trans (hB28.mono (by omega))⟩; have HD32 := Aside0.mk (HD25.out.below (by omega) hB28); have HD33 := Aside0.mk (HD27.out.below (by omega) hB28); have cx34 : W4.cell? ⟨w.heap.size, 0, none⟩ = some v0 := (hB28.cell (p := ⟨w.heap.size, 0, none⟩) (show w.heap.size < W3.heap.size by omega)).trans cx26; clear cx26; clear HB23 HB24 HD25 HD27; clear hB28))
    clear HD32
    clear HD33
    go_upto_region 9 with (first | (go_at_call 21; refine (toG_c _ v0 l0 (HS0.out.below HB30.out) HM.out.1).mono ?_; rintro e W5 ⟨v35, rfl, hB36, hD37⟩; obtain ⟨A38, c39, hv_, _⟩ := hD37.out.slice; subst hv_; have hz40 := hB36.size; have HB41 : Aside0 (Below w.heap.size w W5) := ⟨HB30.out.trans (hB36.mono (by omega))⟩; have HB42 : Aside0 (Below w.heap.size w W5) := ⟨HB31.out.trans (hB36.mono (by omega))⟩; have cx43 : W5.cell? ⟨w.heap.size, 0, none⟩ = some v0 := (hB36.cell (p := ⟨w.heap.size, 0, none⟩) (show w.heap.size < W4.heap.size by omega)).trans cx34; clear cx34; clear HB30 HB31; have HD44 := Aside0.mk hD37.out.toU; clear hD37))
    have hB45 : Below W5.heap.size W5 (W5.alloc (.cells #[(.slice A38 l0.length c39)] 30)) := (Below.refl _ _).alloc (Nat.le_refl _) _
    have cx46 : (W5.alloc (.cells #[(.slice A38 l0.length c39)] 30)).cell? ⟨W5.heap.size, 0, none⟩ = some (.slice A38 l0.length c39) := (blk_cell (blk_new _ _) 0).trans rfl
    have hz47 : W5.heap.size < (W5.alloc (.cells #[(.slice A38 l0.length c39)] 30)).heap.size := by simp
    generalize (W5.alloc (.cells #[(.slice A38 l0.length c39)] 30)) = W6 at *
    have hz48 := hB45.size
    have HB49 : Aside0 (Below w.heap.size w W6) := ⟨HB41.out.trans (hB45.mono (by omega))⟩
    have HB50 : Aside0 (Below w.heap.size w W6) := ⟨HB42.out.trans (hB45.mono (by omega))⟩
    have HD51 := Aside0.mk (HD44.out.below (by omega) hB45)
    have cx52 : W6.cell? ⟨w.heap.size, 0, none⟩ = some v0 := (hB45.cell (p := ⟨w.heap.size, 0, none⟩) (show w.heap.size < W5.heap.size by omega)).trans cx43
    clear cx43
    clear HB41 HB42 HD44
    go_upto_region 10 with (first | (go_at_call 28; refine (toL_c _ (.slice A_v1 l1.length c_v1) l1 (HS1.out.below HB50.out) HM.out.2).mono ?_; rintro e W7 ⟨v53, rfl, hB54, hD55⟩; have hz56 := hB54.size; have HB57 : Aside0 (Below w.heap.size w W7) := ⟨HB49.out.trans (hB54.mono (by omega))⟩; have HB58 : Aside0 (Below w.heap.size w W7) := ⟨HB50.out.trans (hB54.mono (by omega))⟩; have HD59 := Aside0.mk (HD51.out.below (by omega) hB54); have cx60 : W7.cell? ⟨w.heap.size, 0, none⟩ = some v0 := (hB54.cell (p := ⟨w.heap.size, 0, none⟩) (show w.heap.size < W6.heap.size by omega)).trans cx52; have cx61 : W7.cell? ⟨W5.heap.size, 0, none⟩ = some (.slice A38 l0.length c39) := (hB54.cell (p := ⟨W5.heap.size, 0, none⟩) (show W5.heap.size < W6.heap.size by omega)).trans cx46; clear cx52 cx46; clear HB49 HB50 HD51; have HD62 := Aside0.mk hD55.out.toU; clear hD55))
    go_upto_region 13 with (first | (go_at_call 32; refine (IM.out _ (.slice A38 l0.length c39) v53 HD59.out.reads HD62.out.reads).mono ?_; rintro e W8 ⟨rfl, hB63⟩; have hz64 := hB63.size; have HB65 : Aside0 (Below w.heap.size w W8) := ⟨HB57.out.trans (hB63.mono (by omega))⟩; have HB66 : Aside0 (Below w.heap.size w W8) := ⟨HB58.out.trans (hB63.mono (by omega))⟩; have HD67 := Aside0.mk (HD59.out.below (by omega) hB63); have HD68 := Aside0.mk (HD62.out.below (by omega) hB63); have cx69 : W8.cell? ⟨w.heap.size, 0, none⟩ = some v0 := (hB63.cell (p := ⟨w.heap.size, 0, none⟩) (show w.heap.size < W7.heap.size by omega)).trans cx60; have cx70 : W8.cell? ⟨W5.heap.size, 0, none⟩ = some (.slice A38 l0.length c39) := (hB63.cell (p := ⟨W5.heap.size, 0, none⟩) (show W5.heap.size < W7.heap.size by omega)).trans cx61; clear cx60 cx61; clear HB57 HB58 HD59 HD62; clear hB63))
    go_upto_region 13 with (fail)
    have HB71 : Aside0 (Below w.heap.size w W8.drew) := ⟨pw_below_drewN HB65.out 1⟩
    have HB72 : Aside0 (Below w.heap.size w W8.drew) := ⟨pw_below_drewN HB66.out 1⟩
    have HD73 : Aside0 (RowsU W8.drew W4.heap.size W5.heap.size (.slice A38 l0.length c39) l0) := ⟨HD67.out.drewN 1⟩
    clear HD67
    have HD74 : Aside0 (ListU W8.drew W6.heap.size W7.heap.size v53 l1) := ⟨HD68.out.drewN 1⟩
    clear HD68
    have cx75 : W8.drew.cell? ⟨w.heap.size, 0, none⟩ = some v0 := cx69
    have cx76 : W8.drew.cell? ⟨W5.heap.size, 0, none⟩ = some (.slice A38 l0.length c39) := cx70
    clear cx69 cx70
    have hz77 : W8.heap.size ≤ W8.drew.heap.size := by simp
    refine start_ (n := 5) (S := fun w' => w'.cell? ⟨w.heap.size, 0, none⟩ = some v0 ∧ w'.cell? ⟨W5.heap.size, 0, none⟩ = some (.slice A38 l0.length c39)) (ds := []) #[false, false, false, false, false] (by kernel_rfl) rfl rfl ⟨cx75, cx76⟩ (fun hHeld => ?_)
    refine with_tabW tabT6_13 bitsB6_13 (fun HT_ HW_ => ?_)
    generalize W8.drew = W9 at *
    refine take_ (i := 0) (N := some 62) (v := ?_) (a' := ?_) #[true, false, false, false, false] rfl rfl (take_ofW HT_.out HW_.out (by kernel_rfl)) (fun _ _ _ h => h) (Or.inl ⟨by rfl, ?_⟩) hHeld ?_ ?_
    rotate_left
    · rintro w' ⟨s0, s1⟩
      go_simp
      with_reducible rfl
    rotate_left
    · simp only [Act.put, List.setIfInBounds_toArray, List.set_cons_zero, List.set_cons_succ, i64_w, i32_w]
      rfl
    refine take_ (i := 1) (N := some 63) (v := ?_) (a' := ?_) #[true, true, false, false, false] rfl rfl (take_ofW HT_.out HW_.out (by kernel_rfl)) (fun _ _ _ h => h) (Or.inl ⟨by rfl, ?_⟩) hHeld ?_ ?_
    rotate_left
    · rintro w' ⟨s0, s1⟩
      go_simp
      with_reducible rfl
    rotate_left
    · simp only [Act.put, List.setIfInBounds_toArray, List.set_cons_zero, List.set_cons_succ, i64_w, i32_w]
      rfl
    refine one_ (i := 2) (N := some 64) #[true, true, true, false, false] rfl rfl (one_of HT_.out (by kernel_rfl)) (by decide) (fun K hK => ?_)
    refine goes_ Try.func21 (by kernel_rfl) rfl #[.agg #[v0]] (by rfl) rfl rfl (by (try simp only [List.map_toArray, List.map_cons, List.map_nil]); first | done | rfl) ?_
    (with_reducible refine (toG_c _ v0 l0 (HS0.out.below HB71.out) HM.out.1).mono ?_; rintro e W10 ⟨v78, rfl, hB79, hD80⟩; have hz81 := hB79.size; have HB82 : Aside0 (Below w.heap.size w W10) := ⟨HB71.out.trans (hB79.mono (by omega))⟩; have HB83 : Aside0 (Below w.heap.size w W10) := ⟨HB72.out.trans (hB79.mono (by omega))⟩; have HD84 := Aside0.mk (HD73.out.below (by omega) hB79); have HD85 := Aside0.mk (HD74.out.below (by omega) hB79); have cx86 : W10.cell? ⟨w.heap.size, 0, none⟩ = some v0 := (hB79.cell (p := ⟨w.heap.size, 0, none⟩) (show w.heap.size < W9.heap.size by omega)).trans cx75; have cx87 : W10.cell? ⟨W5.heap.size, 0, none⟩ = some (.slice A38 l0.length c39) := (hB79.cell (p := ⟨W5.heap.size, 0, none⟩) (show W5.heap.size < W9.heap.size by omega)).trans cx76; clear cx75 cx76; clear HB71 HB72 HD73 HD74; have HD88 := Aside0.mk hD80.out.toU; clear hD80)
    refine ⟨_, rfl, ?_⟩
    refine hK.out _ _ ⟨cx86, cx87⟩ (fun hHeld => ?_)
    clear hK K
    refine norm_ (a' := ?_) ?_ ?_
    rotate_left
    · show Act.put _ (some 64) _ = _
      simp only [Act.put, List.setIfInBounds_toArray, List.set_cons_zero, List.set_cons_succ, i64_w, i32_w]
      rfl
    refine one_ (i := 3) (N := some 65) #[true, true, true, true, false] rfl rfl (one_of HT_.out (by kernel_rfl)) (by decide) (fun K hK => ?_)
    refine goes_ Try.func24 (by kernel_rfl) rfl #[.agg #[(.slice A38 l0.length c39)], .agg #[v78]] (by rfl) rfl rfl (by (try simp only [List.map_toArray, List.map_cons, List.map_nil]); first | done | rfl) ?_
    (with_reducible refine (eqG_c _ (.slice A38 l0.length c39) v78 l0 HD84.out.reads HD88.out.reads HM.out.1).mono ?_; rintro e W11 ⟨rfl, hB89⟩; have hz90 := hB89.size; have HB91 : Aside0 (Below w.heap.size w W11) := ⟨HB82.out.trans (hB89.mono (by omega))⟩; have HB92 : Aside0 (Below w.heap.size w W11) := ⟨HB83.out.trans (hB89.mono (by omega))⟩; have HD93 := Aside0.mk (HD84.out.below (by omega) hB89); have HD94 := Aside0.mk (HD85.out.below (by omega) hB89); have HD95 := Aside0.mk (HD88.out.below (by omega) hB89); have cx96 : W11.cell? ⟨w.heap.size, 0, none⟩ = some v0 := (hB89.cell (p := ⟨w.heap.size, 0, none⟩) (show w.heap.size < W10.heap.size by omega)).trans cx86; have cx97 : W11.cell? ⟨W5.heap.size, 0, none⟩ = some (.slice A38 l0.length c39) := (hB89.cell (p := ⟨W5.heap.size, 0, none⟩) (show W5.heap.size < W10.heap.size by omega)).trans cx87; clear cx86 cx87; clear HB82 HB83 HD84 HD85 HD88; clear hB89)
    refine ⟨_, rfl, ?_⟩
    refine hK.out _ _ ⟨cx96, cx97⟩ (fun hHeld => ?_)
    clear hK K
    refine norm_ (a' := ?_) ?_ ?_
    rotate_left
    · show Act.put _ (some 65) _ = _
      simp only [Act.put, List.setIfInBounds_toArray, List.set_cons_zero, List.set_cons_succ, i64_w, i32_w]
      rfl
    refine pure_ (i := 4) (N := some 66) (v := ?_) (a' := ?_) #[true, true, true, true, true] rfl rfl (any_of HT_.out (by kernel_rfl)) (fun _ _ _ h => h) (Or.inl ⟨by rfl, ?_⟩) ?_ ?_
    rotate_left
    · intro w'
      go_simp
      with_reducible rfl
    rotate_left
    · simp only [Act.put, List.setIfInBounds_toArray, List.set_cons_zero, List.set_cons_succ, i64_w, i32_w]
      rfl
    refine done_ (done_of HT_.out (by kernel_rfl)) ?_
    clear HT_ HW_ hHeld
    clear HD95
    go_wp2_with (first | (go_at_call 28; refine (toL_c _ (.slice A_v1 l1.length c_v1) l1 (HS1.out.below HB92.out) HM.out.2).mono ?_; rintro e W12 ⟨v98, rfl, hB99, hD100⟩; have hz101 := hB99.size; have HB102 : Aside0 (Below w.heap.size w W12) := ⟨HB91.out.trans (hB99.mono (by omega))⟩; have HB103 : Aside0 (Below w.heap.size w W12) := ⟨HB92.out.trans (hB99.mono (by omega))⟩; have HD104 := Aside0.mk (HD93.out.below (by omega) hB99); have HD105 := Aside0.mk (HD94.out.below (by omega) hB99); have cx106 : W12.cell? ⟨w.heap.size, 0, none⟩ = some v0 := (hB99.cell (p := ⟨w.heap.size, 0, none⟩) (show w.heap.size < W11.heap.size by omega)).trans cx96; have cx107 : W12.cell? ⟨W5.heap.size, 0, none⟩ = some (.slice A38 l0.length c39) := (hB99.cell (p := ⟨W5.heap.size, 0, none⟩) (show W5.heap.size < W11.heap.size by omega)).trans cx97; clear cx96 cx97; clear HB91 HB92 HD93 HD94; have HD108 := Aside0.mk hD100.out.toU; clear hD100) | (go_at_call 30; refine (eqL_c _ v53 v98 l1 HD105.out.reads HD108.out.reads HM.out.2).mono ?_; rintro e w_ ⟨rfl, ⟨nd109, rfl⟩⟩; have HB110 : Aside0 (Below w.heap.size w (W12.drewN nd109)) := ⟨pw_below_drewN HB102.out nd109⟩; have HB111 : Aside0 (Below w.heap.size w (W12.drewN nd109)) := ⟨pw_below_drewN HB103.out nd109⟩; have HD112 := Aside0.mk (HD104.out.drewN nd109); have HD113 := Aside0.mk (HD105.out.drewN nd109); have HD114 := Aside0.mk (HD108.out.drewN nd109); have cx115 : (W12.drewN nd109).cell? ⟨w.heap.size, 0, none⟩ = some v0 := cx106; have cx116 : (W12.drewN nd109).cell? ⟨W5.heap.size, 0, none⟩ = some (.slice A38 l0.length c39) := cx107; clear cx106 cx107; have hz117 : W12.heap.size ≤ (W12.drewN nd109).heap.size := (by simp); clear HB102 HB103 HD104 HD105 HD108; generalize W12.drewN nd109 = W13 at *))
    clear HD114
    go_ret
    exact ⟨by first | rfl | trivial, HB110.out⟩
end Go.Proofs.Ytnbnalbomflafaa.RA
/-! ## Kr -/
namespace Go.Proofs.Ytnbnalbomflafaa.KR
open Go.RowKit Go.Proofs.YtnbnalbomflafaaW.PrintWords
open Go.ChangeShapes Go.WideShapes Go.Deep
set_option linter.unusedVariables false
/-- What a list that came in reads as. -/
structure ListIn (W : World) (A : Option Addr) (n c : Nat) (l : List Int) : Prop where
  len : n = l.length
  le : l.length ≤ c
  reads : Kd.C (Kd.int .i64) W A l.length l
  wf : ∀ x ∈ l, (Lit.int .i64 x).wf = true
structure RowsIn (W : World) (A : Option Addr) (n c : Nat) (l : List (List Int)) : Prop where
  len : n = l.length
  le : l.length ≤ c
  reads : Kd.C (Kd.slice 3 (Kd.int .i64)) W A l.length l
  wf : ∀ r ∈ l, ∀ x ∈ r, (Lit.int .i64 x).wf = true
  small : ∀ r ∈ l, r.length ≤ 9223372036854775807
theorem reads_of {W : World} {a' : Option Addr} {n c : Nat} {zs : List Int} (hl : n ≤ c) (hm : c ≤ maxLen) (hz : zs.length = c) (hn : a' = none → c = 0)
    (hc : ∀ ad, a' = some ad → ∀ j, j < c → W.cell? (ad.add j) = some (.int .i64 (zs.getD j 0))) : Kd.C (Kd.int .i64) W a' (zs.take n).length (zs.take n) := by
  have hln : (zs.take n).length = n := by rw [List.length_take]; omega
  rw [hln]
  refine Kd.C_of_reads (d := 0) ⟨hln, by unfold maxLen at hm; omega, fun h0 => ?_⟩
  cases a' with
  | none => have := hn rfl; omega
  | some ad =>
    refine ⟨ad, rfl, fun j hj => ?_⟩
    rw [hc ad rfl j (by omega)]
    simp [List.getD_eq_getElem?_getD, hj]
theorem array1 {α : Type} {cs : Array α} (h : cs.size = 1) : ∃ c0, cs = #[c0] := by
  obtain ⟨l⟩ := cs
  match l, h with
  | [c0], _ => exact ⟨c0, rfl⟩
section
variable {H : Type} {enc : TypeId × Value → H} {W : World} {base : Nat} {held : Bool}
theorem open_list {a : Option Addr} {len cap : Nat} {d : DataW H} {p : List MemPlace} (h : DataW.Trod enc Try.prog W base (fun _ => true) held 37 (.slice a len cap) d p) : ∃ l, ListIn W a len cap l := by
  obtain ⟨fuel, hf⟩ := h
  rcases open_ints Try.underlying37 Try.underlying3 (by kernel_rfl) hf with ⟨hcs, _⟩ | ⟨x, l, c, zs, hcs, _, hl, hm, hz, _, hcell, hwz⟩
  · simp [Value.cells] at hcs
    obtain ⟨rfl, rfl, rfl⟩ := hcs
    exact ⟨[], rfl, Nat.le_refl _, Kd.C_nil _ _, by simp⟩
  · simp [Value.cells] at hcs
    obtain ⟨rfl, rfl, rfl⟩ := hcs
    have hz' : zs.length = cap := by simpa using hz
    have hln : (zs.take len).length = len := by rw [List.length_take]; omega
    refine ⟨zs.take len, hln.symm, by omega, ?_, fun x hx => hwz x (List.mem_of_mem_take hx)⟩
    refine reads_of hl hm hz' (fun h => by cases h) (fun ad e j hj => ?_)
    injection e with e
    subst e
    exact hcell j (by omega)
theorem rows_of {fuel : Nat} {cs : List Value} {x : DataW H × List MemPlace} (h : DataW.trod enc Try.prog W base (fun _ => true) held fuel 22 cs = some x) : ∃ A n c l, cs = [.slice A n c] ∧ RowsIn W A n c l := by
  rcases open_int_rows Try.underlying22 Try.underlying37 Try.underlying3 (by kernel_rfl) (by kernel_rfl) h with ⟨rfl, _⟩ | ⟨a, len, cap, A, L, C, Z, rfl, hb, hl, hm, hx, hr⟩
  · exact ⟨none, 0, 0, [], rfl, rfl, Nat.le_refl _, Kd.C_nil _ _, by simp, by simp⟩
  · refine ⟨some a, len, cap, (List.range len).map fun r => (Z r).take (L r), rfl, by simp, by simpa using hl, ?_, ?_, ?_⟩
    · refine ⟨by simp, by simp; unfold maxLen at hm; omega, fun h0 => ⟨a, rfl, fun j p hj => ?_⟩⟩
      have hjl : j < len := by
        have := (List.getElem?_eq_some_iff.1 hj).1
        simpa using this
      obtain ⟨hc, h1, h2, h3, h4, h5, h6⟩ := hr j (by omega)
      have hp : p = (Z j).take (L j) := by
        rw [List.getElem?_map, List.getElem?_range hjl] at hj
        exact (Option.some.inj hj).symm
      have hpl : p.length = L j := by rw [hp, List.length_take]; omega
      refine ⟨[.slice (A j) p.length (C j)], rfl, ⟨A j, C j, rfl, by omega, ?_⟩, fun i u hu => ?_⟩
      · rw [hp]
        exact reads_of h1 h2 h3 h5 (fun ad e i hi => (h6 ad e).2 i hi)
      · have hi : i = 0 := by
          have := (List.getElem?_eq_some_iff.1 hu).1
          simp at this
          exact this
        subst hi
        simp at hu
        rw [← hu, hpl]
        have e : j * (Kd.slice 3 (Kd.int .i64)).sz + 0 = j := by show j * 1 + 0 = j; omega
        rw [e]
        exact hc
    · intro r hr' x hx'
      obtain ⟨j, hj, rfl⟩ := List.mem_map.1 hr'
      have := List.mem_range.1 hj
      exact (hr j (by omega)).2.2.2.2.1 x (List.mem_of_mem_take hx')
    · intro r hr'
      obtain ⟨j, hj, rfl⟩ := List.mem_map.1 hr'
      have hj := List.mem_range.1 hj
      have h1 := (hr j (by omega)).2.1
      have h2 := (hr j (by omega)).2.2.1
      unfold maxLen at h2
      rw [List.length_take]
      omega
set_option maxRecDepth 100000 in
theorem open_graph {r : Reach} {b0 t : Nat} {f0 : Field} {v : Value} {d : DataW H} {p : List MemPlace} (hs : Try.prog.underlying t = some (.struct #[f0])) (hC : Try.prog.cellsOf t = 1) (hf : f0.type = 22) (ho : f0.offset = 0)
    (hv : Value.okWide Try.prog W r b0 t v) (h : DataW.Trod enc Try.prog W base (fun _ => true) held t v d p) : ∃ A n c l, v = .agg #[.slice A n c] ∧ RowsIn W A n c l := by
  obtain ⟨cs, rfl, hsz⟩ := okWide_struct hs hv
  obtain ⟨c0, rfl⟩ := array1 (hsz.trans hC)
  obtain ⟨fuel, hfu⟩ := h
  obtain ⟨y0, n, hx, _, h0⟩ := trod_struct1 hs hfu
  have hc22 : Try.prog.cellsOf 22 = 1 := by kernel_rfl
  rw [hf, ho, hc22] at h0
  obtain ⟨A, m, c, l, hcs, hR⟩ := rows_of h0
  have e : c0 = .slice A m c := by simpa [Value.cells] using hcs
  subst e
  exact ⟨A, m, c, l, rfl, hR⟩
end
end Go.Proofs.Ytnbnalbomflafaa.KR
