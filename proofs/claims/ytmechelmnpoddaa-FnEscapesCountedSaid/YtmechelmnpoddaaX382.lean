/-
  Texts of the seat, merged (part 2).
-/
import Derived.Laws.CopyOwn
import Derived.Deep.RegionLaw
import Derived.Test.YtmechelmnpoddaaProg
import Derived.Below
import Derived.Deep.Draws
import Derived.Deep.AppendLies
import Derived.Maps.AppendAt
import Derived.OwnWalk
import Derived.Laws.BytesArg
import Derived.Laws.MakeOwn
import Derived.Laws.OwnMore
import Derived.Deep.OwnRows
import Derived.Tactics
import Derived.Lib.ConvBytes
import Derived.Laws.Slices
import Derived.WalkKit
import Derived.KernelRfl
import Derived.RowKit3
import Derived.Deep.LoopGhost
import Derived.Deep.QuietTactic
import Derived.BigQuiet
import Derived.WideLaws
import Derived.Deep.DeepCutAuto
import Derived.Deep.CutBlock
import Derived.Deep.RegionHeld3
import Derived.Laws.Rows
import Derived.Lib.AppendStr
import Derived.ArgAppend
import Derived.Laws.IdiomCopy
import Derived.OrdersHeld
import Derived.Laws.BitsLemmas
import Derived.RowKit
import Derived.Test.YtmechelmnpoddaaX38WWords
import Derived.Test.YtmechelmnpoddaaX38WLast
import Derived.Test.YtmechelmnpoddaaX38WTab
import Derived.Test.YtmechelmnpoddaaX38WFour
import Derived.Test.YtmechelmnpoddaaX38WQPut
import Derived.Test.YtmechelmnpoddaaX38WApart
import Derived.Test.YtmechelmnpoddaaX38WArr
import Derived.Test.YtmechelmnpoddaaX38WZeros
import Derived.Test.YtmechelmnpoddaaX38WFoot
import Derived.Test.YtmechelmnpoddaaX38WKept
import Derived.Test.YtmechelmnpoddaaX38WShare
import Derived.Test.YtmechelmnpoddaaX38WN
import Derived.Test.YtmechelmnpoddaaX38WFootNe
import Derived.Test.YtmechelmnpoddaaX38WAt
import Derived.Test.YtmechelmnpoddaaX38WEqStruct
import Derived.Test.YtmechelmnpoddaaX38WRepsOne
import Derived.Test.YtmechelmnpoddaaX38WInv
import Derived.Test.YtmechelmnpoddaaX38WInvWords
import Derived.Test.YtmechelmnpoddaaX38WGuard
import Derived.Test.YtmechelmnpoddaaX38WNEv
import Derived.Test.YtmechelmnpoddaaX38WMore
import Derived.Test.YtmechelmnpoddaaX381
set_option linter.unusedVariables false
set_option linter.unusedSimpArgs false
namespace Go.Proofs.Ytmechelmnpoddaa.H7
open Go.RowKit YtmechelmnpoddaaW.PrintWords YtmechelmnpoddaaW.PrintLast YtmechelmnpoddaaW.PrintMore
open A7
open Es (nth)
def filled (k N n : Nat) : List Value := List.replicate n (.int .i64 (k : Int)) ++ List.replicate (N - n) (.int .i64 0)
theorem filled_length {k N n : Nat} (h : n ≤ N) : (filled k N n).length = N := by simp [filled]; omega
theorem filled_all (k N : Nat) : filled k N N = nums .i64 (ints (List.replicate N k)) := by simp [filled, ints, nums]
theorem filled_get {k N n j : Nat} (hj : j < n) : (filled k N n)[j]? = some (.int .i64 (k : Int)) := by
 unfold filled
 rw [List.getElem?_append_left (by simpa using hj)]
 simp [hj]
theorem filled_splice {k N n m : Nat} (h : n + m ≤ N) : splice (filled k N n) n (List.replicate m (.int .i64 (k : Int))) = filled k N (n + m) := by
 unfold splice filled
 rw [List.take_append_of_le_length (by simp), List.take_of_length_le (by simp), List.drop_append]
 simp only [List.length_replicate, List.drop_replicate]
 rw [show n - (n + m) = 0 by omega, show n + m - n = m by omega, show N - n - m = N - (n + m) by omega]
 simp [List.replicate_append_replicate, ← List.append_assoc]
theorem filled_made (k N : Nat) : (madeCells #[.int .i64 0] N).toList = filled k N 0 := by
 simp only [filled, madeCells]
 apply List.ext_getElem
 ·simp
 ·intro i h1 h2
  simp [Nat.mod_one]
theorem filled_own {W : World} {base g k N : Nat} (hb : base ≤ g) (hN : N ≤ 100000) (h : W.heap[g]? = some (.cells (filled k N N).toArray 3 (0, 0))) :
  W.ownsRow base 3 1 (.slice (some ⟨g, 0, none⟩) N N) N (nums .i64 (ints (List.replicate N k))) := by
 refine ⟨by simp [ints, nums], .inr ⟨g, N, _, rfl, hb, h, Nat.le_refl _, by unfold maxLen; omega, by simp [filled], ?_⟩⟩
 rw [← filled_all]
 exact List.take_of_length_le (by simp [filled])
def R9.T : Bool × List (List Nat × List Nat) := (true, [([], []), ([], []), ([], []), ([1, 2], [1, 2]), ([], []), ([], []), ([4, 5], [4, 5]), ([3, 6], [3, 6]), ([0, 7], [0, 7]), ([8, 7, 0, 1, 2, 3, 4, 5, 6, 7, 8], [0, 2, 5, 8])])
def R9.B : List Nat := [0, 0, 0, 6, 0, 0, 48, 126, 255, 511]
theorem R9.tab : rtab .any (opsOf Try.f85 9) = R9.T := by kernel_rfl
theorem R9.bits : waitsOk R9.T.2 R9.B = true := by kernel_rfl
set_option maxHeartbeats 1000000 in
set_option maxRecDepth 100000 in
theorem repeat_calls (gx k N : Nat) (w : World) (h1 : 1 ≤ N) (h2 : N ≤ 130) (hx : w.cell? ⟨gx, 0, none⟩ = some (.int .i64 (k : Int))) (hgx : gx < w.heap.size) :
  Calls Try.prog 85 #[.slice (some ⟨gx, 0, none⟩) 1 1, .int .i64 (N : Int)] w fun e' w' => ∃ v, e' = .returned v ∧ w'.ownsRow w.heap.size 3 1 v N (nums .i64 (ints (List.replicate N k))) ∧ Below w.heap.size w w' := by
 have HM : ∀ W, Calls Try.prog 90 #[.int .u64 1, .int .u64 (N : Int)] W fun e w' => e = .returned (.tuple #[.int .u64 0, .int .u64 (N : Int)]) ∧ w' = W := fun W => by
  have := Try.bits_Mul 1 N (by decide) (by omega) W
  rw [show 1 * N / 18446744073709551616 = 0 by omega, show 1 * N % 18446744073709551616 = N by omega] at this
  exact this
 have HM := Aside0.mk HM
 have hmk := print_make (P := Try.prog) 34 3 .i64 8 Try.underlying34 info3 (by decide) N (by omega)
 have hw1 : IntKind.u64.wrap (N : Int) = (N : Int) := by unfold IntKind.wrap; simp [IntKind.bits, IntKind.signed]; omega
 have hw2 : IntKind.i64.wrap (N : Int) = (N : Int) := IntWalk.i64_in _ (by omega)
 have hM0 : ∀ W : World, (W.alloc (.cells (madeCells #[.int .i64 0] N) 3)).heap[W.heap.size]? = some (.cells (filled k N 0).toArray 3 (0, 0)) := fun W => by
  have h := blk_new W (.cells (madeCells #[.int .i64 0] N) 3)
  rw [← filled_made]
  simpa using h
 have hM0 := Aside0.mk hM0
 have hX := Aside0.mk hx
 have hlen := Aside0.mk (filled_length (k := k) (Nat.zero_le N))
 clear hx
 generalize hF0 : filled k N 0 = F0 at hM0 hlen
 have hF0 := Aside0.mk hF0
 have hP : ∀ j v, [Value.int .i64 (k : Int)][j]? = some v → (w.alloc (.cells (madeCells #[.int .i64 0] N) 3)).cell? ((⟨gx, 0, none⟩ : Addr).add j) = some v := fun j v hj => by
  match j, hj with
  | 0, hj =>
   simp at hj
   subst hj
   exact (World.cell?_alloc_lt _ _ _ hgx).trans hX.out
 have hP := Aside0.mk hP
 go_enter Try.func85, Try.ntmps85
 go_upto_region 7 with (go_at_call 90; refine (HM.out _).mono ?_; rintro e w' ⟨rfl, hw'⟩; subst w')
 go_wp2_with (refine wpList_copy_splice (o := ⟨some 33, _, _, _, _, _⟩) rfl (.tmp 31) (.tmp 32) 34 34 rfl 3 Try.underlying34 (by rfl) _ _ _ _ _ _ rfl rfl w.heap.size 0 F0 3 (hM0.out w) [.int .i64 (k : Int)] (by show 1 = min 1 N; omega) (fun _ => ⟨rfl, _, rfl, hP.out⟩) (by rw [hlen.out]; show 0 + 1 ≤ N; omega) (by intro v hv; simp at hv; subst hv; rfl) w.heap.size w (bA_ (Below.refl _ _) _) (Nat.le_refl _) ?_; intro w1 hG1 hB1)
 have G1 : w1.heap[w.heap.size]? = some (.cells (filled k N 1).toArray 3 (0, 0)) := by
  have := hG1.out
  rw [← hF0.out] at this
  rw [show [Value.int .i64 (k : Int)] = List.replicate 1 (Value.int .i64 (k : Int)) from rfl, filled_splice (by omega)] at this
  simpa using this
 have G1 := Aside0.mk G1
 have B1 := Aside0.mk hB1
 clear hG1 hB1 hP hM0 hX hlen hF0 HM hmk
 go_loopg [8] N (fun kq v8 wr => ∃ n : Nat, v8 = .int .i64 (n : Int) ∧ Aside0 (1 ≤ n ∧ n ≤ N ∧ N - n ≤ kq) ∧ Aside0 (wr.heap[w.heap.size]? = some (.cells (filled k N n).toArray 3 (0, 0))) ∧ Aside0 (Below w.heap.size w wr))
 case atStart => exact ⟨1, rfl, ⟨by omega⟩, G1, B1⟩
 case round =>
  clear G1 B1
  obtain ⟨n, rfl, hn, hG, hB⟩ := hrel
  have hn0 := hn.out
  clear hn
  obtain ⟨hn1, hn2, hn3⟩ := hn0
  by_cases hlt : n < N
  rotate_left
  ·have hc : ¬ ((n : Int) < (N : Int)) := by omega
   obtain rfl : n = N := by omega
   go_wp2_with (fail)
   go_ret
   exact ⟨_, rfl, filled_own (Nat.le_refl _) (by omega) hG.out, hB.out⟩
  have hc : (n : Int) < (N : Int) := by omega
  obtain ⟨m, hm⟩ : ∃ m, m = min n (N - n) := ⟨_, rfl⟩
  have hS : ∀ j v, (List.replicate m (Value.int .i64 (k : Int)))[j]? = some v → wr.cell? ((⟨w.heap.size, 0, none⟩ : Addr).add j) = some v := fun j v hj => by
   rw [List.getElem?_replicate] at hj
   split at hj
   ·rename_i hjm
    have h := (blk_cell hG.out j).trans (show _ from (by simpa using filled_get (k := k) (N := N) (n := n) (j := j) (by omega)))
    rw [← Option.some.inj hj]
    unfold Addr.add
    split
    ·rename_i h0; subst h0; exact h
    ·simpa using h
   ·cases hj
  have hS := Aside0.mk hS
  have hNn : ¬ N = n := by omega
  have hfl := Aside0.mk (filled_length (k := k) hn2)
  have hsp := Aside0.mk (filled_splice (k := k) (N := N) (n := n) (m := m) (by omega))
  have hwn : IntKind.i64.wrap ((n : Int) + (m : Int)) = (n : Int) + (m : Int) := IntWalk.i64_in _ (by omega)
  have hmm := Aside0.mk hm
  clear hm
  go_upto_region 9 with (fail)
  refine start_ (n := 10) (S := fun w' => True) (ds := []) #[false, false, false, false, false, false, false, false, false, false] (by kernel_rfl) rfl rfl trivial (fun hHeld => ?_)
  refine with_tabW R9.tab R9.bits (fun HT_ HW_ => ?_)
  generalize hwd : wr.drew = W9
  have hG9 : W9.heap[w.heap.size]? = some (.cells (filled k N n).toArray 3 (0, 0)) := by rw [← hwd]; exact hG.out
  have hB9 : Below w.heap.size w W9 := by rw [← hwd]; exact bN_ hB.out 1
  have hS9 : ∀ j v, (List.replicate m (Value.int .i64 (k : Int)))[j]? = some v → W9.cell? ((⟨w.heap.size, 0, none⟩ : Addr).add j) = some v := by rw [← hwd]; exact hS.out
  have hG9 := Aside0.mk hG9
  have hB9 := Aside0.mk hB9
  have hS9 := Aside0.mk hS9
  clear hwd hG hB hS
  refine pu_ (i := 0) (N := some 38) (v := ?_) (a' := ?_) HT_.out rfl rfl (Or.inl ⟨by rfl, ?_⟩) ?_ ?_
  rotate_left
  ·intro w'
   go_simp
   with_reducible rfl
  rotate_left
  ·simp only [sp_]
   rfl
  refine pu_ (i := 1) (N := some 39) (v := ?_) (a' := ?_) HT_.out rfl rfl (Or.inl ⟨by rfl, ?_⟩) ?_ ?_
  rotate_left
  ·intro w'
   go_simp
   with_reducible rfl
  rotate_left
  ·simp only [sp_]
   rfl
  refine pu_ (i := 2) (N := some 40) (v := ?_) (a' := ?_) HT_.out rfl rfl (Or.inl ⟨by rfl, ?_⟩) ?_ ?_
  rotate_left
  ·intro w'
   go_simp
   with_reducible rfl
  rotate_left
  ·simp only [sp_]
   rfl
  refine pu_ (i := 3) (N := some 41) (v := ?_) (a' := ?_) HT_.out rfl rfl (Or.inl ⟨by rfl, ?_⟩) ?_ ?_
  rotate_left
  ·intro w'
   go_simp
   with_reducible rfl
  rotate_left
  ·simp only [sp_]
   rfl
  refine pu_ (i := 4) (N := some 42) (v := ?_) (a' := ?_) HT_.out rfl rfl (Or.inl ⟨by rfl, ?_⟩) ?_ ?_
  rotate_left
  ·intro w'
   go_simp
   with_reducible rfl
  rotate_left
  ·simp only [sp_]
   rfl
  refine pu_ (i := 5) (N := some 43) (v := ?_) (a' := ?_) HT_.out rfl rfl (Or.inl ⟨by rfl, ?_⟩) ?_ ?_
  rotate_left
  ·intro w'
   go_simp
   with_reducible rfl
  rotate_left
  ·simp only [sp_]
   rfl
  refine pu_ (i := 6) (N := some 44) (v := ?_) (a' := ?_) HT_.out rfl rfl (Or.inl ⟨by rfl, ?_⟩) ?_ ?_
  rotate_left
  ·intro w'
   go_simp
   with_reducible rfl
  rotate_left
  ·simp only [sp_]
   rfl
  refine one_ (i := 7) (N := some 45) #[true, true, true, true, true, true, true, true, false, false] rfl rfl (one_of HT_.out (by kernel_rfl)) (by decide) (fun K hK => ?_)
  refine step_copy_splice rfl (.tmp 41) (.tmp 44) 34 34 rfl 3 Try.underlying34 (by rfl) _ _ _ _ _ _ rfl rfl w.heap.size n (filled k N n) 3 hG9.out (List.replicate m (.int .i64 (k : Int))) (by rw [List.length_replicate]; show m = min n (N - n); exact hmm.out) (fun _ => ⟨rfl, _, rfl, hS9.out⟩) (by have := hmm.out; rw [hfl.out, List.length_replicate]; omega) (by intro v hv; rw [List.eq_of_mem_replicate hv]; rfl) w.heap.size w hB9.out (Nat.le_refl _) ?_
  intro w2 hG2 hB2
  rw [List.length_replicate]
  have hG3 := hG2.out
  rw [hsp.out] at hG3
  have hG3 := Aside0.mk hG3
  have hB3 := Aside0.mk hB2
  clear hG2 hB2 hS9 hG9 hB9
  refine hK.out (Act.put _ (some 45) _) _ trivial (fun hHeld => ?_)
  clear hK K
  (try simp only [Act.put, List.setIfInBounds_toArray, List.set_cons_zero, List.set_cons_succ])
  refine pu_ (i := 8) (N := some 46) (v := ?_) (a' := ?_) HT_.out rfl rfl (Or.inl ⟨by rfl, ?_⟩) ?_ ?_
  rotate_left
  ·intro w'
   go_simp
   first | with_reducible rfl | (trace_state; fail)
  rotate_left
  ·simp only [sp_]
   rfl
  refine pu_ (i := 9) (N := some 8) (v := ?_) (a' := ?_) HT_.out rfl rfl (Or.inl ⟨by rfl, ?_⟩) ?_ ?_
  rotate_left
  ·intro w'
   go_simp
   with_reducible rfl
  rotate_left
  ·simp only [sp_]
   rfl
  refine done_ (done_of HT_.out (by kernel_rfl)) ?_
  try go_wp2_with (fail)
  go_roundg (gk - 1)
  case measure => omega
  case rel => exact ⟨n + m, by go_num, ⟨by have := hmm.out; omega⟩, hG3, hB3⟩
end Go.Proofs.Ytmechelmnpoddaa.H7
namespace Go.Proofs.Ytmechelmnpoddaa.H7
open Go.RowKit YtmechelmnpoddaaW.PrintWords YtmechelmnpoddaaW.PrintLast YtmechelmnpoddaaW.PrintMore
open A7
open Es (nth)
theorem FoAt.made {W : World} {base b d inner k : Nat} {vr : Value} {gv : Nat} (hb : base ≤ W.heap.size) (hr : W.ownsRow base 3 1 vr inner (nums .i64 (ints (List.replicate inner k))))
  (hv : W.ownsRow base 3 1 (.slice (some ⟨gv, 0, none⟩) (d + 1) (d + 1)) (d + 1) (nums .i64 (List.replicate (d + 1) 0))) (hne : NeRow vr (.slice (some ⟨gv, 0, none⟩) (d + 1) (d + 1))) :
  FoAt (W.alloc (.cells #[.int .i64 (b : Int), .int .i64 (d : Int), vr, .slice none 0 0, .slice none 0 0, .slice (some ⟨gv, 0, none⟩) (d + 1) (d + 1)] 67)) base W.heap.size b d vr (.slice none 0 0) (.slice none 0 0) (.slice (some ⟨gv, 0, none⟩) (d + 1) (d + 1)) inner (d + 1) (List.replicate inner k) [] [] (List.replicate (d + 1) 0) where
 blk := by simpa using blk_new W (.cells #[.int .i64 (b : Int), .int .i64 (d : Int), vr, .slice none 0 0, .slice none 0 0, .slice (some ⟨gv, 0, none⟩) (d + 1) (d + 1)] 67)
 hg := hb
 r := hr.alloc _
 e := own_nil _ _ _ _
 t := own_nil _ _ _ _
 v := by
  have e : ints (List.replicate (d + 1) 0) = List.replicate (d + 1) (0 : Int) := by simp [ints]
  rw [e]
  exact hv.alloc _
 re := ne_symm (ne_nil _)
 rt := ne_symm (ne_nil _)
 rv := hne
 et := ne_nil _
 ev := ne_nil _
 tv := ne_nil _
def FoOut (w : World) (b d inner : Nat) (S : Es.St) (e' : Ending) (w' : World) : Prop := ∃ g vr ve vt vv, e' = .returned (.tuple #[.pointer (some ⟨g, 0, none⟩), .bool true]) ∧ Below w.heap.size w w' ∧
   FoAt w' w.heap.size g b d vr ve vt vv inner (d + 1) S.rot S.ends S.trips S.vis
theorem pay_in (a lo hi : Int) (x : Bool) (w : World) (h : impl_in.f a lo hi = some x) : Calls Try.prog 73 #[.int .i64 a, .int .i64 lo, .int .i64 hi] w fun e w' => e = .returned (.bool x) ∧ ∃ m, w' = w.drewN m :=
 (impl_in.calls a lo hi x w h).mono fun e w' h => ⟨h.1, h.2.out⟩
set_option maxHeartbeats 4000000 in
set_option maxRecDepth 100000 in
theorem forest_no (a0 a1 a2 a3 : Int) (x y z : Bool) (w : World) (hx : impl_isBranching.f 30 a0 a1 = some x) (hy : impl_in.f a2 0 a0 = some y) (hz : impl_in.f a3 0 200 = some z) (hno : (x && y && z) = false) :
  Calls Try.prog 66 #[.int .i64 a0, .int .i64 a1, .int .i64 a2, .int .i64 a3] w fun e w' => e = .returned (.tuple #[.pointer none, .bool false]) ∧ Below w.heap.size w w' := by
 have HX := Aside0.mk hx
 have HY := Aside0.mk hy
 have HZ := Aside0.mk hz
 clear hx hy hz
 cases x <;> cases y <;> cases z <;> first | (exfalso; exact absurd hno (by decide)) | skip
 all_goals clear hno
 all_goals go_enter Try.func66, Try.ntmps66
 all_goals go_wp2_with (first | (go_at_call 56; (with_reducible refine (impl_isBranching.calls 30 a0 a1 _ _ HX.out).mono ?_); rintro e w' ⟨rfl, ⟨nd, rfl⟩⟩) | (go_at_call 73; first | ((with_reducible refine (pay_in a2 0 a0 _ _ HY.out).mono ?_); rintro e w' ⟨rfl, ⟨nd, rfl⟩⟩) | ((with_reducible refine (pay_in a3 0 200 _ _ HZ.out).mono ?_); rintro e w' ⟨rfl, ⟨nd, rfl⟩⟩)))
 all_goals go_ret2
 all_goals exact ⟨rfl, by repeat (first | exact Below.refl _ _ | apply bN_)⟩
theorem box_new (W : World) (v : Value) : (W.alloc (.cells #[v] 3)).cell? ⟨W.heap.size, 0, none⟩ = some v := (blk_cell (blk_new _ _) 0).trans rfl
theorem box_new' (W : World) (v : Value) (o : Obj) : ((W.alloc o).alloc (.cells #[v] 3)).cell? ⟨W.heap.size + 1, 0, none⟩ = some v := by
 have := box_new (W.alloc o) v
 rwa [show (W.alloc o).heap.size = W.heap.size + 1 by simp] at this
theorem own_madeZ (W : World) (base d : Nat) (hb : base ≤ W.heap.size) (hd : d ≤ 90) : (W.alloc (.cells (madeCells #[.int .i64 0] (d + 1)) 3)).ownsRow base 3 1 (.slice (some ⟨W.heap.size, 0, none⟩) (d + 1) (d + 1)) (d + 1) (nums .i64 (List.replicate (d + 1) 0)) :=
 own_made W base 3 .i64 (d + 1) hb (by omega)
theorem own_madeZ' (W : World) (o : Obj) (base d : Nat) (hb : base ≤ W.heap.size) (hd : d ≤ 90) : ((W.alloc o).alloc (.cells (madeCells #[.int .i64 0] (d + 1)) 3)).ownsRow base 3 1 (.slice (some ⟨W.heap.size + 1, 0, none⟩) (d + 1) (d + 1)) (d + 1) (nums .i64 (List.replicate (d + 1) 0)) := by
 have := own_madeZ (W.alloc o) base d (by simp; omega) hd
 rwa [show (W.alloc o).heap.size = W.heap.size + 1 by simp] at this
theorem fo_after {w X w5 wc : World} {b d inner k g5 c5 g : Nat} (hw : Below w.heap.size w X) (hd : d ≤ 90) (hO : w5.ownsRow X.heap.size 3 1 (.slice (some ⟨g5, 0, none⟩) inner c5) inner (nums .i64 (ints (List.replicate inner k)))) (hB : Below X.heap.size X w5)
  (hg : g = w5.heap.size + 1) (e : wc = ((w5.alloc (.cells (madeCells #[.int .i64 0] (d + 1)) 3)).alloc (.cells #[.int .i64 (b : Int), .int .i64 (d : Int), .slice (some ⟨g5, 0, none⟩) inner c5, .slice none 0 0, .slice none 0 0, .slice (some ⟨w5.heap.size, 0, none⟩) (d + 1) (d + 1)] 67))) :
  ∃ g' vr vv, Value.pointer (some ⟨g, 0, none⟩) = .pointer (some ⟨g', 0, none⟩) ∧ Aside0 (Below w.heap.size w wc) ∧ Aside0 (FoAt wc w.heap.size g' b d vr (.slice none 0 0) (.slice none 0 0) vv inner (d + 1) (List.replicate inner k) [] [] (List.replicate (d + 1) 0)) := by
 subst hg e
 have hs := hw.size
 have hs2 := hB.size
 have h5 := own_weaken hO (base' := w.heap.size) hs
 have hb5 : Below w.heap.size w w5 := below_weaken hw hs hB
 refine ⟨w5.heap.size + 1, .slice (some ⟨g5, 0, none⟩) inner c5, .slice (some ⟨w5.heap.size, 0, none⟩) (d + 1) (d + 1), rfl, ⟨(hb5.alloc (by omega) _).alloc (by simp; omega) _⟩, ⟨?_⟩⟩
 have := FoAt.made (b := b) (k := k) (W := w5.alloc (.cells (madeCells #[.int .i64 0] (d + 1)) 3)) (base := w.heap.size) (by simp; omega) (h5.alloc _) (own_madeZ w5 w.heap.size d (by omega) hd) (ne_symm (ne_made h5))
 simpa using this
theorem fo_before {w X w5 wc : World} {b d inner k g5 c5 g gv : Nat} (hw : Below w.heap.size w X) (hd : d ≤ 90) (hO : w5.ownsRow X.heap.size 3 1 (.slice (some ⟨g5, 0, none⟩) inner c5) inner (nums .i64 (ints (List.replicate inner k)))) (hB : Below X.heap.size X w5)
  (hV : X.ownsRow w.heap.size 3 1 (.slice (some ⟨gv, 0, none⟩) (d + 1) (d + 1)) (d + 1) (nums .i64 (List.replicate (d + 1) 0)))
  (hg : g = w5.heap.size) (e : wc = (w5.alloc (.cells #[.int .i64 (b : Int), .int .i64 (d : Int), .slice (some ⟨g5, 0, none⟩) inner c5, .slice none 0 0, .slice none 0 0, .slice (some ⟨gv, 0, none⟩) (d + 1) (d + 1)] 67))) :
  ∃ g' vr vv, Value.pointer (some ⟨g, 0, none⟩) = .pointer (some ⟨g', 0, none⟩) ∧ Aside0 (Below w.heap.size w wc) ∧ Aside0 (FoAt wc w.heap.size g' b d vr (.slice none 0 0) (.slice none 0 0) vv inner (d + 1) (List.replicate inner k) [] [] (List.replicate (d + 1) 0)) := by
 subst hg e
 have hs := hw.size
 have hs2 := hB.size
 have h5 := own_weaken hO (base' := w.heap.size) hs
 have hb5 : Below w.heap.size w w5 := below_weaken hw hs hB
 exact ⟨w5.heap.size, .slice (some ⟨g5, 0, none⟩) inner c5, .slice (some ⟨gv, 0, none⟩) (d + 1) (d + 1), rfl, ⟨hb5.alloc (by omega) _⟩, ⟨FoAt.made (by omega) h5 (pw_own_below hV hB) (ne_below hO hV)⟩⟩
set_option maxHeartbeats 4000000 in
set_option maxRecDepth 100000 in
theorem forest_yes (b d inner k n : Nat) (S : Es.St) (w : World) (hx : impl_isBranching.f 30 (b : Int) (d : Int) = some true) (hfi : impl_nodesOf.f 30 (b : Int) ((d : Int) - 1) = some (inner : Int)) (hd : d ≤ 90) (hk : k ≤ b)
  (hb : b ≤ 3) (hb2 : 2 ≤ b) (hi : inner ≤ 130) (hi0 : 0 < inner) (hn : n ≤ 200) (hS : Es.chips b inner n (Es.start d inner k) = some S) :
  Calls Try.prog 66 #[.int .i64 (b : Int), .int .i64 (d : Int), .int .i64 (k : Int), .int .i64 (n : Int)] w (FoOut w b d inner S) := by
 have HS := Aside0.mk hS
 have HX := Aside0.mk hx
 have HN := Aside0.mk hfi
 have HY := Aside0.mk (in_yes (k : Int) 0 (b : Int) (by omega)).2
 have HZ := Aside0.mk (in_yes (n : Int) 0 200 (by omega)).2
 have hfi := Aside0.mk hfi
 clear hS hx
 have hmk := print_make (P := Try.prog) 34 3 .i64 8 Try.underlying34 info3 (by decide) (d + 1) (by omega)
 rw [show ((d + 1 : Nat) : Int) = (d : Int) + 1 from by omega] at hmk
 have hw1 : IntKind.i64.wrap ((d : Int) + 1) = (d : Int) + 1 := IntWalk.i64_in _ (by omega)
 have hw2 : IntKind.i64.wrap ((d : Int) - 1) = (d : Int) - 1 := IntWalk.i64_in _ (by omega)
 have hu67 := Try.underlying67
 go_enter Try.func66, Try.ntmps66
 go_upto_region 3 with (first | (go_at_call 56; (with_reducible refine (impl_isBranching.calls 30 b d _ _ HX.out).mono ?_); rintro e w' ⟨rfl, ⟨n1, rfl⟩⟩) | (go_at_call 73; first | ((with_reducible refine (pay_in k 0 b _ _ HY.out).mono ?_); rintro e w' ⟨rfl, ⟨n2, rfl⟩⟩) | ((with_reducible refine (pay_in n 0 200 _ _ HZ.out).mono ?_); rintro e w' ⟨rfl, ⟨n3, rfl⟩⟩)))
 have HW := Aside0.mk (bN_ (Below.refl w.heap.size w) (n1 + n2 + n3))
 have hWs : w.heap.size ≤ (w.drewN (n1 + n2 + n3)).heap.size := Nat.le_refl _
 generalize w.drewN (n1 + n2 + n3) = W at *
 go_cut [10] (fun v10 wc => ∃ g vr vv, v10 = .pointer (some ⟨g, 0, none⟩) ∧ Aside0 (Below w.heap.size w wc) ∧ Aside0 (FoAt wc w.heap.size g b d vr (.slice none 0 0) (.slice none 0 0) vv inner (d + 1) (List.replicate inner k) [] [] (List.replicate (d + 1) 0)))
 case first =>
  go_region_with (first | (go_at_call 57; (with_reducible refine (impl_nodesOf.calls 30 b ((d : Int) - 1) inner _ HN.out).mono ?_); rintro e w' ⟨rfl, ⟨nq, rfl⟩⟩) | (go_at_call 85; refine (repeat_calls _ k inner _ hi0 hi (by first | (simp; done) | (repeat (first | exact box_new _ _ | exact box_new' _ _ _ | apply cell_kept_alloc | apply cell_kept_drewN))) (by first | (simp; done) | (simp; omega))).mono ?_; rintro e w5 ⟨v5, rfl, hO5, hB5⟩; obtain ⟨g5, c5, rfl, hg5, hc5⟩ := hO5.form hi0; have HO5 := Aside0.mk hO5; have HB5 := Aside0.mk hB5; clear hO5 hB5))
  all_goals go_wp2_with (fail)
  all_goals go_meet
  all_goals clear hmk hw1 hw2 hu67
  all_goals (first
   | exact fo_after (by repeat (first | exact HW.out | apply bA_ | apply bN_)) hd HO5.out HB5.out rfl rfl
   | exact fo_before (by repeat (first | exact HW.out | apply bA_ | apply bN_)) hd HO5.out HB5.out (own_move (own_madeZ' W _ _ _ hWs hd) (fun _ _ => rfl)) rfl rfl
   | exact fo_before (by repeat (first | exact HW.out | apply bA_ | apply bN_)) hd HO5.out HB5.out (own_move (own_alloc (own_madeZ W _ _ hWs hd) _) (fun _ _ => rfl)) rfl rfl)
 case rest =>
  obtain ⟨g, vr, vv, rfl, HB, HF⟩ := hcut
  clear HX HN HY HZ hmk
  go_wp2_with (fail)
  go_loopg [41] n (fun kq v41 wr => ∃ (i : Nat) (vr1 ve1 vt1 vv1 : Value) (s : Es.St), v41 = .int .i64 (i : Int) ∧ Aside0 (i + kq = n ∧ Es.chips b inner kq s = some S ∧ s.ends.length = i ∧ s.trips.length = i) ∧ Aside0 (Below w.heap.size w wr) ∧
   Aside0 (FoAt wr w.heap.size g b d vr1 ve1 vt1 vv1 inner (d + 1) s.rot s.ends s.trips s.vis))
  case atStart => exact ⟨0, _, _, _, _, Es.start d inner k, rfl, ⟨by omega, HS.out, rfl, rfl⟩, HB, HF⟩
  case round =>
   clear HB HF HS
   obtain ⟨i, vr1, ve1, vt1, vv1, s, rfl, HI, HB, HF⟩ := hrel
   by_cases hlt : i < n
   rotate_left
   ·have h0 : gk = 0 := by have := HI.out.1; omega
    subst h0
    have hs := HI.out.2.1
    simp only [Es.chips] at hs
    have hs := Option.some.inj hs
    subst hs
    go_wp2_with (fail)
    go_ret2
    exact ⟨_, _, _, _, _, rfl, HB.out, HF.out⟩
   obtain ⟨kq, rfl⟩ : ∃ m, gk = m + 1 := ⟨gk - 1, by have := HI.out.1; omega⟩
   have hc := HI.out.2.1
   simp only [Es.chips] at hc
   cases hch : Es.chip b inner s.rot s.vis with
   | none => rw [hch] at hc; cases hc
   | some q =>
   obtain ⟨e, st, rot1, vis1⟩ := q
   rw [hch] at hc
   have HC2 := Aside0.mk hc
   have HC1 := Aside0.mk hch
   clear hc hch
   go_wp2_with (go_at_call 86; refine (fchip_calls w.heap.size g b d inner vr1 ve1 vt1 vv1 (d + 1) s.rot s.ends s.trips s.vis e st rot1 vis1 _ hb hb2 (by omega) hi0 (by omega) (by have := HI.out; omega) (by have := HI.out; omega) hfi.out (by omega) HF.out HC1.out).mono ?_; rintro e' w2 ⟨rfl, hB, ve2, vt2, hF⟩; have HB2 := Aside0.mk (HB.out.trans hB); have HF2 := Aside0.mk hF; clear hB hF)
   go_roundg kq
   case measure => omega
   case rel => exact ⟨i + 1, _, _, _, _, ⟨rot1, vis1, s.ends ++ [Es.endN e], s.trips ++ [st]⟩, by go_num, ⟨by have := HI.out; omega, HC2.out, by have := HI.out; simp; omega, by have := HI.out; simp; omega⟩, HB2, HF2⟩
end Go.Proofs.Ytmechelmnpoddaa.H7
namespace Go.Proofs.Ytmechelmnpoddaa.H7
open Go.RowKit YtmechelmnpoddaaW.PrintWords YtmechelmnpoddaaW.PrintLast YtmechelmnpoddaaW.PrintMore
open A7
open Es (nth)
theorem forest_not (a0 a1 a2 a3 : Int) (w : World) (h : asked a0 a1 a2 a3 = false) : Calls Try.prog 66 #[.int .i64 a0, .int .i64 a1, .int .i64 a2, .int .i64 a3] w fun e w' => e = .returned (.tuple #[.pointer none, .bool false]) ∧ Below w.heap.size w w' := by
 obtain ⟨N, _, _, h3⟩ := nodes_of a0 a1
 refine forest_no a0 a1 a2 a3 _ _ _ w h3 (in_eq a2 0 a0).2 (in_eq a3 0 200).2 ?_
 unfold asked at h
 rw [← h, ← Bool.decide_and, ← Bool.decide_and]
 exact decide_eq_decide.2 ⟨fun h => ⟨h.1.1, h.1.2.1, h.1.2.2, h.2.1, h.2.2⟩, fun h => ⟨⟨h.1, h.2.1, h.2.2.1⟩, h.2.2.2.1, h.2.2.2.2⟩⟩
theorem forest_asked (a0 a1 a2 a3 : Int) (w : World) (h : asked a0 a1 a2 a3 = true) : ∃ b1 d1, Calls Try.prog 66 #[.int .i64 a0, .int .i64 a1, .int .i64 a2, .int .i64 a3] w (FoOut w b1 d1 (Es.inner b1 d1) (outS a0 a1 a2 a3)) := by
 have hb : branch a0 a1 := by
  have : branch a0 a1 ∧ 0 ≤ a2 ∧ a2 ≤ a0 ∧ 0 ≤ a3 ∧ a3 ≤ 200 := by simpa [asked] using h
  exact this.1
 obtain ⟨b1, d1, k1, n1, N, p, rfl, rfl, rfl, rfl, ht, hk, hn, hT, hc⟩ := asked_tree h
 obtain ⟨N', _, _, h3⟩ := nodes_of (b1 : Int) (d1 : Int)
 rw [decide_eq_true hb] at h3
 exact ⟨b1, d1, forest_yes b1 d1 _ k1 n1 _ w h3 hT.first (by have := hT.d6; omega) hk hT.b3 hT.b2 (by have := hT.few; have := hT.sum; omega) hT.i0 hn hc⟩
def impl_EscapeList.f (a0 a1 a2 a3 : Int) : Option (List Int × Bool) := some (if asked a0 a1 a2 a3 = true then ints (outS a0 a1 a2 a3).ends else [], asked a0 a1 a2 a3)
set_option maxHeartbeats 4000000 in
set_option maxRecDepth 100000 in
theorem impl_EscapeList.walk (a0 a1 a2 a3 : Int) (w : World) : Calls Try.prog 31 #[.int .i64 a0, .int .i64 a1, .int .i64 a2, .int .i64 a3] w (SlOut w (if asked a0 a1 a2 a3 = true then ints (outS a0 a1 a2 a3).ends else []) (asked a0 a1 a2 a3)) := by
 cases hq : asked a0 a1 a2 a3 with
 | false =>
  have HA := fun W => forest_not a0 a1 a2 a3 W hq
  have HA := Aside0.mk HA
  rw [if_neg (by decide)]
  clear hq
  go_enter Try.func31, Try.ntmps31
  go_wp2_with (go_at_call 66; refine (HA.out _).mono ?_; rintro e w' ⟨rfl, hB⟩; have HB := Aside0.mk hB; clear hB)
  go_ret2
  exact slout_no _ _ HB.out
 | true =>
  have HB := fun W => forest_asked a0 a1 a2 a3 W hq
  have HB := Aside0.mk HB
  rw [if_pos rfl]
  clear hq
  go_enter Try.func31, Try.ntmps31
  go_wp2_with (go_at_call 66; obtain ⟨b1, d1, hc⟩ := HB.out w; refine hc.mono ?_; rintro e w1 ⟨g, vr, ve, vt, vv, rfl, hB, hF⟩; have HF := Aside0.mk hF; have HL := Aside0.mk hB; clear hB hF; have c := blk_cell HF.out.blk 3; simp at c)
  go_ret2
  exact ⟨_, rfl, own_R HF.out.e, HL.out⟩
theorem impl_EscapeList.calls (a0 a1 a2 a3 : Int) (r1 : List Int) (r2 : Bool) (w : World) (h : impl_EscapeList.f a0 a1 a2 a3 = some (r1, r2)) :
  Calls Try.prog 31 #[.int .i64 a0, .int .i64 a1, .int .i64 a2, .int .i64 a3] w fun e w' => ∃ v0_ : Value, e = .returned (.tuple #[v0_, .bool r2]) ∧ Kd.R (Kd.int .i64) 3 w' w.heap.size (fun _ => True) v0_ r1 ∧ Below w.heap.size w w' := by
 have e := Option.some.inj h
 injection e with e1 e2
 subst e1 e2
 exact impl_EscapeList.walk a0 a1 a2 a3 w
end Go.Proofs.Ytmechelmnpoddaa.H7
namespace Go.Proofs.Ytmechelmnpoddaa.H7
open Es (nth)
theorem run_len (b inner : Nat) : ∀ (k a l st : Nat) (rot vis : List Nat) e s R V, Es.run b inner k a l st rot vis = some (e, s, R, V) → R.length = rot.length ∧ V.length = vis.length
 | 0, _, _, _, _, _, _, _, _, _, h => by simp [Es.run] at h
 | k + 1, a, l, st, rot, vis, e, s, R, V, h => by
  unfold Es.run at h
  split at h
  ·split at h
   ·split at h
    ·split at h
     ·have := run_len b inner k _ _ _ _ _ _ _ _ _ h
      simpa using this
     ·cases h
    ·split at h
     ·split at h
      ·simp only [Option.some.injEq, Prod.mk.injEq] at h
       obtain ⟨_, _, h1, h2⟩ := h
       subst h1 h2
       simp
      ·cases h
     ·split at h
      ·have := run_len b inner k _ _ _ _ _ _ _ _ _ h
       simpa using this
      ·cases h
   ·cases h
  ·simp only [Option.some.injEq, Prod.mk.injEq] at h
   obtain ⟨_, _, h1, h2⟩ := h
   subst h1 h2
   simp
theorem chips_len (b inner : Nat) : ∀ (n : Nat) (s S : Es.St), Es.chips b inner n s = some S → S.ends.length = s.ends.length + n ∧ S.trips.length = s.trips.length + n ∧ S.rot.length = s.rot.length ∧ S.vis.length = s.vis.length
 | 0, s, S, h => by
  simp only [Es.chips, Option.some.injEq] at h
  subst h
  simp
 | n + 1, s, S, h => by
  unfold Es.chips at h
  split at h
  ·cases h
  ·rename_i e st rot vis hc
   have h1 := chips_len b inner n _ _ h
   unfold Es.chip at hc
   split at hc
   ·have h2 := run_len _ _ _ _ _ _ _ _ _ _ _ _ hc
    simp at h1 h2
    omega
   ·cases hc
theorem out_len {b d k n : Int} (h : asked b d k n = true) : (outS b d k n).ends.length ≤ 200 ∧ (outS b d k n).trips.length ≤ 200 ∧ (outS b d k n).rot.length ≤ 130 ∧ (outS b d k n).vis.length ≤ 7 := by
 obtain ⟨b1, d1, k1, n1, N, p, rfl, rfl, rfl, rfl, ht, hk, hn, hT, hc⟩ := asked_tree h
 have h1 := chips_len _ _ _ _ _ hc
 have := hT.few
 have := hT.sum
 have := hT.d6
 simp [Es.start] at h1
 omega
theorem list_len (b d k n : Int) (g : Es.St → List Nat) (hg : ∀ s : Es.St, (g s).length = s.ends.length ∨ (g s).length = s.trips.length ∨ (g s).length = s.rot.length ∨ (g s).length = s.vis.length) :
  (if asked b d k n = true then ints (g (outS b d k n)) else []).length ≤ 200 := by
 by_cases h : asked b d k n = true
 rotate_left
 ·rw [if_neg h]
  simp
 rw [if_pos h]
 have := out_len h
 have := hg (outS b d k n)
 simp only [ints, List.length_map]
 omega
end Go.Proofs.Ytmechelmnpoddaa.H7
namespace Go.Proofs.Ytmechelmnpoddaa.H7
open Go.RowKit YtmechelmnpoddaaW.PrintWords YtmechelmnpoddaaW.PrintLast
open A7
theorem wrap_id {x : Int} (h0 : -9223372036854775808 ≤ x) (h1 : x ≤ 9223372036854775807) : wrap64 x = x := by unfold wrap64; omega
theorem rd_at (l : List Int) (i : Nat) (h : i < l.length) : rd l (i : Int) = l[i] := by
 unfold rd
 rw [Int.toNat_natCast, List.getD_eq_getElem?_getD, List.getElem?_eq_getElem h]
 rfl
def sumI : List Int → Int
 | [] => 0
 | x :: t => x + sumI t
def absI : List Int → Int
 | [] => 0
 | x :: t => (if x < 0 then -x else x) + absI t
theorem absI_nonneg (l : List Int) : 0 ≤ absI l := by
 induction l with
 | nil => simp [absI]
 | cons x t ih => simp only [absI]; split <;> omega
theorem sum_abs (l : List Int) : -absI l ≤ sumI l ∧ sumI l ≤ absI l := by
 induction l with
 | nil => simp [absI, sumI]
 | cons x t ih => simp only [absI, sumI]; split <;> omega
theorem drop_step (l : List Int) (i : Nat) (h : i < l.length) : l.drop i = l[i] :: l.drop (i + 1) := List.drop_eq_getElem_cons h
theorem sum_loop (l0 : Nat → Int → List Int → Int → Int → Option Int)
  (hl : ∀ k x3 x6 x7 x8, l0 (k + 1) x3 x6 x7 x8 = if x8 < x7 then (if 0 ≤ x8 then (if x8 < (x6.length : Int) then (l0 k (wrap64 (x3 + (rd x6 x8))) x6 x7 (wrap64 (x8 + 1))) else (none)) else (none)) else (some x3))
  (l : List Int) (hn : l.length ≤ 1000000000000) (d : Nat) : ∀ (k i : Nat) (a : Int), i + d = l.length → d < k → (0 ≤ a ∧ a + absI (l.drop i) ≤ 4611686018427387904 ∨ -4611686018427387904 ≤ a - absI (l.drop i) ∧ a + absI (l.drop i) ≤ 4611686018427387904) →
   l0 k a l (l.length : Int) (i : Int) = some (a + sumI (l.drop i)) := by
 induction d with
 | zero =>
  intro k i a hi hk hb
  obtain ⟨k, rfl⟩ : ∃ m, k = m + 1 := ⟨k - 1, by omega⟩
  rw [hl, if_neg (by omega), List.drop_of_length_le (by omega)]
  simp [sumI]
 | succ d ih =>
  intro k i a hi hk hb
  obtain ⟨k, rfl⟩ : ∃ m, k = m + 1 := ⟨k - 1, by omega⟩
  have hlt : i < l.length := by omega
  have hx : absI (l.drop i) = (if l[i] < 0 then -l[i] else l[i]) + absI (l.drop (i + 1)) := by rw [drop_step l i hlt]; rfl
  have hy : sumI (l.drop i) = l[i] + sumI (l.drop (i + 1)) := by rw [drop_step l i hlt]; rfl
  have h0 := absI_nonneg (l.drop (i + 1))
  rw [hl, if_pos (by omega), if_pos (by omega), if_pos (by omega), rd_at l i hlt]
  have e1 : wrap64 (a + l[i]) = a + l[i] := wrap_id (by split at hx <;> omega) (by split at hx <;> omega)
  have e2 : wrap64 ((i : Int) + 1) = ((i + 1 : Nat) : Int) := by rw [wrap_id (by omega) (by omega)]; omega
  rw [e1, e2, ih k (i + 1) (a + l[i]) (by omega) (by omega) (by right; split at hx <;> omega), hy, Int.add_assoc]
theorem chSum_eq (l : List Int) (hn : l.length ≤ 1000000000000) (hb : absI l ≤ 4611686018427387904) : spec_chSum.f (l.length + 1) l = some (sumI l) := by
 have h := sum_loop spec_chSum.l0 (fun _ _ _ _ _ => rfl) l hn l.length (l.length + 1) 0 0 (by omega) (by omega) (by left; simpa using hb)
 unfold spec_chSum.f
 simpa using h
theorem sum_eq (l : List Int) (hn : l.length ≤ 1000000000000) (hb : absI l ≤ 4611686018427387904) : impl_sum.f (l.length + 1) l = some (sumI l) := by
 have h := sum_loop impl_sum.l0 (fun _ _ _ _ _ => rfl) l hn l.length (l.length + 1) 0 0 (by omega) (by omega) (by left; simpa using hb)
 unfold impl_sum.f
 simpa using h
end Go.Proofs.Ytmechelmnpoddaa.H7
namespace Go.Proofs.Ytmechelmnpoddaa.H7
open Go.RowKit YtmechelmnpoddaaW.PrintWords YtmechelmnpoddaaW.PrintLast YtmechelmnpoddaaW.PrintMore
open A7
open Es (nth)
theorem run_steps (b inner : Nat) : ∀ (k a l st : Nat) (rot vis : List Nat) e s R V, st ≤ 100000 → Es.run b inner k a l st rot vis = some (e, s, R, V) → s ≤ 100000
 | 0, _, _, _, _, _, _, _, _, _, _, h => by simp [Es.run] at h
 | k + 1, a, l, st, rot, vis, e, s, R, V, h0, h => by
  unfold Es.run at h
  split at h
  ·split at h
   ·rename_i hs
    split at h
    ·split at h
     ·exact run_steps b inner k _ _ _ _ _ _ _ _ _ (by omega) h
     ·cases h
    ·split at h
     ·split at h
      ·simp only [Option.some.injEq, Prod.mk.injEq] at h
       omega
      ·cases h
     ·split at h
      ·exact run_steps b inner k _ _ _ _ _ _ _ _ _ (by omega) h
      ·cases h
   ·cases h
  ·simp only [Option.some.injEq, Prod.mk.injEq] at h
   omega
theorem chips_small (b inner : Nat) : ∀ (n : Nat) (s S : Es.St), Es.chips b inner n s = some S → (∀ x ∈ s.ends, x ≤ 1) → (∀ x ∈ s.trips, x ≤ 100000) → (∀ x ∈ S.ends, x ≤ 1) ∧ (∀ x ∈ S.trips, x ≤ 100000)
 | 0, s, S, h, h1, h2 => by
  simp only [Es.chips, Option.some.injEq] at h
  subst h
  exact ⟨h1, h2⟩
 | n + 1, s, S, h, h1, h2 => by
  unfold Es.chips at h
  split at h
  ·cases h
  ·rename_i e st rot vis hc
   refine chips_small b inner n _ _ h ?_ ?_
   ·intro x hx
    rw [List.mem_append] at hx
    rcases hx with hx | hx
    ·exact h1 x hx
    ·simp only [List.mem_singleton] at hx
     subst hx
     cases e <;> decide
   ·intro x hx
    rw [List.mem_append] at hx
    rcases hx with hx | hx
    ·exact h2 x hx
    ·simp only [List.mem_singleton] at hx
     subst hx
     unfold Es.chip at hc
     split at hc
     ·exact run_steps _ _ _ _ _ _ _ _ _ _ _ _ (by omega) hc
     ·cases hc
theorem out_small {b d k n : Int} (h : asked b d k n = true) : (∀ x ∈ (outS b d k n).ends, x ≤ 1) ∧ (∀ x ∈ (outS b d k n).trips, x ≤ 100000) := by
 obtain ⟨b1, d1, k1, n1, N, p, rfl, rfl, rfl, rfl, ht, hk, hn, hT, hc⟩ := asked_tree h
 exact chips_small _ _ _ _ _ hc (by simp [Es.start]) (by simp [Es.start])
theorem absI_small (B : Nat) : ∀ (l : List Nat), (∀ x ∈ l, x ≤ B) → absI (ints l) ≤ (l.length * B : Nat)
 | [], _ => by simp [ints, absI]
 | x :: t, h => by
  have h1 := absI_small B t (fun y hy => h y (List.mem_cons_of_mem _ hy))
  have h2 := h x List.mem_cons_self
  rw [show ints (x :: t) = (x : Int) :: ints t from rfl]
  simp only [absI, List.length_cons]
  rw [if_neg (by omega), Nat.succ_mul]
  omega
theorem ends_abs {b d k n : Int} (h : asked b d k n = true) : absI (ints (outS b d k n).ends) ≤ 200 := by
 have h1 := absI_small 1 _ (out_small h).1
 have h2 := (out_len h).1
 omega
theorem ints_len (l : List Nat) : (ints l).length = l.length := by simp [ints]
def sumE (a0 a1 a2 a3 : Int) : Int := sumI (ints (outS a0 a1 a2 a3).ends)
def spec_EscapesOf.f (a0 a1 a2 a3 : Int) : Option (Int × Bool) := some (if asked a0 a1 a2 a3 = true then sumE a0 a1 a2 a3 else 0, asked a0 a1 a2 a3)
set_option maxHeartbeats 4000000 in
set_option maxRecDepth 100000 in
theorem spec_EscapesOf.walk (a0 a1 a2 a3 : Int) (w : World) : Calls Try.prog 24 #[.int .i64 a0, .int .i64 a1, .int .i64 a2, .int .i64 a3] w fun e w' => e = .returned (.tuple #[.int .i64 (if asked a0 a1 a2 a3 = true then sumE a0 a1 a2 a3 else 0), .bool (asked a0 a1 a2 a3)]) ∧ Below w.heap.size w w' := by
 have HA := Aside0.mk (asked_eq a0 a1 a2 a3)
 cases hq : asked a0 a1 a2 a3 with
 | false =>
  rw [hq] at HA
  rw [if_neg (by decide)]
  clear hq
  go_enter Try.func24, Try.ntmps24
  go_wp2_with (go_at_call 61; (with_reducible refine (spec_esAsked.calls 30 a0 a1 a2 a3 false _ HA.out).mono ?_); rintro e w' ⟨rfl, ⟨nd, rfl⟩⟩)
  go_ret2
  exact ⟨rfl, bN_ (Below.refl _ _) _⟩
 | true =>
  have HB := fun W => go_asked a0 a1 a2 a3 W hq
  have HB := Aside0.mk HB
  have HS := chSum_eq (ints (outS a0 a1 a2 a3).ends) (by have := (out_len hq).1; rw [ints_len]; omega) (by have := ends_abs hq; omega)
  have HS := Aside0.mk HS
  rw [hq] at HA
  rw [if_pos rfl]
  clear hq
  go_enter Try.func24, Try.ntmps24
  go_wp2_with (first | (go_at_call 61; (with_reducible refine (spec_esAsked.calls 30 a0 a1 a2 a3 true _ HA.out).mono ?_); rintro e w' ⟨rfl, ⟨nd, rfl⟩⟩) | (go_at_call 63; obtain ⟨b1, d1, hc⟩ := HB.out (w.drewN nd); refine hc.mono ?_; rintro e w1 ⟨g, vr, ve, vt, vv, rfl, hB, hF⟩; obtain ⟨A, cA, rfl, hle, hC⟩ := Kd.R_reads (own_R hF.e); have HF := Aside0.mk hF; have HC := Aside0.mk hC; have HL := Aside0.mk ((bN_ (Below.refl w.heap.size w) nd).trans hB); clear hB hF hC; have c := blk_cell HF.out.blk 4; simp at c) | (go_at_call 62; (with_reducible refine (spec_chSum.calls _ A cA _ _ _ HC.out hle HS.out).mono ?_); rintro e w' ⟨rfl, ⟨nd2, rfl⟩⟩))
  go_ret2
  exact ⟨rfl, bN_ HL.out _⟩
theorem spec_EscapesOf.calls (a0 a1 a2 a3 r1 : Int) (r2 : Bool) (w : World) (h : spec_EscapesOf.f a0 a1 a2 a3 = some (r1, r2)) :
  Calls Try.prog 24 #[.int .i64 a0, .int .i64 a1, .int .i64 a2, .int .i64 a3] w fun e w' => e = .returned (.tuple #[.int .i64 r1, .bool r2]) ∧ Below w.heap.size w w' := by
 have e := Option.some.inj h
 injection e with e1 e2
 subst e1 e2
 exact spec_EscapesOf.walk a0 a1 a2 a3 w
end Go.Proofs.Ytmechelmnpoddaa.H7
namespace Go.Proofs.Ytmechelmnpoddaa.H7
open Go.RowKit YtmechelmnpoddaaW.PrintWords YtmechelmnpoddaaW.PrintLast YtmechelmnpoddaaW.PrintMore
open A7
open Es (nth)
def absW (x : Int) : Int := if x > wrap64 (-x) then x else wrap64 (-x)
theorem l1Abs_eq (x : Int) : spec_l1Abs.f x = some (absW x) := by
 unfold spec_l1Abs.f spec_l1Most.f absW
 split <;> rfl
def gapNum (a0 a1 a2 a3 : Int) (p : Int) : Int := absW (wrap64 (wrap64 (sumE a0 a1 a2 a3 * wrap64 (wrap64 (a0 * p) - 1)) - wrap64 (a3 * wrap64 (wrap64 (a0 - 1) * p))))
def spec_EscapeGap.f (k : Nat) (a0 a1 a2 a3 : Int) : Option (Int × Int × Bool) :=
 if asked a0 a1 a2 a3 = true then (spec_esPower.f 30 a0 a1).bind fun p => (spec_hiRatio.f k (gapNum a0 a1 a2 a3 p) (wrap64 (wrap64 (a0 * p) - 1))).bind fun r => some (r.1, r.2, true) else some (0, 0, false)
set_option maxHeartbeats 4000000 in
set_option maxRecDepth 100000 in
theorem spec_EscapeGap.calls (k : Nat) (a0 a1 a2 a3 : Int) (r1 r2 : Int) (r3 : Bool) (w : World) (h : spec_EscapeGap.f k a0 a1 a2 a3 = some (r1, r2, r3)) :
  Calls Try.prog 43 #[.int .i64 a0, .int .i64 a1, .int .i64 a2, .int .i64 a3] w fun e w' => e = .returned (.tuple #[.agg #[.int .i64 r1, .int .i64 r2], .bool r3]) ∧ Below w.heap.size w w' := by
 have HA := Aside0.mk (asked_eq a0 a1 a2 a3)
 unfold spec_EscapeGap.f at h
 have hu26 := Try.underlying26
 cases hq : asked a0 a1 a2 a3 with
 | false =>
  rw [hq] at HA h
  rw [if_neg (by decide)] at h
  obtain ⟨rfl, rfl, rfl⟩ : 0 = r1 ∧ 0 = r2 ∧ false = r3 := by simpa using h
  clear hq h
  go_enter Try.func43, Try.ntmps43
  go_wp2_with (go_at_call 61; (with_reducible refine (spec_esAsked.calls 30 a0 a1 a2 a3 false _ HA.out).mono ?_); rintro e w' ⟨rfl, ⟨nd, rfl⟩⟩)
  refine bodyPost_ret (v := .tuple #[.agg #[.int .i64 0, .int .i64 0], .bool false]) (by simp [results, Try.results43, go_sem]) rfl ⟨rfl, ?_⟩
  repeat (first | exact Below.refl _ _ | apply bN_ | apply bA_ | (refine bS_ ?_ ?_))
  all_goals simp
 | true =>
  rw [hq] at HA h
  rw [if_pos rfl] at h
  obtain ⟨p, hp, h⟩ := Option.bind_eq_some_iff.1 h
  obtain ⟨⟨u, v⟩, hu, h⟩ := Option.bind_eq_some_iff.1 h
  obtain ⟨rfl, rfl, rfl⟩ : u = r1 ∧ v = r2 ∧ true = r3 := by simpa using h
  have HP := Aside0.mk hp
  have HB := fun W => go_asked a0 a1 a2 a3 W hq
  replace HB := Aside0.mk HB
  have hse : sumI (ints (outS a0 a1 a2 a3).ends) = sumE a0 a1 a2 a3 := rfl
  have HS := chSum_eq (ints (outS a0 a1 a2 a3).ends) (by have := (out_len hq).1; rw [ints_len]; omega) (by have := ends_abs hq; omega)
  rw [hse] at HS
  replace HS := Aside0.mk HS
  unfold gapNum at hu
  generalize sumE a0 a1 a2 a3 = sm at *
  have HT := Aside0.mk (l1Abs_eq (wrap64 (wrap64 (sm * wrap64 (wrap64 (a0 * p) - 1)) - wrap64 (a3 * wrap64 (wrap64 (a0 - 1) * p)))))
  have HU := Aside0.mk hu
  generalize absW (wrap64 (wrap64 (sm * wrap64 (wrap64 (a0 * p) - 1)) - wrap64 (a3 * wrap64 (wrap64 (a0 - 1) * p)))) = nm at *
  clear hq h hp hu hse
  go_enter Try.func43, Try.ntmps43
  go_wp2_with (first | (go_at_call 61; (with_reducible refine (spec_esAsked.calls 30 a0 a1 a2 a3 true _ HA.out).mono ?_); rintro e w' ⟨rfl, ⟨nd, rfl⟩⟩) | (go_at_call 59; (with_reducible refine (spec_esPower.calls 30 a0 a1 p _ HP.out).mono ?_); rintro e w' ⟨rfl, ⟨nd3, rfl⟩⟩) | (go_at_call 63; obtain ⟨b1, d1, hc⟩ := HB.out _; refine hc.mono ?_; rintro e w1 ⟨g, vr, ve, vt, vv, rfl, hB, hF⟩; obtain ⟨A, cA, rfl, hle, hC⟩ := Kd.R_reads (own_R hF.e); have HF := Aside0.mk hF; have HC := Aside0.mk hC; have HL := Aside0.mk hB; have BK := Aside0.mk ((hB.block w.heap.size (by simp)).trans (blk_new w (.cells #[.int .i64 0, .int .i64 0] 26))); have hz := hB.size; simp at hz; clear hB hF hC; have c := blk_cell HF.out.blk 4; simp at c) | (go_at_call 62; (with_reducible refine (spec_chSum.calls _ A cA _ _ _ HC.out hle HS.out).mono ?_); rintro e w' ⟨rfl, ⟨nd2, rfl⟩⟩) | (go_at_call 76; (with_reducible refine (spec_l1Abs.calls _ nm _ HT.out).mono ?_); rintro e w' ⟨rfl, ⟨nd4, rfl⟩⟩) | (go_at_call 58; (with_reducible refine (spec_hiRatio.calls k _ _ u v _ HU.out).mono ?_); rintro e w2 ⟨rfl, hB2⟩; have BK2 := (hB2.block w.heap.size (by simp; omega)).trans BK.out; have k0 := blk_cell BK2 0; have k1 := blk_cell BK2 1; have fz := kF_ BK2; simp at k0 k1; have BK2 := Aside0.mk BK2; have HB2 := Aside0.mk hB2; clear hB2))
  refine bodyPost_ret (v := .tuple #[.agg #[.int .i64 u, .int .i64 v], .bool true]) (by simp [results, Try.results43, go_sem, k0, k1]) rfl ⟨rfl, ?_⟩
  refine bS_ (bS_ ?_ (Nat.le_refl _)) (Nat.le_refl _)
  exact below_then (by repeat (first | apply bN_ | exact below_then (by repeat (first | exact Below.refl _ _ | apply bN_ | apply bA_)) (by simp) HL.out)) (by simp; omega) HB2.out
end Go.Proofs.Ytmechelmnpoddaa.H7
namespace Go.Proofs.Ytmechelmnpoddaa.E7
open Go.RowKit YtmechelmnpoddaaW.PrintWords YtmechelmnpoddaaW.PrintLast YtmechelmnpoddaaW.PrintMore
open A7 H7
attribute [local go_sem] max2_int min2_int max_two min_two max_three min_three max_four min_four
def errW : Option Int → Value
 | none => .nilIface
 | some c => .iface 0 (.int .i64 c)
theorem errW_none : errW none = .nilIface := rfl
theorem errW_some (c : Int) : errW (some c) = .iface 0 (.int .i64 c) := rfl
end Go.Proofs.Ytmechelmnpoddaa.E7
namespace Go.Proofs.Ytmechelmnpoddaa.E7
open Go.RowKit YtmechelmnpoddaaW.PrintWords YtmechelmnpoddaaW.PrintLast YtmechelmnpoddaaW.PrintMore
open A7 H7
attribute [local go_sem] max2_int min2_int max_two min_two max_three min_three max_four min_four
def impl_EscapesOf.f (k : Nat) (a0 : Int) (a1 : Int) (a2 : Int) (a3 : Int) : Option (Int × Bool) := (impl_EscapeList.f a0 a1 a2 a3).bind fun bt130 => ((impl_sum.f k bt130.1).bind fun t134 => (some (t134, bt130.2)))
theorem impl_EscapesOf.mono : ∀ a0 a1 a2 a3 k, LeO (impl_EscapesOf.f k a0 a1 a2 a3) (impl_EscapesOf.f (k + 1) a0 a1 a2 a3) := by
 intro a0 a1 a2 a3 k
 unfold impl_EscapesOf.f
 repeat' first
   | (with_reducible exact impl_sum.mono _ _)
   | (with_reducible exact LeO.refl _)
   | (with_reducible exact LeO.none _)
   | (with_reducible refine LeO.ite ?_ ?_)
   | (with_reducible refine LeO.bind ?_ (fun _ => ?_))
   | exact impl_sum.mono _ _
   | exact LeO.none _
   | refine LeO.ite ?_ ?_
   | refine LeO.bind ?_ (fun _ => ?_)
set_option maxHeartbeats 8000000 in
set_option maxRecDepth 100000 in
theorem impl_EscapesOf.calls (k : Nat) (a0 : Int) (a1 : Int) (a2 : Int) (a3 : Int) (r1 : Int) (r2 : Bool) (w : World) (h : impl_EscapesOf.f k a0 a1 a2 a3 = some (r1, r2)) :
  Calls Try.prog 25 #[.int .i64 a0, .int .i64 a1, .int .i64 a2, .int .i64 a3] w fun e w' => e = .returned (.tuple #[.int .i64 r1, .bool r2]) ∧ Below w.heap.size w w' := by
 have HB := Aside0.mk (Below.refl w.heap.size w)
 have H : ((impl_EscapeList.f a0 a1 a2 a3).bind fun bt130 => ((impl_sum.f k bt130.1).bind fun t134 => (some (t134, bt130.2)))) = some (r1, r2) := h
 clear h
 replace H := Option.bind_eq_some_iff.mp H
 obtain ⟨⟨t130, t131⟩, A50, H⟩ := H
 replace H : ((impl_sum.f k t130).bind fun t134 => (some (t134, t131))) = some (r1, r2) := H
 have A5 := Aside0.mk A50
 clear A50
 replace H := Option.bind_eq_some_iff.mp H
 obtain ⟨t134, A60, H⟩ := H
 replace H : (some (t134, t131)) = some (r1, r2) := H
 have A6 := Aside0.mk A60
 clear A60
 simp only [Option.some.injEq, Prod.mk.injEq] at H
 obtain ⟨rfl, rfl⟩ := H
 go_enter Try.func25, Try.ntmps25
 go_wp2_with (first | ((with_reducible refine gate_callee (f := 31) rfl ?_); refine goesL_ (some 17) rfl rfl Try.func31 (by kernel_rfl) rfl #[.int .i64 a0, .int .i64 a1, .int .i64 a2, .int .i64 a3] rfl (by (try simp only [List.map_toArray, List.map_cons, List.map_nil]); first | done | rfl | (simp only [List.length_drop, List.length_take]; rfl)) ?_; (with_reducible refine (impl_EscapeList.calls a0 a1 a2 a3 t130 t131 _ A5.out).mono ?_); rintro e w7 ⟨v132, rfl, ho0, hb⟩; refine ⟨_, rfl, ?_⟩; have n0_ := Aside0.mk (Kd.R_lower ho0 (bZ_ (by repeat (first | (with_reducible first | exact HB.out | apply bA_ | apply bN_ | apply bD_) | exact HB.out)))); have n1_ := Aside0.mk (bP_ (by repeat (first | (with_reducible first | exact HB.out | apply bA_ | apply bN_ | apply bD_) | exact HB.out)) hb); clear HB; have HO133 := n0_; have HB := n1_; clear n0_ n1_; (try clear hb); (try clear hb2); (try clear hk); (try clear hi); (try clear ho0); obtain ⟨Ao8, co8, eo8⟩ := Kd.R_slice HO133.out; subst eo8) | ((with_reducible refine gate_callee (f := 64) rfl ?_); refine goesL_ (some 21) rfl rfl Try.func64 (by kernel_rfl) rfl #[.slice Ao8 t130.length co8] rfl (by (try simp only [List.map_toArray, List.map_cons, List.map_nil]); first | done | rfl | (simp only [List.length_drop, List.length_take]; rfl)) ?_; (with_reducible refine (impl_sum.calls k _ _ t130 t134 _ ?side1 ?side2 A6.out).mono ?_); (case side1 => repeat (first | exact (Kd.R_reads' HO133.out).2.2 | (with_reducible refine Kd.C_alloc ?_ _) | (with_reducible refine Kd.C_drewN ?_ _) | (with_reducible refine Kd.C_drew ?_))); (case side2 => exact (Kd.R_reads' HO133.out).2.1); rintro e w' ⟨rfl, ⟨nd, rfl⟩⟩; refine ⟨_, rfl, ?_⟩))
 go_ret2
 exact ⟨by first | rfl | (simp [errW_none, errW_some] <;> rfl) | (simp [*, errW_none, errW_some] <;> rfl), by repeat (first | (with_reducible first | exact HB.out | apply bA_ | apply bN_ | apply bD_) | exact HB.out)⟩
def impl_EscapeGap.f (k : Nat) (a0 : Int) (a1 : Int) (a2 : Int) (a3 : Int) : Option (Int × Int × Bool) := (impl_EscapesOf.f k a0 a1 a2 a3).bind fun bt143 => (if bt143.2 = true then ((impl_escapeChance.f k a0 a1).bind fun bt145 => ((impl_size.f (wrap64 ((wrap64 (bt143.1 * bt145.2)) - (wrap64 (a3 * bt145.1))))).bind fun t148 => ((impl_ratio.f k t148 bt145.2).bind fun bt149 => (some (bt149.1, bt149.2, true))))) else (some (0, 0, false)))
def impl_EscapeGap.T5 : Bool × List (List Nat × List Nat) := (true, [([], []), ([], []), ([1], [1]), ([0, 2], [0, 2]), ([], []), ([], []), ([5], [5]), ([4, 6], [4, 6]), ([3, 7], [3, 7]), ([8], [8]), ([], []), ([10], [10]), ([9, 11, 9], [9, 11]), ([12, 12, 0, 1, 2, 3, 4, 5, 6, 7, 8, 9, 10, 11, 12], [12]), ([13, 0, 1, 2, 3, 4, 5, 6, 7, 8, 9, 10, 11, 12, 13], [])])
def impl_EscapeGap.B5 : List Nat := [0, 0, 2, 7, 0, 0, 32, 112, 255, 511, 0, 1024, 4095, 8191, 16383]
theorem impl_EscapeGap.tab5 : rtab .any (opsOf Try.f44 5) = impl_EscapeGap.T5 := by kernel_rfl
theorem impl_EscapeGap.bits5 : waitsOk impl_EscapeGap.T5.2 impl_EscapeGap.B5 = true := by kernel_rfl
set_option maxHeartbeats 8000000 in
set_option maxRecDepth 100000 in
theorem impl_EscapeGap.calls (k : Nat) (a0 : Int) (a1 : Int) (a2 : Int) (a3 : Int) (r1 : Int) (r2 : Int) (r3 : Bool) (w : World) (h : impl_EscapeGap.f k a0 a1 a2 a3 = some (r1, r2, r3)) :
  Calls Try.prog 44 #[.int .i64 a0, .int .i64 a1, .int .i64 a2, .int .i64 a3] w fun e w' => e = .returned (.tuple #[.agg #[.int .i64 r1, .int .i64 r2], .bool r3]) ∧ Below w.heap.size w w' := by
 have hu26 := Try.underlying26
 have HB := Aside0.mk (Below.refl w.heap.size w)
 have H : ((impl_EscapesOf.f k a0 a1 a2 a3).bind fun bt143 => (if bt143.2 = true then ((impl_escapeChance.f k a0 a1).bind fun bt145 => ((impl_size.f (wrap64 ((wrap64 (bt143.1 * bt145.2)) - (wrap64 (a3 * bt145.1))))).bind fun t148 => ((impl_ratio.f k t148 bt145.2).bind fun bt149 => (some (bt149.1, bt149.2, true))))) else (some (0, 0, false)))) = some (r1, r2, r3) := h
 clear h
 replace H := Option.bind_eq_some_iff.mp H
 obtain ⟨⟨t143, t144⟩, A50, H⟩ := H
 replace H : (if t144 = true then ((impl_escapeChance.f k a0 a1).bind fun bt145 => ((impl_size.f (wrap64 ((wrap64 (t143 * bt145.2)) - (wrap64 (a3 * bt145.1))))).bind fun t148 => ((impl_ratio.f k t148 bt145.2).bind fun bt149 => (some (bt149.1, bt149.2, true))))) else (some (0, 0, false))) = some (r1, r2, r3) := H
 have A5 := Aside0.mk A50
 clear A50
 by_cases c6 : t144 = true
 rotate_left
 ·replace c6 := Bool.eq_false_iff.mpr c6
  subst c6
  have H1 : (some (0, 0, false)) = some (r1, r2, r3) := by rw [if_neg (show ¬ (false = true) by decide)] at H; exact H
  clear H
  have H := H1
  clear H1
  simp only [Option.some.injEq, Prod.mk.injEq] at H
  obtain ⟨rfl, rfl, rfl⟩ := H
  go_enter Try.func44, Try.ntmps44
  go_wp2_with (first | ((with_reducible refine gate_dst (N := 8) rfl ?_); refine box_event ?hg (N := 8) ?hd (cs := #[.int .i64 0, .int .i64 0]) (t := 26) ?hr ?_; (case hd => rfl); (case hg => rfl); (case hr => first | (go_simp; done) | (go_simp; rfl)); intro gb142 hg w22 hbox hb; have n0_ := Aside0.mk (bP_ (by repeat (first | (with_reducible first | exact HB.out | apply bA_ | apply bN_ | apply bD_) | exact HB.out)) hb); have n1_ := Aside0.mk (hbox); have n2_ := Aside0.mk ((by rw [hg]; exact (bZ_ (by repeat (first | (with_reducible first | exact HB.out | apply bA_ | apply bN_ | apply bD_) | exact HB.out))) : w.heap.size ≤ gb142)); have n3_ := Aside0.mk ((by rw [hg]; exact (bZ_ (by repeat (first | (with_reducible first | exact HB.out | apply bA_ | apply bN_ | apply bD_) | exact HB.out))) : w.heap.size ≤ gb142)); clear HB; have HB := n0_; have BK142 := n1_; have GW142 := n2_; have GE142 := n3_; clear n0_ n1_ n2_ n3_; clear hb hbox hg) | ((with_reducible refine gate_callee (f := 25) rfl ?_); refine goesL_ (some 18) rfl rfl Try.func25 (by kernel_rfl) rfl #[.int .i64 a0, .int .i64 a1, .int .i64 a2, .int .i64 a3] rfl (by (try simp only [List.map_toArray, List.map_cons, List.map_nil]); first | done | rfl | (simp only [List.length_drop, List.length_take]; rfl)) ?_; (with_reducible refine (impl_EscapesOf.calls k a0 a1 a2 a3 t143 false _ A5.out).mono ?_); rintro e w23 ⟨rfl, hb⟩; refine ⟨_, rfl, ?_⟩; have n0_ := Aside0.mk (blk_below (g := gb142) (o := .cells #[.int .i64 0, .int .i64 0] 26 (0, 0)) (by (with_reducible repeat (first | apply kN_ | apply kD_ | apply kA_)); exact BK142.out) hb); have n1_ := Aside0.mk (bP_ (by repeat (first | (with_reducible first | exact HB.out | apply bA_ | apply bN_ | apply bD_ | refine bS_ ?_ GE142.out) | exact HB.out)) hb); clear BK142; clear HB; have BK142 := n0_; have HB := n1_; clear n0_ n1_; (try clear hb); (try clear hb2); (try clear hk); (try clear hi); have hcz24_0 : w23.cell? ⟨gb142, 0, none⟩ = some (.int .i64 0) := (blk_cell BK142.out 0).trans rfl; have hcz24_1 : w23.cell? ⟨gb142, 1, none⟩ = some (.int .i64 0) := (blk_cell BK142.out 1).trans rfl; have hfz24_0 := kF_ BK142.out 0; have hfz24_1 := kF_ BK142.out 1))
  refine bodyPost_ret (results_ct rfl _ _ gb142 26 #[.int .i64 0, .int .i64 0] (0, 0) _ rfl (by (with_reducible repeat (first | apply kN_ | apply kD_ | apply kA_)); refine blk_put (cs := #[.int .i64 0, .int .i64 0]) ?_ 1 _ rfl; (with_reducible repeat (first | apply kN_ | apply kD_ | apply kA_)); refine blk_put (cs := #[.int .i64 0, .int .i64 0]) ?_ 0 _ rfl; (with_reducible repeat (first | apply kN_ | apply kD_ | apply kA_)); exact BK142.out) Try.underlying26 rfl (by kernel_rfl)) rfl ?_
  exact ⟨by first | rfl | (simp [errW_none, errW_some] <;> rfl) | (simp [*, errW_none, errW_some] <;> rfl), by repeat (first | (with_reducible first | exact HB.out | apply bA_ | apply bN_ | apply bD_ | refine bS_ ?_ GE142.out) | exact HB.out)⟩
 subst c6
 have H1 : ((impl_escapeChance.f k a0 a1).bind fun bt145 => ((impl_size.f (wrap64 ((wrap64 (t143 * bt145.2)) - (wrap64 (a3 * bt145.1))))).bind fun t148 => ((impl_ratio.f k t148 bt145.2).bind fun bt149 => (some (bt149.1, bt149.2, true))))) = some (r1, r2, r3) := by rw [if_pos rfl] at H; exact H
 clear H
 have H := H1
 clear H1
 replace H := Option.bind_eq_some_iff.mp H
 obtain ⟨⟨t145, t146⟩, A70, H⟩ := H
 replace H : ((impl_size.f (wrap64 ((wrap64 (t143 * t146)) - (wrap64 (a3 * t145))))).bind fun t148 => ((impl_ratio.f k t148 t146).bind fun bt149 => (some (bt149.1, bt149.2, true)))) = some (r1, r2, r3) := H
 have A7 := Aside0.mk A70
 clear A70
 replace H := Option.bind_eq_some_iff.mp H
 obtain ⟨t148, A80, H⟩ := H
 replace H : ((impl_ratio.f k t148 t146).bind fun bt149 => (some (bt149.1, bt149.2, true))) = some (r1, r2, r3) := H
 have A8 := Aside0.mk A80
 clear A80
 replace H := Option.bind_eq_some_iff.mp H
 obtain ⟨⟨t149, t150⟩, A90, H⟩ := H
 replace H : (some (t149, t150, true)) = some (r1, r2, r3) := H
 have A9 := Aside0.mk A90
 clear A90
 simp only [Option.some.injEq, Prod.mk.injEq] at H
 obtain ⟨rfl, rfl, rfl⟩ := H
 go_enter Try.func44, Try.ntmps44
 try go_wp2_with (first | ((with_reducible refine gate_dst (N := 8) rfl ?_); refine box_event ?hg (N := 8) ?hd (cs := #[.int .i64 0, .int .i64 0]) (t := 26) ?hr ?_; (case hd => rfl); (case hg => rfl); (case hr => first | (go_simp; done) | (go_simp; rfl)); intro gb142 hg w10 hbox hb; have n0_ := Aside0.mk (bP_ (by repeat (first | (with_reducible first | exact HB.out | apply bA_ | apply bN_ | apply bD_) | exact HB.out)) hb); have n1_ := Aside0.mk (hbox); have n2_ := Aside0.mk ((by rw [hg]; exact (bZ_ (by repeat (first | (with_reducible first | exact HB.out | apply bA_ | apply bN_ | apply bD_) | exact HB.out))) : w.heap.size ≤ gb142)); have n3_ := Aside0.mk ((by rw [hg]; exact (bZ_ (by repeat (first | (with_reducible first | exact HB.out | apply bA_ | apply bN_ | apply bD_) | exact HB.out))) : w.heap.size ≤ gb142)); clear HB; have HB := n0_; have BK142 := n1_; have GW142 := n2_; have GE142 := n3_; clear n0_ n1_ n2_ n3_; clear hb hbox hg) | ((with_reducible refine gate_callee (f := 25) rfl ?_); refine goesL_ (some 18) rfl rfl Try.func25 (by kernel_rfl) rfl #[.int .i64 a0, .int .i64 a1, .int .i64 a2, .int .i64 a3] rfl (by (try simp only [List.map_toArray, List.map_cons, List.map_nil]); first | done | rfl | (simp only [List.length_drop, List.length_take]; rfl)) ?_; (with_reducible refine (impl_EscapesOf.calls k a0 a1 a2 a3 t143 true _ A5.out).mono ?_); rintro e w11 ⟨rfl, hb⟩; refine ⟨_, rfl, ?_⟩; have n0_ := Aside0.mk (blk_below (g := gb142) (o := .cells #[.int .i64 0, .int .i64 0] 26 (0, 0)) (by (with_reducible repeat (first | apply kN_ | apply kD_ | apply kA_)); exact BK142.out) hb); have n1_ := Aside0.mk (bP_ (by repeat (first | (with_reducible first | exact HB.out | apply bA_ | apply bN_ | apply bD_ | refine bS_ ?_ GE142.out) | exact HB.out)) hb); clear BK142; clear HB; have BK142 := n0_; have HB := n1_; clear n0_ n1_; (try clear hb); (try clear hb2); (try clear hk); (try clear hi)) | ((with_reducible refine gate_callee (f := 60) rfl ?_); refine goesL_ (some 26) rfl rfl Try.func60 (by kernel_rfl) rfl #[.int .i64 a0, .int .i64 a1] rfl (by (try simp only [List.map_toArray, List.map_cons, List.map_nil]); first | done | rfl | (simp only [List.length_drop, List.length_take]; rfl)) ?_; (with_reducible refine (impl_escapeChance.calls k a0 a1 t145 t146 _ A7.out).mono ?_); rintro e w12 ⟨rfl, hb⟩; refine ⟨_, rfl, ?_⟩; have n0_ := Aside0.mk (blk_below (g := gb142) (o := .cells #[.int .i64 0, .int .i64 0] 26 (0, 0)) (by (with_reducible repeat (first | apply kN_ | apply kD_ | apply kA_)); exact BK142.out) hb); have n1_ := Aside0.mk (bP_ (by repeat (first | (with_reducible first | exact HB.out | apply bA_ | apply bN_ | apply bD_ | refine bS_ ?_ GE142.out) | exact HB.out)) hb); clear BK142; clear HB; have BK142 := n0_; have HB := n1_; clear n0_ n1_; (try clear hb); (try clear hb2); (try clear hk); (try clear hi)) | ((with_reducible refine gate_dst (N := 12) rfl ?_); refine box_event ?hg (N := 12) ?hd (cs := #[.int .i64 0, .int .i64 0]) (t := 26) ?hr ?_; (case hd => rfl); (case hg => rfl); (case hr => first | (go_simp; done) | (go_simp; rfl)); intro gb147 hg w13 hbox hb; have n0_ := Aside0.mk (blk_below (g := gb142) (o := .cells #[.int .i64 0, .int .i64 0] 26 (0, 0)) (by (with_reducible repeat (first | apply kN_ | apply kD_ | apply kA_)); exact BK142.out) hb); have n1_ := Aside0.mk (bP_ (by repeat (first | (with_reducible first | exact HB.out | apply bA_ | apply bN_ | apply bD_ | refine bS_ ?_ GE142.out) | exact HB.out)) hb); have n2_ := Aside0.mk (hbox); have n3_ := Aside0.mk ((by rw [hg]; exact (bZ_ (by repeat (first | (with_reducible first | exact HB.out | apply bA_ | apply bN_ | apply bD_ | refine bS_ ?_ GE142.out) | exact HB.out))) : w.heap.size ≤ gb147)); have n4_ := Aside0.mk ((by rw [hg]; exact (bZ_ (by repeat (first | (with_reducible first | exact HB.out | apply bA_ | apply bN_ | apply bD_ | refine bS_ ?_ GE142.out) | exact HB.out))) : w.heap.size ≤ gb147)); have n5_ := Aside0.mk ((by rw [hg]; exact Nat.ne_of_lt (blk_lt (g := gb142) (o := .cells #[.int .i64 0, .int .i64 0] 26 (0, 0)) (by (with_reducible repeat (first | apply kN_ | apply kD_ | apply kA_)); exact BK142.out)) : gb142 ≠ gb147)); have n6_ := Aside0.mk ((by rw [hg]; exact Nat.ne_of_gt (blk_lt (g := gb142) (o := .cells #[.int .i64 0, .int .i64 0] 26 (0, 0)) (by (with_reducible repeat (first | apply kN_ | apply kD_ | apply kA_)); exact BK142.out)) : gb147 ≠ gb142)); clear BK142; clear HB; have BK142 := n0_; have HB := n1_; have BK147 := n2_; have GW147 := n3_; have GE147 := n4_; have NB142_147 := n5_; have NB147_142 := n6_; clear n0_ n1_ n2_ n3_ n4_ n5_ n6_; clear hb hbox hg; have hnb14 := NB147_142.out; have hnc14 := NB142_147.out; have hcz15_0 : w13.cell? ⟨gb147, 0, none⟩ = some (.int .i64 0) := (blk_cell BK147.out 0).trans rfl; have hcz15_1 : w13.cell? ⟨gb147, 1, none⟩ = some (.int .i64 0) := (blk_cell BK147.out 1).trans rfl; have hfz15_0 := kF_ BK147.out 0; have hfz15_1 := kF_ BK147.out 1))
 have n0_ : Aside0 (((w13.setCell ⟨gb147, 0, none⟩ (.int .i64 t145)).setCell ⟨gb147, 1, none⟩ (.int .i64 t146)).heap[gb142]? = some (.cells #[.int .i64 0, .int .i64 0] 26 (0, 0))) := ⟨by (with_reducible repeat (first | apply kN_ | apply kD_ | apply kA_)); refine blk_far ?_ NB142_147.out _; (with_reducible repeat (first | apply kN_ | apply kD_ | apply kA_)); refine blk_far ?_ NB142_147.out _; (with_reducible repeat (first | apply kN_ | apply kD_ | apply kA_)); exact BK142.out⟩
 have n1_ : Aside0 (((w13.setCell ⟨gb147, 0, none⟩ (.int .i64 t145)).setCell ⟨gb147, 1, none⟩ (.int .i64 t146)).heap[gb147]? = some (.cells #[.int .i64 t145, .int .i64 t146] 26 (0, 0))) := ⟨by (with_reducible repeat (first | apply kN_ | apply kD_ | apply kA_)); refine blk_put (cs := #[.int .i64 t145, .int .i64 0]) ?_ 1 _ rfl; (with_reducible repeat (first | apply kN_ | apply kD_ | apply kA_)); refine blk_put (cs := #[.int .i64 0, .int .i64 0]) ?_ 0 _ rfl; (with_reducible repeat (first | apply kN_ | apply kD_ | apply kA_)); exact BK147.out⟩
 have n2_ : Aside0 (Below w.heap.size w ((w13.setCell ⟨gb147, 0, none⟩ (.int .i64 t145)).setCell ⟨gb147, 1, none⟩ (.int .i64 t146))) := ⟨by repeat (first | (with_reducible first | exact HB.out | apply bA_ | apply bN_ | apply bD_ | refine bS_ ?_ GE142.out | refine bS_ ?_ GE147.out) | exact HB.out)⟩
 (try clear BK142)
 (try clear BK147)
 (try clear HB)
 generalize ((w13.setCell ⟨gb147, 0, none⟩ (.int .i64 t145)).setCell ⟨gb147, 1, none⟩ (.int .i64 t146)) = w16 at n0_ n1_ n2_ ⊢
 have BK142 := n0_
 have BK147 := n1_
 have HB := n2_
 clear n0_ n1_ n2_
 have n0_ := Aside0.mk (kD_ BK142.out)
 have n1_ := Aside0.mk (kD_ BK147.out)
 have n2_ := Aside0.mk (bD_ HB.out)
 clear BK142
 clear BK147
 clear HB
 have BK142 := n0_
 have BK147 := n1_
 have HB := n2_
 clear n0_ n1_ n2_
 refine start_ (n := 15) (S := fun w' => w'.cell? ⟨gb147, 0, none⟩ = some (.int .i64 t145) ∧ w'.cell? ⟨gb147, 1, none⟩ = some (.int .i64 t146)) (ds := []) #[false, false, false, false, false, false, false, false, false, false, false, false, false, false, false] (by kernel_rfl) rfl rfl ⟨(blk_cell BK147.out 0).trans rfl, (blk_cell BK147.out 1).trans rfl⟩ (fun hHeld => ?_); refine with_tabW impl_EscapeGap.tab5 impl_EscapeGap.bits5 (fun HT_ HW_ => ?_)
 generalize w16.drew = w17 at BK142 BK147 HB hHeld ⊢
 refine pu_ (i := 0) (N := some 27) (v := ?_) (a' := ?_) HT_.out rfl rfl (Or.inl ⟨by rfl, ?_⟩) ?_ ?_
 rotate_left
 ·intro w'
  go_simp
  with_reducible rfl
 rotate_left
 ·simp only [sp_]
  rfl
 refine pu_ (i := 1) (N := some 28) (v := ?_) (a' := ?_) HT_.out rfl rfl (Or.inl ⟨by rfl, ?_⟩) ?_ ?_
 rotate_left
 ·intro w'
  go_simp
  with_reducible rfl
 rotate_left
 ·simp only [sp_]
  rfl
 refine pu_ (i := 4) (N := some 31) (v := ?_) (a' := ?_) HT_.out rfl rfl (Or.inl ⟨by rfl, ?_⟩) ?_ ?_
 rotate_left
 ·intro w'
  go_simp
  with_reducible rfl
 rotate_left
 ·simp only [sp_]
  rfl
 refine pu_ (i := 5) (N := some 32) (v := ?_) (a' := ?_) HT_.out rfl rfl (Or.inl ⟨by rfl, ?_⟩) ?_ ?_
 rotate_left
 ·intro w'
  go_simp
  with_reducible rfl
 rotate_left
 ·simp only [sp_]
  rfl
 refine pu_ (i := 10) (N := some 37) (v := ?_) (a' := ?_) HT_.out rfl rfl (Or.inl ⟨by rfl, ?_⟩) ?_ ?_
 rotate_left
 ·intro w'
  go_simp
  with_reducible rfl
 rotate_left
 ·simp only [sp_]
  rfl
 refine tk_ (i := 2) (N := some 29) (v := ?_) (a' := ?_) HT_.out HW_.out rfl rfl (Or.inl ⟨by rfl, ?_⟩) hHeld ?_ ?_
 rotate_left
 ·rintro w' ⟨s0, s1⟩
  go_simp
  with_reducible rfl
 rotate_left
 ·simp only [sp_]
  rfl
 refine pu_ (i := 3) (N := some 30) (v := ?_) (a' := ?_) HT_.out rfl rfl (Or.inl ⟨by rfl, ?_⟩) ?_ ?_
 rotate_left
 ·intro w'
  go_simp
  with_reducible rfl
 rotate_left
 ·simp only [sp_]
  rfl
 refine tk_ (i := 6) (N := some 33) (v := ?_) (a' := ?_) HT_.out HW_.out rfl rfl (Or.inl ⟨by rfl, ?_⟩) hHeld ?_ ?_
 rotate_left
 ·rintro w' ⟨s0, s1⟩
  go_simp
  with_reducible rfl
 rotate_left
 ·simp only [sp_]
  rfl
 refine pu_ (i := 7) (N := some 34) (v := ?_) (a' := ?_) HT_.out rfl rfl (Or.inl ⟨by rfl, ?_⟩) ?_ ?_
 rotate_left
 ·intro w'
  go_simp
  with_reducible rfl
 rotate_left
 ·simp only [sp_]
  rfl
 refine pu_ (i := 8) (N := some 35) (v := ?_) (a' := ?_) HT_.out rfl rfl (Or.inl ⟨by rfl, ?_⟩) ?_ ?_
 rotate_left
 ·intro w'
  go_simp
  with_reducible rfl
 rotate_left
 ·simp only [sp_]
  rfl
 refine tk_ (i := 11) (N := some 38) (v := ?_) (a' := ?_) HT_.out HW_.out rfl rfl (Or.inl ⟨by rfl, ?_⟩) hHeld ?_ ?_
 rotate_left
 ·rintro w' ⟨s0, s1⟩
  go_simp
  with_reducible rfl
 rotate_left
 ·simp only [sp_]
  rfl
 refine one_ (i := 9) (N := some 36) #[true, true, true, true, true, true, true, true, true, true, true, true, false, false, false] rfl rfl (one_of HT_.out (by kernel_rfl)) (by decide) (fun K hK => ?_)
 refine goes_ Try.func78 (by kernel_rfl) rfl #[.int .i64 (wrap64 ((wrap64 (t143 * t146)) - (wrap64 (a3 * t145))))] (by rfl) rfl rfl (by (try simp only [List.map_toArray, List.map_cons, List.map_nil]); first | done | rfl | (simp only [List.length_drop, List.length_take]; rfl)) ?_
 with_reducible refine (impl_size.calls (wrap64 ((wrap64 (t143 * t146)) - (wrap64 (a3 * t145)))) t148 _ A8.out).mono ?_
 rintro e w18 ⟨rfl, hb⟩
 refine ⟨_, rfl, ?_⟩
 have n0_ := Aside0.mk (blk_below (g := gb142) (o := .cells #[.int .i64 0, .int .i64 0] 26 (0, 0)) (by (with_reducible repeat (first | apply kN_ | apply kD_ | apply kA_)); exact BK142.out) hb)
 have n1_ := Aside0.mk (blk_below (g := gb147) (o := .cells #[.int .i64 t145, .int .i64 t146] 26 (0, 0)) (by (with_reducible repeat (first | apply kN_ | apply kD_ | apply kA_)); exact BK147.out) hb)
 have n2_ := Aside0.mk (bP_ (by repeat (first | (with_reducible first | exact HB.out | apply bA_ | apply bN_ | apply bD_ | refine bS_ ?_ GE142.out | refine bS_ ?_ GE147.out) | exact HB.out)) hb)
 clear BK142
 clear BK147
 clear HB
 have BK142 := n0_
 have BK147 := n1_
 have HB := n2_
 clear n0_ n1_ n2_
 (try clear hb)
 (try clear hb2)
 (try clear hk)
 (try clear hi)
 refine hK.out _ _ ⟨(blk_cell BK147.out 0).trans rfl, (blk_cell BK147.out 1).trans rfl⟩ (fun hHeld => ?_)
 clear hK K
 refine norm_ (a' := ?_) ?_ ?_
 rotate_left
 ·show Act.put _ (some 36) _ = _
  simp only [sp_]
  rfl
 refine one_ (i := 12) (N := some 39) #[true, true, true, true, true, true, true, true, true, true, true, true, true, false, false] rfl rfl (one_of HT_.out (by kernel_rfl)) (by decide) (fun K hK => ?_)
 refine goes_ Try.func77 (by kernel_rfl) rfl #[.int .i64 t148, .int .i64 t146] (by rfl) rfl rfl (by (try simp only [List.map_toArray, List.map_cons, List.map_nil]); first | done | rfl | (simp only [List.length_drop, List.length_take]; rfl)) ?_
 with_reducible refine (impl_ratio.calls k t148 t146 t149 t150 _ A9.out).mono ?_
 rintro e w19 ⟨rfl, hb⟩
 refine ⟨_, rfl, ?_⟩
 have n0_ := Aside0.mk (blk_below (g := gb142) (o := .cells #[.int .i64 0, .int .i64 0] 26 (0, 0)) (by (with_reducible repeat (first | apply kN_ | apply kD_ | apply kA_)); exact BK142.out) hb)
 have n1_ := Aside0.mk (blk_below (g := gb147) (o := .cells #[.int .i64 t145, .int .i64 t146] 26 (0, 0)) (by (with_reducible repeat (first | apply kN_ | apply kD_ | apply kA_)); exact BK147.out) hb)
 have n2_ := Aside0.mk (bP_ (by repeat (first | (with_reducible first | exact HB.out | apply bA_ | apply bN_ | apply bD_ | refine bS_ ?_ GE142.out | refine bS_ ?_ GE147.out) | exact HB.out)) hb)
 clear BK142
 clear BK147
 clear HB
 have BK142 := n0_
 have BK147 := n1_
 have HB := n2_
 clear n0_ n1_ n2_
 (try clear hb)
 (try clear hb2)
 (try clear hk)
 (try clear hi)
 refine hK.out _ _ ⟨(blk_cell BK147.out 0).trans rfl, (blk_cell BK147.out 1).trans rfl⟩ (fun hHeld => ?_)
 clear hK K
 refine norm_ (a' := ?_) ?_ ?_
 rotate_left
 ·show Act.put _ (some 39) _ = _
  simp only [sp_]
  rfl
 refine one_ (i := 13) (N := none) #[true, true, true, true, true, true, true, true, true, true, true, true, true, true, false] rfl rfl (one_of HT_.out (by kernel_rfl)) (by decide) (fun K hK => ?_)
 have hs20 : w19.cell? ⟨gb142, 0, none⟩ = some (.int .i64 0) := (blk_cell BK142.out 0).trans rfl
 have hfs20 := kF_ BK142.out 0
 have hns20_1 := NB147_142.out
 have hms20_1 := NB142_147.out
 have hs21 : w19.cell? ⟨gb142, 1, none⟩ = some (.int .i64 0) := (blk_cell BK142.out 1).trans rfl
 have hfs21 := kF_ BK142.out 1
 have hns21_1 := NB147_142.out
 have hms21_1 := NB142_147.out
 refine skip_ (w1 := ?_) (by rfl) rfl ?_ ?_
 rotate_left
 ·go_simp
  rfl
 refine hK.out _ _ ⟨((cell_far (p := ⟨gb142, _, none⟩) NB147_142.out _).trans (((cell_far (p := ⟨gb142, _, none⟩) NB147_142.out _).trans (hHeld.1)))), ((cell_far (p := ⟨gb142, _, none⟩) NB147_142.out _).trans (((cell_far (p := ⟨gb142, _, none⟩) NB147_142.out _).trans (hHeld.2))))⟩ (fun hHeld => ?_)
 clear hK K
 refine pu_ (i := 14) (N := some 9) (v := ?_) (a' := ?_) HT_.out rfl rfl (Or.inl ⟨by rfl, ?_⟩) ?_ ?_
 rotate_left
 ·intro w'
  go_simp
  with_reducible rfl
 rotate_left
 ·simp only [sp_]
  rfl
 refine done_ (done_of HT_.out (by kernel_rfl)) ?_
 try go_wp2
 refine bodyPost_ret (results_ct rfl _ _ gb142 26 #[.int .i64 t149, .int .i64 t150] (0, 0) _ rfl (by (with_reducible repeat (first | apply kN_ | apply kD_ | apply kA_)); refine blk_put (cs := #[.int .i64 t149, .int .i64 0]) ?_ 1 _ rfl; (with_reducible repeat (first | apply kN_ | apply kD_ | apply kA_)); refine blk_put (cs := #[.int .i64 0, .int .i64 0]) ?_ 0 _ rfl; (with_reducible repeat (first | apply kN_ | apply kD_ | apply kA_)); exact BK142.out) Try.underlying26 rfl (by kernel_rfl)) rfl ?_
 exact ⟨by first | rfl | (simp [errW_none, errW_some] <;> rfl) | (simp [*, errW_none, errW_some] <;> rfl), by repeat (first | (with_reducible first | exact HB.out | apply bA_ | apply bN_ | apply bD_ | refine bS_ ?_ GE142.out | refine bS_ ?_ GE147.out) | exact HB.out)⟩
end Go.Proofs.Ytmechelmnpoddaa.E7
namespace Go.Proofs.Ytmechelmnpoddaa.H7
open Go.RowKit YtmechelmnpoddaaW.PrintWords YtmechelmnpoddaaW.PrintLast YtmechelmnpoddaaW.PrintMore
open A7
open Es (nth)
theorem l1All_loop (c : Int) (l : List Int) (hn : l.length ≤ 1000000000000) (d : Nat) : ∀ (k i : Nat), i + d = l.length → d < k → spec_l1All.l0 k c c l (l.length : Int) (i : Int) = some ((l.drop i).all fun x => decide (x = c)) := by
 induction d with
 | zero =>
  intro k i hi hk
  obtain ⟨k, rfl⟩ : ∃ m, k = m + 1 := ⟨k - 1, by omega⟩
  unfold spec_l1All.l0
  rw [if_neg (by omega), List.drop_of_length_le (by omega)]
  rfl
 | succ d ih =>
  intro k i hi hk
  obtain ⟨k, rfl⟩ : ∃ m, k = m + 1 := ⟨k - 1, by omega⟩
  unfold spec_l1All.l0
  rw [if_pos (by omega), if_pos (by omega), if_pos (by omega), rd_at l i (by omega), (in_eq _ _ _).1, drop_step l i (by omega)]
  simp only [Option.bind_some, List.all_cons]
  by_cases hx : l[i] = c
  rotate_left
  ·have h1 : decide (c ≤ l[i] ∧ l[i] ≤ c) = false := decide_eq_false (by omega)
   rw [h1, decide_eq_false hx, Bool.false_and]
   rfl
  have h1 : decide (c ≤ l[i] ∧ l[i] ≤ c) = true := by simp [hx]
  rw [h1, if_pos rfl, wrap_id (by omega) (by omega)]
  have := ih k (i + 1) (by omega) (by omega)
  rw [show ((i + 1 : Nat) : Int) = (i : Int) + 1 by omega] at this
  rw [this, decide_eq_true hx, Bool.true_and]
theorem l1All_eq (c : Int) (l : List Int) (hn : l.length ≤ 1000000000000) : spec_l1All.f (l.length + 1) l c c = some (l.all fun x => decide (x = c)) := by
 have := l1All_loop c l hn l.length (l.length + 1) 0 (by omega) (by omega)
 simpa [spec_l1All.f] using this
def same (a0 a1 a2 a3 : Int) : Bool := (ints (outS a0 a1 a2 a3).rot).all fun x => decide (x = a2)
def spec_AreAsBefore.f (a0 a1 a2 a3 : Int) : Option (Bool × Bool) := some (if asked a0 a1 a2 a3 = true then same a0 a1 a2 a3 else false, asked a0 a1 a2 a3)
set_option maxHeartbeats 4000000 in
set_option maxRecDepth 100000 in
theorem spec_AreAsBefore.walk (a0 a1 a2 a3 : Int) (w : World) : Calls Try.prog 26 #[.int .i64 a0, .int .i64 a1, .int .i64 a2, .int .i64 a3] w fun e w' => e = .returned (.tuple #[.bool (if asked a0 a1 a2 a3 = true then same a0 a1 a2 a3 else false), .bool (asked a0 a1 a2 a3)]) ∧ Below w.heap.size w w' := by
 have HA := Aside0.mk (asked_eq a0 a1 a2 a3)
 cases hq : asked a0 a1 a2 a3 with
 | false =>
  rw [hq] at HA
  rw [if_neg (by decide)]
  clear hq
  go_enter Try.func26, Try.ntmps26
  go_wp2_with (go_at_call 61; (with_reducible refine (spec_esAsked.calls 30 a0 a1 a2 a3 false _ HA.out).mono ?_); rintro e w' ⟨rfl, ⟨nd, rfl⟩⟩)
  go_ret2
  exact ⟨rfl, bN_ (Below.refl _ _) _⟩
 | true =>
  have HB := fun W => go_asked a0 a1 a2 a3 W hq
  have HB := Aside0.mk HB
  have HS := l1All_eq a2 (ints (outS a0 a1 a2 a3).rot) (by have := (out_len hq).2.2.1; rw [ints_len]; omega)
  have HS := Aside0.mk HS
  have hsame : ((ints (outS a0 a1 a2 a3).rot).all fun x => decide (x = a2)) = same a0 a1 a2 a3 := rfl
  rw [hsame] at HS
  clear hsame
  rw [hq] at HA
  rw [if_pos rfl]
  clear hq
  generalize same a0 a1 a2 a3 = sm at *
  go_enter Try.func26, Try.ntmps26
  go_wp2_with (first | (go_at_call 61; (with_reducible refine (spec_esAsked.calls 30 a0 a1 a2 a3 true _ HA.out).mono ?_); rintro e w' ⟨rfl, ⟨nd, rfl⟩⟩) | (go_at_call 63; obtain ⟨b1, d1, hc⟩ := HB.out (w.drewN nd); refine hc.mono ?_; rintro e w1 ⟨g, vr, ve, vt, vv, rfl, hB, hF⟩; obtain ⟨A, cA, rfl, hle, hC⟩ := Kd.R_reads (own_R hF.r); have HF := Aside0.mk hF; have HC := Aside0.mk hC; have HL := Aside0.mk ((bN_ (Below.refl w.heap.size w) nd).trans hB); clear hB hF hC; have c := blk_cell HF.out.blk 3; simp at c) | (go_at_call 65; (with_reducible refine (spec_l1All.calls _ A cA _ _ _ _ _ HC.out hle HS.out).mono ?_); rintro e w' ⟨rfl, ⟨nd2, rfl⟩⟩))
  go_ret2
  exact ⟨rfl, bN_ HL.out _⟩
theorem spec_AreAsBefore.calls (a0 a1 a2 a3 : Int) (r1 r2 : Bool) (w : World) (h : spec_AreAsBefore.f a0 a1 a2 a3 = some (r1, r2)) :
  Calls Try.prog 26 #[.int .i64 a0, .int .i64 a1, .int .i64 a2, .int .i64 a3] w fun e w' => e = .returned (.tuple #[.bool r1, .bool r2]) ∧ Below w.heap.size w w' := by
 have e := Option.some.inj h
 injection e with e1 e2
 subst e1 e2
 exact spec_AreAsBefore.walk a0 a1 a2 a3 w
end Go.Proofs.Ytmechelmnpoddaa.H7
namespace Go.Proofs.Ytmechelmnpoddaa.H7
open Go.RowKit YtmechelmnpoddaaW.PrintWords YtmechelmnpoddaaW.PrintLast YtmechelmnpoddaaW.PrintMore
open A7
open Go.Shelf Go.Lib
open Es (nth)
theorem forest_all (a0 a1 a2 a3 : Int) (h : asked a0 a1 a2 a3 = true) : ∃ b1 d1, 0 < Es.inner b1 d1 ∧ Es.inner b1 d1 ≤ 130 ∧ ∀ w, Calls Try.prog 66 #[.int .i64 a0, .int .i64 a1, .int .i64 a2, .int .i64 a3] w (FoOut w b1 d1 (Es.inner b1 d1) (outS a0 a1 a2 a3)) := by
 have hb : branch a0 a1 := by
  have : branch a0 a1 ∧ 0 ≤ a2 ∧ a2 ≤ a0 ∧ 0 ≤ a3 ∧ a3 ≤ 200 := by simpa [asked] using h
  exact this.1
 obtain ⟨b1, d1, k1, n1, N, p, rfl, rfl, rfl, rfl, ht, hk, hn, hT, hc⟩ := asked_tree h
 obtain ⟨N', _, _, h3⟩ := nodes_of (b1 : Int) (d1 : Int)
 rw [decide_eq_true hb] at h3
 exact ⟨b1, d1, hT.i0, by have := hT.few; have := hT.sum; omega, fun w => forest_yes b1 d1 _ k1 n1 _ w h3 hT.first (by have := hT.d6; omega) hk hT.b3 hT.b2 (by have := hT.few; have := hT.sum; omega) hT.i0 hn hc⟩
theorem pred68 (lim : Int) (B : Nat) (w : World) (hB : B < w.heap.size) (hcell : w.cell? ⟨B, 0, none⟩ = some (.int .i64 lim)) :
  PredAt Try.prog 68 #[.pointer (some ⟨B, 0, none⟩)] (Value.int .i64) (fun x => decide (x ≠ lim)) w := fun W x hb => by
 have hc : W.cell? ⟨B, 0, none⟩ = some (.int .i64 lim) := (hb.cell (p := ⟨B, 0, none⟩) hB).trans hcell
 show Calls Try.prog 68 #[.int .i64 x, .pointer (some ⟨B, 0, none⟩)] W _
 go_enter Try.func68, Try.ntmps68
 go_wp2
 all_goals (go_ret; exact ⟨by (by_cases hx : x = lim <;> simp [hx]), 0, rfl⟩)
theorem not_any_ne (c : Int) (l : List Int) : (!(l.any fun x => !decide (x = c))) = l.all fun x => decide (x = c) := by
 induction l with
 | nil => rfl
 | cons x t ih =>
  rw [List.any_cons, List.all_cons, Bool.not_or, ih]
  by_cases h : x = c <;> simp [h]
theorem ints_get (l : List Nat) (j : Nat) (h : j < l.length) : (ints l)[j]! = (nth l j : Int) := by
 rw [getElem!_pos (ints l) j (by simpa [ints] using h)]
 simp [ints, nth, h]
def impl_AreAsBefore.f (a0 a1 a2 a3 : Int) : Option (Bool × Bool) := some (if asked a0 a1 a2 a3 = true then same a0 a1 a2 a3 else false, asked a0 a1 a2 a3)
set_option maxHeartbeats 4000000 in
set_option maxRecDepth 100000 in
theorem impl_AreAsBefore.walk (a0 a1 a2 a3 : Int) (w : World) : Calls Try.prog 27 #[.int .i64 a0, .int .i64 a1, .int .i64 a2, .int .i64 a3] w fun e w' => e = .returned (.tuple #[.bool (if asked a0 a1 a2 a3 = true then same a0 a1 a2 a3 else false), .bool (asked a0 a1 a2 a3)]) ∧ Below w.heap.size w w' := by
 cases hq : asked a0 a1 a2 a3 with
 | false =>
  have HA := fun W => forest_not a0 a1 a2 a3 W hq
  have HA := Aside0.mk HA
  rw [if_neg (by decide)]
  clear hq
  go_enter Try.func27, Try.ntmps27
  go_wp2_with (go_at_call 66; refine (HA.out _).mono ?_; rintro e w' ⟨rfl, hB⟩; have HB := Aside0.mk hB; clear hB)
  go_ret2
  exact ⟨rfl, below_weaken (bA_ (Below.refl _ _) _) (by simp) HB.out⟩
 | true =>
  obtain ⟨b1, d1, hi0, hi9, HB⟩ := forest_all a0 a1 a2 a3 hq
  have HB := Aside0.mk HB
  have HBi := Aside0.mk hi9
  have eg : ∀ args w, (callFunc 68 args).run Try.prog w = .ok (.enter 68 args) w := enters_of Try.func68 (by kernel_rfl) rfl
  have EG := Aside0.mk eg
  have hsame := not_any_ne a2 (ints (outS a0 a1 a2 a3).rot)
  have hs2 : ((ints (outS a0 a1 a2 a3).rot).all fun x => decide (x = a2)) = same a0 a1 a2 a3 := rfl
  rw [hs2] at hsame
  have HSM := Aside0.mk hsame
  rw [if_pos rfl]
  clear hq eg hs2 hsame
  generalize same a0 a1 a2 a3 = sm at *
  go_enter Try.func27, Try.ntmps27
  go_wp2_with (first | (go_at_call 66; refine (HB.out _).mono ?_; rintro e w1 ⟨g, vr, ve, vt, vv, rfl, hB, hF⟩; obtain ⟨gr, cr, rfl, hgr, hcr⟩ := hF.r.form hi0; have HF := Aside0.mk hF; have HL := Aside0.mk hB; have HP := Aside0.mk (pred68 a2 w.heap.size w1 (by have := hB.size; simp at this; omega) ((hB.cell (p := ⟨w.heap.size, 0, none⟩) (by simp)).trans (box_new w _))); have HCc := Aside0.mk (fun (j : Nat) (hj : j < (ints (outS a0 a1 a2 a3).rot).length) => (by rw [Nat.zero_add, ints_get _ _ (by simpa [ints] using hj)]; exact (row_at hF.r j (by rw [← row_len hF.r]; simpa [ints] using hj)).1 : w1.cell? ⟨gr, 0 + j, none⟩ = some (Value.int .i64 (ints (outS a0 a1 a2 a3).rot)[j]!))); have HRl := Aside0.mk (row_len hF.r); clear hB hF; have c := blk_cell HF.out.blk 2; simp at c) | (go_at_call 67; refine (Try.slices_ContainsFunc (Value.int .i64) (fun x => decide (x ≠ a2)) 68 #[.pointer (some ⟨w.heap.size, 0, none⟩)] EG.out gr 0 _ cr (ints (outS a0 a1 a2 a3).rot) w1 HP.out (by rw [ints_len, HRl.out]; exact Nat.le_refl _) (by have := HBi.out; omega) HCc.out).mono ?_; rintro e w' ⟨rfl, q, rfl⟩; rw [List.take_of_length_le (by rw [ints_len, HRl.out]; exact Nat.le_refl _)]))
  rw [HSM.out]
  go_ret2
  exact ⟨rfl, bN_ (below_weaken (bA_ (Below.refl _ _) _) (by simp) HL.out) _⟩
theorem impl_AreAsBefore.calls (a0 a1 a2 a3 : Int) (r1 r2 : Bool) (w : World) (h : impl_AreAsBefore.f a0 a1 a2 a3 = some (r1, r2)) :
  Calls Try.prog 27 #[.int .i64 a0, .int .i64 a1, .int .i64 a2, .int .i64 a3] w fun e w' => e = .returned (.tuple #[.bool r1, .bool r2]) ∧ Below w.heap.size w w' := by
 have e := Option.some.inj h
 injection e with e1 e2
 subst e1 e2
 exact impl_AreAsBefore.walk a0 a1 a2 a3 w
end Go.Proofs.Ytmechelmnpoddaa.H7
namespace Go.Proofs.Ytmechelmnpoddaa.H7
open Go.RowKit YtmechelmnpoddaaW.PrintWords YtmechelmnpoddaaW.PrintLast YtmechelmnpoddaaW.PrintMore
open A7
open Go.Shelf Go.Lib
open Es (nth)
def lasked (a0 a1 a2 a3 a4 : Int) : Bool := asked a0 a1 a2 a3 && decide (0 ≤ a4 ∧ a4 ≤ a1 - 1)
set_option maxHeartbeats 4000000 in
set_option maxRecDepth 100000 in
theorem spec_RotorsOnLevel.no (a0 a1 a2 a3 a4 : Int) (w : World) (hq : lasked a0 a1 a2 a3 a4 = false) (h1 : 0 ≤ a1 ∧ a1 ≤ 100 ∨ asked a0 a1 a2 a3 = false) : Calls Try.prog 39 #[.int .i64 a0, .int .i64 a1, .int .i64 a2, .int .i64 a3, .int .i64 a4] w (SlOut w [] false) := by
 have HA := Aside0.mk (asked_eq a0 a1 a2 a3)
 have HI := Aside0.mk (in_eq a4 0 (a1 - 1)).1
 unfold lasked at hq
 cases hb : asked a0 a1 a2 a3 with
 | false =>
  rw [hb] at HA
  clear hq hb h1
  go_enter Try.func39, Try.ntmps39
  go_wp2_with (go_at_call 61; (with_reducible refine (spec_esAsked.calls 30 a0 a1 a2 a3 false _ HA.out).mono ?_); rintro e w' ⟨rfl, ⟨nd, rfl⟩⟩)
  go_ret2
  exact slout_no _ _ (bN_ (Below.refl _ _) _)
 | true =>
  rw [hb] at hq HA h1
  have h2 : decide (0 ≤ a4 ∧ a4 ≤ a1 - 1) = false := by simpa using hq
  rw [h2] at HI
  have h3 : 0 ≤ a1 ∧ a1 ≤ 100 := by simpa using h1
  have hw : IntKind.i64.wrap (a1 - 1) = a1 - 1 := IntWalk.i64_in _ (by omega)
  clear hq hb h1 h2 h3
  go_enter Try.func39, Try.ntmps39
  go_wp2_with (first | (go_at_call 61; (with_reducible refine (spec_esAsked.calls 30 a0 a1 a2 a3 true _ HA.out).mono ?_); rintro e w' ⟨rfl, ⟨nd, rfl⟩⟩) | (go_at_call 71; (with_reducible refine (spec_l1In.calls a4 0 (a1 - 1) false _ HI.out).mono ?_); rintro e w' ⟨rfl, ⟨nd2, rfl⟩⟩))
  go_ret2
  exact slout_no _ _ (bN_ (Below.refl _ _) _)
set_option maxHeartbeats 4000000 in
set_option maxRecDepth 100000 in
theorem impl_RotorsOnLevel.no (a0 a1 a2 a3 a4 : Int) (w : World) (hq : lasked a0 a1 a2 a3 a4 = false) (h1 : 0 ≤ a1 ∧ a1 ≤ 100 ∨ asked a0 a1 a2 a3 = false) : Calls Try.prog 40 #[.int .i64 a0, .int .i64 a1, .int .i64 a2, .int .i64 a3, .int .i64 a4] w (SlOut w [] false) := by
 have HI := (in_eq a4 0 (a1 - 1)).2
 unfold lasked at hq
 cases hb : asked a0 a1 a2 a3 with
 | false =>
  have HA := fun W => forest_not a0 a1 a2 a3 W hb
  replace HA := Aside0.mk HA
  clear hq hb h1 HI
  go_enter Try.func40, Try.ntmps40
  go_wp2_with (go_at_call 66; refine (HA.out _).mono ?_; rintro e w' ⟨rfl, hB⟩; have HB := Aside0.mk hB; clear hB)
  go_ret2
  exact slout_no _ _ HB.out
 | true =>
  rw [hb] at hq h1
  have h2 : decide (0 ≤ a4 ∧ a4 ≤ a1 - 1) = false := by simpa using hq
  rw [h2] at HI
  replace HI := Aside0.mk HI
  have h3 : 0 ≤ a1 ∧ a1 ≤ 100 := by simpa using h1
  have hw : IntKind.i64.wrap (a1 - 1) = a1 - 1 := IntWalk.i64_in _ (by omega)
  obtain ⟨b1, d1, hi0, hi9, HB⟩ := forest_all a0 a1 a2 a3 hb
  replace HB := Aside0.mk HB
  clear hq hb h1 h2 h3
  go_enter Try.func40, Try.ntmps40
  go_wp2_with (first | (go_at_call 66; refine (HB.out _).mono ?_; rintro e w1 ⟨g, vr, ve, vt, vv, rfl, hB, hF⟩; have HF := Aside0.mk hF; have HL := Aside0.mk hB; clear hB hF) | (go_at_call 73; (with_reducible refine (pay_in a4 0 (a1 - 1) _ _ HI.out).mono ?_); rintro e w' ⟨rfl, ⟨nd2, rfl⟩⟩))
  go_ret2
  exact slout_no _ _ (bN_ HL.out _)
end Go.Proofs.Ytmechelmnpoddaa.H7
namespace Go.Proofs.Ytmechelmnpoddaa.H7
open Go.RowKit YtmechelmnpoddaaW.PrintWords YtmechelmnpoddaaW.PrintLast YtmechelmnpoddaaW.PrintMore
open A7 E7
theorem succ_of {d k : Nat} (h : d < k) : ∃ m, k = m + 1 := ⟨k - 1, by omega⟩
theorem tmod_nat (a b : Nat) : Int.tmod (a : Int) (b : Int) = ((a % b : Nat) : Int) := (Int.ofNat_tmod a b).symm
theorem tdiv_nat (a b : Nat) : Int.tdiv (a : Int) (b : Int) = ((a / b : Nat) : Int) := (Int.ofNat_tdiv a b).symm
theorem spec_gcd (x y : Nat) (hx : x ≤ 1000000) (hy : y ≤ 1000000) : ∀ (b a k : Nat), b < k → 0 < Nat.gcd a b → spec_hiRatio.l0 k (x : Int) (y : Int) (a : Int) (b : Int) = some (((x / Nat.gcd a b : Nat) : Int), ((y / Nat.gcd a b : Nat) : Int)) := by
 intro b
 induction b using Nat.strongRecOn with
 | _ b ih =>
  intro a k hk hg
  obtain ⟨k, rfl⟩ := succ_of hk
  simp only [spec_hiRatio.l0]
  rcases Nat.eq_zero_or_pos b with rfl | hb
  ·rw [Nat.gcd_zero_right] at hg ⊢
   have h1 := Nat.div_le_self x a
   have h2 := Nat.div_le_self y a
   rw [if_neg (by omega), if_neg (by omega), tdiv_nat, tdiv_nat]
   generalize x / a = xa at *
   generalize y / a = ya at *
   rw [wrap_id (by omega) (by omega), wrap_id (by omega) (by omega)]
  ·have hm := Nat.mod_lt a hb
   have e : Nat.gcd b (a % b) = Nat.gcd a b := by rw [Nat.gcd_comm, ← Nat.gcd_rec, Nat.gcd_comm]
   rw [if_pos (by omega), if_neg (by omega), tmod_nat, ih (a % b) hm b k (by omega) (by rw [e]; exact hg), e]
theorem spec_ratio (x y : Nat) (hx : x ≤ 1000000) (hy : y ≤ 1000) (h0 : 0 < y) (k : Nat) (hk : 1100 ≤ k) : spec_hiRatio.f k (x : Int) (y : Int) = some (((x / Nat.gcd x y : Nat) : Int), ((y / Nat.gcd x y : Nat) : Int)) := by
 obtain ⟨k, rfl⟩ := succ_of (show 0 < k by omega)
 unfold spec_hiRatio.f
 rw [if_neg (by omega)]
 simp only [spec_hiRatio.j0]
 have e : absW (x : Int) = (x : Int) := by unfold absW; rw [wrap_id (by omega) (by omega)]; split <;> omega
 rw [l1Abs_eq, e]
 exact spec_gcd x y hx (by omega) y x k (by omega) (Nat.gcd_pos_of_pos_right _ h0)
theorem impl_gcd_eq : ∀ (b a k : Nat), b < k → impl_gcd.l0 k (a : Int) (b : Int) = some ((Nat.gcd a b : Nat) : Int) := by
 intro b
 induction b using Nat.strongRecOn with
 | _ b ih =>
  intro a k hk
  obtain ⟨k, rfl⟩ := succ_of hk
  simp only [impl_gcd.l0]
  rcases Nat.eq_zero_or_pos b with rfl | hb
  ·rw [if_pos (by omega), Nat.gcd_zero_right]
  ·have hm := Nat.mod_lt a hb
   have e : Nat.gcd b (a % b) = Nat.gcd a b := by rw [Nat.gcd_comm, ← Nat.gcd_rec, Nat.gcd_comm]
   rw [if_neg (by omega), tmod_nat, ih (a % b) hm b k (by omega), e]
theorem impl_ratio_eq (x y : Nat) (hx : x ≤ 1000000) (hy : y ≤ 1000) (h0 : 0 < y) (k : Nat) (hk : 1100 ≤ k) : impl_ratio.f k (x : Int) (y : Int) = some (((x / Nat.gcd x y : Nat) : Int), ((y / Nat.gcd x y : Nat) : Int)) := by
 unfold impl_ratio.f impl_gcd.f
 have e1 : mx (x : Int) (wrap64 (-(x : Int))) = (x : Int) := by unfold mx; rw [wrap_id (by omega) (by omega)]; split <;> omega
 have e2 : mx (y : Int) (wrap64 (-(y : Int))) = (y : Int) := by unfold mx; rw [wrap_id (by omega) (by omega)]; split <;> omega
 have hg := Nat.gcd_pos_of_pos_right x h0
 have h1 := Nat.div_le_self x (Nat.gcd x y)
 have h2 := Nat.div_le_self y (Nat.gcd x y)
 rw [e1, e2, impl_gcd_eq y x k (by omega)]
 simp only [Option.bind_some]
 rw [if_neg (by omega), if_neg (by omega), tdiv_nat, tdiv_nat]
 generalize x / Nat.gcd x y = xa at *
 generalize y / Nat.gcd x y = ya at *
 rw [wrap_id (by omega) (by omega), wrap_id (by omega) (by omega)]
theorem lowest (g x y : Nat) (hg : 0 < g) : g * x / Nat.gcd (g * x) (g * y) = x / Nat.gcd x y ∧ g * y / Nat.gcd (g * x) (g * y) = y / Nat.gcd x y := by
 rw [Nat.gcd_mul_left]
 exact ⟨Nat.mul_div_mul_left _ _ hg, Nat.mul_div_mul_left _ _ hg⟩
theorem mul_bd (E D : Int) (h0 : -200 ≤ E) (h1 : E ≤ 200) (d0 : 0 ≤ D) (d1 : D ≤ 500) : -100000 ≤ E * D ∧ E * D ≤ 100000 := by
 have h := Nat.mul_le_mul (show E.natAbs ≤ 200 by omega) (show D.natAbs ≤ 500 by omega)
 rw [← Int.natAbs_mul] at h
 generalize E * D = z at *
 omega
theorem absW_eq (x : Int) (h0 : -1000000 ≤ x) (h1 : x ≤ 1000000) : absW x = ((x.natAbs : Nat) : Int) := by
 unfold absW
 rw [wrap_id (by omega) (by omega)]
 split <;> omega
theorem size_eq (x : Int) (h0 : -1000000 ≤ x) (h1 : x ≤ 1000000) : impl_size.f x = some ((x.natAbs : Nat) : Int) := by
 unfold impl_size.f mx
 rw [wrap_id (by omega) (by omega)]
 congr 1
 split <;> omega
theorem gap_both (E n : Int) (g c1 c2 : Nat) (hg : 0 < g) (h2 : 0 < c2) (e0 : -200 ≤ E) (e1 : E ≤ 200) (n0 : 0 ≤ n) (n1 : n ≤ 200) (b1 : g * c1 ≤ 500) (b2 : g * c2 ≤ 500) :
  ∃ u v, ∀ k, 1100 ≤ k → spec_hiRatio.f k (absW (wrap64 (wrap64 (E * ((g * c2 : Nat) : Int)) - wrap64 (n * ((g * c1 : Nat) : Int))))) ((g * c2 : Nat) : Int) = some (u, v) ∧
   ((impl_size.f (wrap64 ((wrap64 (E * (c2 : Int))) - (wrap64 (n * (c1 : Int)))))).bind fun t => impl_ratio.f k t (c2 : Int)) = some (u, v) := by
 have c2le : c2 ≤ 500 := Nat.le_trans (Nat.le_mul_of_pos_left _ hg) b2
 have c1le : c1 ≤ 500 := Nat.le_trans (Nat.le_mul_of_pos_left _ hg) b1
 have m1 := mul_bd E ((g * c2 : Nat) : Int) e0 e1 (by omega) (by omega)
 have m2 := mul_bd n ((g * c1 : Nat) : Int) (by omega) n1 (by omega) (by omega)
 have m3 := mul_bd E (c2 : Int) e0 e1 (by omega) (by omega)
 have m4 := mul_bd n (c1 : Int) (by omega) n1 (by omega) (by omega)
 have hx : E * ((g * c2 : Nat) : Int) - n * ((g * c1 : Nat) : Int) = (g : Int) * (E * (c2 : Int) - n * (c1 : Int)) := by
  rw [Int.natCast_mul, Int.natCast_mul, Int.mul_sub, Int.mul_left_comm, Int.mul_left_comm n]
 have hn : (E * ((g * c2 : Nat) : Int) - n * ((g * c1 : Nat) : Int)).natAbs = g * (E * (c2 : Int) - n * (c1 : Int)).natAbs := by rw [hx, Int.natAbs_mul]; rfl
 rw [wrap_id (x := E * ((g * c2 : Nat) : Int)) (by omega) (by omega), wrap_id (x := n * ((g * c1 : Nat) : Int)) (by omega) (by omega), wrap_id (by omega) (by omega), absW_eq _ (by omega) (by omega), hn]
 rw [wrap_id (x := E * (c2 : Int)) (by omega) (by omega), wrap_id (x := n * (c1 : Int)) (by omega) (by omega), wrap_id (by omega) (by omega), size_eq _ (by omega) (by omega)]
 have ha : (E * (c2 : Int) - n * (c1 : Int)).natAbs ≤ 200000 := by omega
 have hb : g * (E * (c2 : Int) - n * (c1 : Int)).natAbs ≤ 200000 := by rw [← hn]; omega
 generalize (E * (c2 : Int) - n * (c1 : Int)).natAbs = a at *
 refine ⟨((a / Nat.gcd a c2 : Nat) : Int), ((c2 / Nat.gcd a c2 : Nat) : Int), fun k hk => ⟨?_, ?_⟩⟩
 ·rw [spec_ratio (g * a) (g * c2) (by omega) (by omega) (Nat.mul_pos hg h2) k hk, (lowest g a c2 hg).1, (lowest g a c2 hg).2]
 ·simp only [Option.bind_some]
  exact impl_ratio_eq a c2 (by omega) (by omega) h2 k hk
end Go.Proofs.Ytmechelmnpoddaa.H7
namespace Go.Proofs.Ytmechelmnpoddaa.H7
open Go.RowKit YtmechelmnpoddaaW.PrintWords YtmechelmnpoddaaW.PrintLast YtmechelmnpoddaaW.PrintMore
open A7 E7
theorem impl_escapes (a0 a1 a2 a3 : Int) (k : Nat) (hk : 201 ≤ k) : impl_EscapesOf.f k a0 a1 a2 a3 = some (if asked a0 a1 a2 a3 = true then sumE a0 a1 a2 a3 else 0, asked a0 a1 a2 a3) := by
 obtain ⟨X, hX⟩ : ∃ X, X = (if asked a0 a1 a2 a3 = true then ints (outS a0 a1 a2 a3).ends else []) := ⟨_, rfl⟩
 have hlen : X.length ≤ 200 := by rw [hX]; exact list_len a0 a1 a2 a3 (fun s => s.ends) (fun s => by exact .inl rfl)
 have habs : absI X ≤ 4611686018427387904 := by
  rw [hX]
  split
  ·rename_i h; have := ends_abs h; omega
  ·decide
 have hr : sumI X = (if asked a0 a1 a2 a3 = true then sumE a0 a1 a2 a3 else 0) := by
  rw [hX]
  split <;> rfl
 have hs := sum_eq X (by omega) habs
 refine at_rounds (g := fun k => impl_EscapesOf.f k a0 a1 a2 a3) (fun k => impl_EscapesOf.mono _ _ _ _ k) (k := X.length + 1) (by omega) ?_
 show impl_EscapesOf.f _ a0 a1 a2 a3 = _
 unfold impl_EscapesOf.f impl_EscapeList.f
 rw [← hX, ← hr]
 simp only [Option.bind_some]
 rw [hs]
 simp
theorem chance_is (b d : Nat) (h : (b, d) ∈ Es.trees) : ∃ g c1 c2 p : Nat, spec_esPower.f 30 (b : Int) (d : Int) = some (p : Int) ∧ wrap64 (wrap64 ((b : Int) * (p : Int)) - 1) = ((g * c2 : Nat) : Int) ∧ wrap64 (wrap64 ((b : Int) - 1) * (p : Int)) = ((g * c1 : Nat) : Int) ∧
  impl_escapeChance.f 1000 (b : Int) (d : Int) = some ((c1 : Int), (c2 : Int)) ∧ 0 < g ∧ 0 < c2 ∧ g * c1 ≤ 500 ∧ g * c2 ≤ 500 := by
 simp only [Es.trees, List.mem_cons, Prod.mk.injEq, List.mem_nil_iff, or_false] at h
 rcases h with ⟨rfl, rfl⟩ | ⟨rfl, rfl⟩ | ⟨rfl, rfl⟩ | ⟨rfl, rfl⟩ | ⟨rfl, rfl⟩ | ⟨rfl, rfl⟩ | ⟨rfl, rfl⟩ | ⟨rfl, rfl⟩ | ⟨rfl, rfl⟩ | ⟨rfl, rfl⟩
 ·exact ⟨1, 2, 3, 2, by decide +kernel, by decide +kernel, by decide +kernel, by decide +kernel, by decide, by decide, by decide, by decide⟩
 ·exact ⟨1, 4, 7, 4, by decide +kernel, by decide +kernel, by decide +kernel, by decide +kernel, by decide, by decide, by decide, by decide⟩
 ·exact ⟨1, 8, 15, 8, by decide +kernel, by decide +kernel, by decide +kernel, by decide +kernel, by decide, by decide, by decide, by decide⟩
 ·exact ⟨1, 16, 31, 16, by decide +kernel, by decide +kernel, by decide +kernel, by decide +kernel, by decide, by decide, by decide, by decide⟩
 ·exact ⟨1, 32, 63, 32, by decide +kernel, by decide +kernel, by decide +kernel, by decide +kernel, by decide, by decide, by decide, by decide⟩
 ·exact ⟨1, 64, 127, 64, by decide +kernel, by decide +kernel, by decide +kernel, by decide +kernel, by decide, by decide, by decide, by decide⟩
 ·exact ⟨2, 3, 4, 3, by decide +kernel, by decide +kernel, by decide +kernel, by decide +kernel, by decide, by decide, by decide, by decide⟩
 ·exact ⟨2, 9, 13, 9, by decide +kernel, by decide +kernel, by decide +kernel, by decide +kernel, by decide, by decide, by decide, by decide⟩
 ·exact ⟨2, 27, 40, 27, by decide +kernel, by decide +kernel, by decide +kernel, by decide +kernel, by decide, by decide, by decide, by decide⟩
 ·exact ⟨2, 81, 121, 81, by decide +kernel, by decide +kernel, by decide +kernel, by decide +kernel, by decide, by decide, by decide, by decide⟩
theorem gap_lift (E n : Int) (g c1 c2 : Nat) (b d : Int) (hg : 0 < g) (h2 : 0 < c2) (e0 : -200 ≤ E) (e1 : E ≤ 200) (n0 : 0 ≤ n) (n1 : n ≤ 200) (b1 : g * c1 ≤ 500) (b2 : g * c2 ≤ 500) (hc : ∀ k, 1000 ≤ k → impl_escapeChance.f k b d = some ((c1 : Int), (c2 : Int))) :
  ∃ u v, ∀ k, 1100 ≤ k → ((spec_hiRatio.f k (absW (wrap64 (wrap64 (E * ((g * c2 : Nat) : Int)) - wrap64 (n * ((g * c1 : Nat) : Int))))) ((g * c2 : Nat) : Int)).bind fun r => some (r.1, r.2, true)) = some (u, v, true) ∧
   ((impl_escapeChance.f k b d).bind fun bt145 => ((impl_size.f (wrap64 ((wrap64 (E * bt145.2)) - (wrap64 (n * bt145.1))))).bind fun t148 => ((impl_ratio.f k t148 bt145.2).bind fun bt149 => (some (bt149.1, bt149.2, true))))) = some (u, v, true) := by
 obtain ⟨u, v, hb⟩ := gap_both E n g c1 c2 hg h2 e0 e1 n0 n1 b1 b2
 refine ⟨u, v, fun k hk => ⟨?_, ?_⟩⟩
 ·rw [(hb k hk).1]; rfl
 ·rw [hc k (by omega)]
  simp only [Option.bind_some]
  have h := (hb k hk).2
  obtain ⟨t, ht, h⟩ := Option.bind_eq_some_iff.1 h
  rw [ht]
  simp only [Option.bind_some]
  rw [h]; rfl
theorem chance_all {b d : Int} {c1 c2 : Nat} (h : impl_escapeChance.f 1000 b d = some ((c1 : Int), (c2 : Int))) : ∀ k, 1000 ≤ k → impl_escapeChance.f k b d = some ((c1 : Int), (c2 : Int)) :=
 fun k hk => at_rounds (g := fun k => impl_escapeChance.f k b d) (fun k => impl_escapeChance.mono _ _ k) hk h
theorem sumE_small {a0 a1 a2 a3 : Int} (hq : asked a0 a1 a2 a3 = true) : -200 ≤ sumE a0 a1 a2 a3 ∧ sumE a0 a1 a2 a3 ≤ 200 := by
 have he := ends_abs hq
 have hs := sum_abs (ints (outS a0 a1 a2 a3).ends)
 unfold sumE
 omega
theorem both_asked (a0 a1 a2 a3 : Int) (hq : asked a0 a1 a2 a3 = true) : ∃ u v, ∀ k, 1100 ≤ k → spec_EscapeGap.f k a0 a1 a2 a3 = some (u, v, true) ∧ impl_EscapeGap.f k a0 a1 a2 a3 = some (u, v, true) := by
 obtain ⟨hs0, hs1⟩ := sumE_small hq
 have hi := fun k hk => impl_escapes a0 a1 a2 a3 k hk
 rw [hq, if_pos rfl] at hi
 have hn : 0 ≤ a3 ∧ a3 ≤ 200 := by have h' : branch a0 a1 ∧ (0 : Int) ≤ a2 ∧ a2 ≤ a0 ∧ 0 ≤ a3 ∧ a3 ≤ 200 := (by simpa [asked] using hq); exact h'.2.2.2
 obtain ⟨g, c1, c2, p, hp, hd, hnu, hc, hg, h2, b1, b2⟩ : ∃ g c1 c2 p : Nat, spec_esPower.f 30 a0 a1 = some (p : Int) ∧ wrap64 (wrap64 (a0 * (p : Int)) - 1) = ((g * c2 : Nat) : Int) ∧ wrap64 (wrap64 (a0 - 1) * (p : Int)) = ((g * c1 : Nat) : Int) ∧
  impl_escapeChance.f 1000 a0 a1 = some ((c1 : Int), (c2 : Int)) ∧ 0 < g ∧ 0 < c2 ∧ g * c1 ≤ 500 ∧ g * c2 ≤ 500 := by
  obtain ⟨b, d, k1, n, N, p0, rfl, rfl, rfl, rfl, ht, _⟩ := asked_tree hq
  exact chance_is b d ht
 unfold spec_EscapeGap.f impl_EscapeGap.f gapNum
 rw [hq, hp]
 generalize sumE a0 a1 a2 a3 = E at *
 obtain ⟨u, v, hb⟩ := gap_lift E a3 g c1 c2 a0 a1 hg h2 hs0 hs1 hn.1 hn.2 b1 b2 (chance_all hc)
 refine ⟨u, v, fun k hk => ⟨?_, ?_⟩⟩
 ·rw [if_pos rfl, Option.bind_some, hd, hnu]
  exact (hb k hk).1
 ·rw [hi k (by omega), Option.bind_some, if_pos rfl]
  exact (hb k hk).2
theorem both_gaps (a0 a1 a2 a3 : Int) : ∃ u v, ∀ k, 1100 ≤ k → spec_EscapeGap.f k a0 a1 a2 a3 = some (u, v, asked a0 a1 a2 a3) ∧ impl_EscapeGap.f k a0 a1 a2 a3 = some (u, v, asked a0 a1 a2 a3) := by
 cases hq : asked a0 a1 a2 a3 with
 | true => exact both_asked a0 a1 a2 a3 hq
 | false =>
  refine ⟨0, 0, fun k hk => ⟨?_, ?_⟩⟩
  ·unfold spec_EscapeGap.f
   rw [hq, if_neg (by decide)]
  ·unfold impl_EscapeGap.f
   rw [impl_escapes a0 a1 a2 a3 k (by omega), hq]
   simp
end Go.Proofs.Ytmechelmnpoddaa.H7
namespace Go.Proofs.Ytmechelmnpoddaa.F7
open Go.RowKit YtmechelmnpoddaaW.PrintWords YtmechelmnpoddaaW.PrintLast YtmechelmnpoddaaW.PrintMore
open A7 E7 H7
attribute [local go_sem] max2_int min2_int max_two min_two max_three min_three max_four min_four
def errW : Option Int → Value
 | none => .nilIface
 | some c => .iface 0 (.int .i64 c)
theorem errW_none : errW none = .nilIface := rfl
theorem errW_some (c : Int) : errW (some c) = .iface 0 (.int .i64 c) := rfl
end Go.Proofs.Ytmechelmnpoddaa.F7
namespace Go.Proofs.Ytmechelmnpoddaa.F7
open Go.RowKit YtmechelmnpoddaaW.PrintWords YtmechelmnpoddaaW.PrintLast YtmechelmnpoddaaW.PrintMore
open A7 E7 H7
attribute [local go_sem] max2_int min2_int max_two min_two max_three min_three max_four min_four
def laws_big.f (l0 : List Int) (l1 : List Int) : Option (Bool) := if (l0.length : Int) > 1048576 then (some true) else (some (decide ((l1.length : Int) > (wrap64 (1048576 - (l0.length : Int))))))
set_option maxHeartbeats 8000000 in
set_option maxRecDepth 100000 in
theorem laws_big.calls (A0 : Option Addr) (c0 : Nat) (l0 : List Int) (A1 : Option Addr) (c1 : Nat) (l1 : List Int) (r : Bool) (w : World) (hr0 : Kd.C (Kd.int .u8) w A0 l0.length l0) (hc0 : l0.length ≤ c0) (hr1 : Kd.C (Kd.int .u8) w A1 l1.length l1) (hc1 : l1.length ≤ c1) (h : laws_big.f l0 l1 = some r) :
  Calls Try.prog 45 #[.slice A0 l0.length c0, .slice A1 l1.length c1] w fun e w' => e = .returned (.bool r) ∧ Drawn0 w w' := by
 have HR0 := Aside0.mk hr0
 have HC0 := Aside0.mk hc0
 clear hr0 hc0
 have HR1 := Aside0.mk hr1
 have HC1 := Aside0.mk hc1
 clear hr1 hc1
 have H : (if (l0.length : Int) > 1048576 then (some true) else (some (decide ((l1.length : Int) > (wrap64 (1048576 - (l0.length : Int))))))) = some r := h
 clear h
 by_cases c3 : (l0.length : Int) > 1048576
 ·rw [if_pos c3] at H
  have c3b0 : decide (1048576 < (l0.length : Int)) = true := decide_eq_true c3
  have c3b1 : decide (1048576 < l0.length) = true := decide_eq_true (by omega)
  clear c3
  obtain rfl := Option.some.inj H
  go_enter Try.func45, Try.ntmps45
  go_wp2
  go_ret
  exact ⟨by first | rfl | (simp; done) | (simp [*]; done), by repeat (first | exact Drawn0.refl _ | apply Drawn0.step)⟩
 rw [if_neg c3] at H
 have c3b0 : decide (1048576 < (l0.length : Int)) = false := decide_eq_false c3
 have c3b1 : decide (1048576 < l0.length) = false := decide_eq_false (by omega)
 clear c3
 obtain rfl := Option.some.inj H
 go_enter Try.func45, Try.ntmps45
 go_wp2
 go_ret
 exact ⟨by first | rfl | (simp; done) | (simp [*]; done), by repeat (first | exact Drawn0.refl _ | apply Drawn0.step)⟩
def IsS74 (w0 W : World) (g : Nat) (f0 : List Int) (f1 : Int) (f2 : Int) : Prop := ∃ A0 c0, W.heap[g]? = some (.cells #[.slice A0 f0.length c0, .int .i64 f1, .int .u64 f2] 74 (0, 0)) ∧ w0.heap.size ≤ g ∧ Kd.C (Kd.int .u8) w0 A0 f0.length f0
theorem IsS74.grown {w0 W : World} {g : Nat} {f0 : List Int} {f1 : Int} {f2 : Int} {W1 : World} {row : Option Nat} (h : IsS74 w0 W g f0 f1 f2) (hw : W.grownBy W1 row) (hne : some g ≠ row) : IsS74 w0 W1 g f0 f1 f2 := by
 obtain ⟨A0, c0, hb, hg, hr0⟩ := h
 exact ⟨A0, c0, blk_grown hb hw hne, hg, hr0⟩
theorem IsS74.below {w0 W : World} {g : Nat} {f0 : List Int} {f1 : Int} {f2 : Int} {W1 : World} (h : IsS74 w0 W g f0 f1 f2) (hw : Below W.heap.size W W1) : IsS74 w0 W1 g f0 f1 f2 := h.grown (grown_of_below hw none) (by simp)
theorem IsS74.drewN {w0 W : World} {g : Nat} {f0 : List Int} {f1 : Int} {f2 : Int} (h : IsS74 w0 W g f0 f1 f2) (m : Nat) : IsS74 w0 (W.drewN m) g f0 f1 f2 := h
theorem IsS74.apart {w0 W : World} {g : Nat} {f0 : List Int} {f1 : Int} {f2 : Int} {α : Type} {d : Kd α} {e : Nat} {base : Nat} {ok : Nat → Prop} {v : Value} {xs : List α} (h : IsS74 w0 W g f0 f1 f2) (ho : d.R e W base ok v xs) (ht : ∀ q, q ∈ e :: d.E → q ≠ 74) : d.R e W base (fun k => ok k ∧ k ≠ g) v xs := by
 obtain ⟨A0, c0, hb, hg, hr0⟩ := h
 exact Kd.R_types ho hb ht
theorem IsS74.own_ne {w0 W : World} {g : Nat} {f0 : List Int} {f1 : Int} {f2 : Int} {α : Type} {d : Kd α} {e : Nat} {base : Nat} {ok : Nat → Prop} {v : Value} {xs : List α} (h : IsS74 w0 W g f0 f1 f2) (ho : d.R e W base ok v xs) (ht : e ≠ 74) : some g ≠ v.ownBlock := by
 obtain ⟨A0, c0, hb, hg, hr0⟩ := h
 exact Kd.R_ne ho hb ht
theorem IsS74.ge {w0 W : World} {g : Nat} {f0 : List Int} {f1 : Int} {f2 : Int} (h : IsS74 w0 W g f0 f1 f2) : w0.heap.size ≤ g := by
 obtain ⟨A0, c0, hb, hg, hr0⟩ := h
 exact hg
theorem cellS74_0 {W : World} {g : Nat} {A0 : Option Addr} {c0 : Nat} {f0 : List Int} {f1 : Int} {f2 : Int} (h : W.heap[g]? = some (.cells #[.slice A0 f0.length c0, .int .i64 f1, .int .u64 f2] 74 (0, 0))) : W.cell? ⟨g, 0, none⟩ = some (.slice A0 f0.length c0) := (blk_cell h 0).trans rfl
theorem cellS74_1 {W : World} {g : Nat} {A0 : Option Addr} {c0 : Nat} {f0 : List Int} {f1 : Int} {f2 : Int} (h : W.heap[g]? = some (.cells #[.slice A0 f0.length c0, .int .i64 f1, .int .u64 f2] 74 (0, 0))) : W.cell? ⟨g, 1, none⟩ = some (.int .i64 f1) := (blk_cell h 1).trans rfl
theorem IsS74.set_1 {w0 W : World} {g : Nat} {f0 : List Int} {f1 : Int} {f2 : Int} (h : IsS74 w0 W g f0 f1 f2) (x : Int) : IsS74 w0 (W.setCell ⟨g, 1, none⟩ (.int .i64 x)) g f0 x f2 := by
 obtain ⟨A0, c0, hb, hg, hr0⟩ := h
 exact ⟨A0, c0, by simpa using blk_set hb 1 (.int .i64 x), hg, hr0⟩
theorem cellS74_2 {W : World} {g : Nat} {A0 : Option Addr} {c0 : Nat} {f0 : List Int} {f1 : Int} {f2 : Int} (h : W.heap[g]? = some (.cells #[.slice A0 f0.length c0, .int .i64 f1, .int .u64 f2] 74 (0, 0))) : W.cell? ⟨g, 2, none⟩ = some (.int .u64 f2) := (blk_cell h 2).trans rfl
theorem IsS74.set_2 {w0 W : World} {g : Nat} {f0 : List Int} {f1 : Int} {f2 : Int} (h : IsS74 w0 W g f0 f1 f2) (x : Int) : IsS74 w0 (W.setCell ⟨g, 2, none⟩ (.int .u64 x)) g f0 f1 x := by
 obtain ⟨A0, c0, hb, hg, hr0⟩ := h
 exact ⟨A0, c0, by simpa using blk_set hb 2 (.int .u64 x), hg, hr0⟩
theorem IsS74.new (w0 W : World) (A0 : Option Addr) (c0 : Nat) (f0 : List Int) (f1 : Int) (f2 : Int) (hB : Below w0.heap.size w0 W) (hr0 : Kd.C (Kd.int .u8) w0 A0 f0.length f0) : IsS74 w0 (W.alloc (.cells #[.slice A0 f0.length c0, .int .i64 f1, .int .u64 f2] 74)) W.heap.size f0 f1 f2 := ⟨A0, c0, by simpa using heap_alloc_new W _, hB.size, hr0⟩
def spec_l1Cur_next.f (s0_0 : List Int) (s0_1 : Int) (s0_2 : Int) : Option (Int × Int × Int) := if s0_1 < (s0_0.length : Int) then (if 0 ≤ s0_1 then (if (wrap64 (s0_1 + 1)) ≤ (s0_0.length : Int) then (some (wrap64 (rd s0_0 s0_1), wrap64 (s0_1 + 1), IntKind.u64.wrap ((IntKind.u64.wrap ((IntKind.u64.wrap (s0_2 * 6364136223846793005)) + (IntKind.u64.wrap (wrap64 (rd s0_0 s0_1))))) + 1442695040888963407))) else (some (wrap64 (Go.bits .and .u64 ((IntKind.u64.wrap ((IntKind.u64.wrap ((IntKind.u64.wrap (s0_2 * 6364136223846793005)) + (IntKind.u64.wrap (wrap64 (rd s0_0 s0_1))))) + 1442695040888963407)) / 1099511627776) 255), wrap64 (s0_1 + 1), IntKind.u64.wrap ((IntKind.u64.wrap ((IntKind.u64.wrap (s0_2 * 6364136223846793005)) + (IntKind.u64.wrap (wrap64 (rd s0_0 s0_1))))) + 1442695040888963407)))) else (none)) else (if (wrap64 (s0_1 + 1)) ≤ (s0_0.length : Int) then (some (0, wrap64 (s0_1 + 1), IntKind.u64.wrap ((IntKind.u64.wrap ((IntKind.u64.wrap (s0_2 * 6364136223846793005)))) + 1442695040888963407))) else (some (wrap64 (Go.bits .and .u64 ((IntKind.u64.wrap ((IntKind.u64.wrap ((IntKind.u64.wrap (s0_2 * 6364136223846793005)))) + 1442695040888963407)) / 1099511627776) 255), wrap64 (s0_1 + 1), IntKind.u64.wrap ((IntKind.u64.wrap ((IntKind.u64.wrap (s0_2 * 6364136223846793005)))) + 1442695040888963407))))
set_option maxHeartbeats 8000000 in
set_option maxRecDepth 100000 in
theorem spec_l1Cur_next.calls (g : Nat) (s0_0 : List Int) (s0_1 : Int) (s0_2 : Int) (r1 : Int) (r2 : Int) (r3 : Int) (w0 w : World) (hI : IsS74 w0 w g s0_0 s0_1 s0_2) (hB : Below w0.heap.size w0 w) (h : spec_l1Cur_next.f s0_0 s0_1 s0_2 = some (r1, r2, r3)) :
  Calls Try.prog 91 #[.pointer (some ⟨g, 0, none⟩)] w fun e w' => e = .returned (.int .i64 r1) ∧ IsS74 w0 w' g s0_0 r2 r3 ∧ Below w0.heap.size w0 w' ∧ KeepBut w w' g none := by
 have HI0 := Aside0.mk hI
 have HK := Aside0.mk (KeepBut.refl w g none)
 have HL := Aside0.mk hB.size
 clear hI
 have HW0 := Aside0.mk hB.size
 have HB := Aside0.mk hB
 clear hB
 have H : (if s0_1 < (s0_0.length : Int) then (if 0 ≤ s0_1 then (if (wrap64 (s0_1 + 1)) ≤ (s0_0.length : Int) then (some (wrap64 (rd s0_0 s0_1), wrap64 (s0_1 + 1), IntKind.u64.wrap ((IntKind.u64.wrap ((IntKind.u64.wrap (s0_2 * 6364136223846793005)) + (IntKind.u64.wrap (wrap64 (rd s0_0 s0_1))))) + 1442695040888963407))) else (some (wrap64 (Go.bits .and .u64 ((IntKind.u64.wrap ((IntKind.u64.wrap ((IntKind.u64.wrap (s0_2 * 6364136223846793005)) + (IntKind.u64.wrap (wrap64 (rd s0_0 s0_1))))) + 1442695040888963407)) / 1099511627776) 255), wrap64 (s0_1 + 1), IntKind.u64.wrap ((IntKind.u64.wrap ((IntKind.u64.wrap (s0_2 * 6364136223846793005)) + (IntKind.u64.wrap (wrap64 (rd s0_0 s0_1))))) + 1442695040888963407)))) else (none)) else (if (wrap64 (s0_1 + 1)) ≤ (s0_0.length : Int) then (some (0, wrap64 (s0_1 + 1), IntKind.u64.wrap ((IntKind.u64.wrap ((IntKind.u64.wrap (s0_2 * 6364136223846793005)))) + 1442695040888963407))) else (some (wrap64 (Go.bits .and .u64 ((IntKind.u64.wrap ((IntKind.u64.wrap ((IntKind.u64.wrap (s0_2 * 6364136223846793005)))) + 1442695040888963407)) / 1099511627776) 255), wrap64 (s0_1 + 1), IntKind.u64.wrap ((IntKind.u64.wrap ((IntKind.u64.wrap (s0_2 * 6364136223846793005)))) + 1442695040888963407))))) = some (r1, r2, r3) := h
 clear h
 by_cases c2 : s0_1 < (s0_0.length : Int)
 rotate_left
 ·rw [if_neg c2] at H
  have c2b0 : decide (s0_1 < (s0_0.length : Int)) = false := decide_eq_false c2
  clear c2
  by_cases c7 : (wrap64 (s0_1 + 1)) ≤ (s0_0.length : Int)
  ·rw [if_pos c7] at H
   have c7b0 : decide ((wrap64 (s0_1 + 1)) ≤ (s0_0.length : Int)) = true := decide_eq_true c7
   clear c7
   simp only [Option.some.injEq, Prod.mk.injEq] at H
   obtain ⟨rfl, rfl, rfl⟩ := H
   obtain ⟨ASz8_0, cSz8_0, HGz8, hgz8, HSz8_0⟩ := HI0.out
   have hcz8_0 := cellS74_0 HGz8
   have hcz8_1 := cellS74_1 HGz8
   have hcz8_2 := cellS74_2 HGz8
   have hfz8_1 := kF_ HGz8 1
   have hfz8_2 := kF_ HGz8 2
   clear HGz8 hgz8
   go_enter Try.func91, Try.ntmps91
   go_wp2
   repeat (go_quiet (fail); try go_wp2)
   go_ret
   exact ⟨by first | rfl | (simp [errW_none, errW_some] <;> rfl) | (simp [*, errW_none, errW_some] <;> rfl), by repeat (first | (with_reducible first | exact HI0.out | apply IsS74.alloc | apply IsS74.drewN | apply IsS74.drew | apply IsS74.set_1 | apply IsS74.set_2) | exact HI0.out), by repeat (first | (with_reducible first | exact HB.out | apply bA_ | apply bN_ | apply bD_ | refine bS_ ?_ (IsS74.ge HI0.out)) | exact HB.out), by repeat (first | (with_reducible first | exact HK.out | apply KeepBut.set_ | apply keep_drewN | apply keep_drew | apply keep_alloc) | exact HK.out)⟩
  rw [if_neg c7] at H
  have c7b0 : decide ((wrap64 (s0_1 + 1)) ≤ (s0_0.length : Int)) = false := decide_eq_false c7
  clear c7
  simp only [Option.some.injEq, Prod.mk.injEq] at H
  obtain ⟨rfl, rfl, rfl⟩ := H
  obtain ⟨ASz9_0, cSz9_0, HGz9, hgz9, HSz9_0⟩ := HI0.out
  have hcz9_0 := cellS74_0 HGz9
  have hcz9_1 := cellS74_1 HGz9
  have hcz9_2 := cellS74_2 HGz9
  have hfz9_1 := kF_ HGz9 1
  have hfz9_2 := kF_ HGz9 2
  clear HGz9 hgz9
  go_enter Try.func91, Try.ntmps91
  go_wp2
  repeat (go_quiet (fail); try go_wp2)
  go_ret
  exact ⟨by first | rfl | (simp [errW_none, errW_some] <;> rfl) | (simp [*, errW_none, errW_some] <;> rfl), by repeat (first | (with_reducible first | exact HI0.out | apply IsS74.alloc | apply IsS74.drewN | apply IsS74.drew | apply IsS74.set_1 | apply IsS74.set_2) | exact HI0.out), by repeat (first | (with_reducible first | exact HB.out | apply bA_ | apply bN_ | apply bD_ | refine bS_ ?_ (IsS74.ge HI0.out)) | exact HB.out), by repeat (first | (with_reducible first | exact HK.out | apply KeepBut.set_ | apply keep_drewN | apply keep_drew | apply keep_alloc) | exact HK.out)⟩
 rw [if_pos c2] at H
 have c2b0 : decide (s0_1 < (s0_0.length : Int)) = true := decide_eq_true c2
 clear c2
 by_cases c3 : 0 ≤ s0_1
 rotate_left
 ·rw [if_neg c3] at H
  exact absurd H (by simp)
 rw [if_pos c3] at H
 have c3b0 : decide (0 ≤ s0_1) = true := decide_eq_true c3
 clear c3
 by_cases c4 : (wrap64 (s0_1 + 1)) ≤ (s0_0.length : Int)
 ·rw [if_pos c4] at H
  have c4b0 : decide ((wrap64 (s0_1 + 1)) ≤ (s0_0.length : Int)) = true := decide_eq_true c4
  clear c4
  simp only [Option.some.injEq, Prod.mk.injEq] at H
  obtain ⟨rfl, rfl, rfl⟩ := H
  obtain ⟨ASz5_0, cSz5_0, HGz5, hgz5, HSz5_0⟩ := HI0.out
  have hcz5_0 := cellS74_0 HGz5
  have hcz5_1 := cellS74_1 HGz5
  have hcz5_2 := cellS74_2 HGz5
  have hfz5_1 := kF_ HGz5 1
  have hfz5_2 := kF_ HGz5 2
  clear HGz5 hgz5
  have p146 : 0 ≤ (s0_1 : Int) := of_decide_eq_true (by first | (with_reducible assumption) | assumption)
  have q146 : s0_1 < (s0_0.length : Int) := of_decide_eq_true (by first | (with_reducible assumption) | assumption)
  obtain ⟨ad146, e146, hx146_0⟩ := Kd.at_int HSz5_0 s0_1 p146 q146
  cases e146
  replace hx146_0 := pw_cell_below HB.out hx146_0
  replace p146 := eq_true p146
  replace q146 := eq_true q146
  go_enter Try.func91, Try.ntmps91
  go_wp2
  repeat (go_quiet (fail); try go_wp2)
  go_ret
  exact ⟨by first | rfl | (simp [errW_none, errW_some] <;> rfl) | (simp [*, errW_none, errW_some] <;> rfl), by repeat (first | (with_reducible first | exact HI0.out | apply IsS74.alloc | apply IsS74.drewN | apply IsS74.drew | apply IsS74.set_1 | apply IsS74.set_2) | exact HI0.out), by repeat (first | (with_reducible first | exact HB.out | apply bA_ | apply bN_ | apply bD_ | refine bS_ ?_ (IsS74.ge HI0.out)) | exact HB.out), by repeat (first | (with_reducible first | exact HK.out | apply KeepBut.set_ | apply keep_drewN | apply keep_drew | apply keep_alloc) | exact HK.out)⟩
 rw [if_neg c4] at H
 have c4b0 : decide ((wrap64 (s0_1 + 1)) ≤ (s0_0.length : Int)) = false := decide_eq_false c4
 clear c4
 simp only [Option.some.injEq, Prod.mk.injEq] at H
 obtain ⟨rfl, rfl, rfl⟩ := H
 obtain ⟨ASz6_0, cSz6_0, HGz6, hgz6, HSz6_0⟩ := HI0.out
 have hcz6_0 := cellS74_0 HGz6
 have hcz6_1 := cellS74_1 HGz6
 have hcz6_2 := cellS74_2 HGz6
 have hfz6_1 := kF_ HGz6 1
 have hfz6_2 := kF_ HGz6 2
 clear HGz6 hgz6
 have p146 : 0 ≤ (s0_1 : Int) := of_decide_eq_true (by first | (with_reducible assumption) | assumption)
 have q146 : s0_1 < (s0_0.length : Int) := of_decide_eq_true (by first | (with_reducible assumption) | assumption)
 obtain ⟨ad146, e146, hx146_0⟩ := Kd.at_int HSz6_0 s0_1 p146 q146
 cases e146
 replace hx146_0 := pw_cell_below HB.out hx146_0
 replace p146 := eq_true p146
 replace q146 := eq_true q146
 go_enter Try.func91, Try.ntmps91
 go_wp2
 repeat (go_quiet (fail); try go_wp2)
 go_ret
 exact ⟨by first | rfl | (simp [errW_none, errW_some] <;> rfl) | (simp [*, errW_none, errW_some] <;> rfl), by repeat (first | (with_reducible first | exact HI0.out | apply IsS74.alloc | apply IsS74.drewN | apply IsS74.drew | apply IsS74.set_1 | apply IsS74.set_2) | exact HI0.out), by repeat (first | (with_reducible first | exact HB.out | apply bA_ | apply bN_ | apply bD_ | refine bS_ ?_ (IsS74.ge HI0.out)) | exact HB.out), by repeat (first | (with_reducible first | exact HK.out | apply KeepBut.set_ | apply keep_drewN | apply keep_drew | apply keep_alloc) | exact HK.out)⟩
def spec_l1Cur_pick.f (s0_0 : List Int) (s0_1 : Int) (s0_2 : Int) (a1 : Int) : Option (Int × Int × Int) := if a1 ≤ 1 then (some (0, s0_1, s0_2)) else ((spec_l1Cur_next.f s0_0 s0_1 s0_2).bind fun bt147 => (if a1 > 200 then ((spec_l1Cur_next.f s0_0 bt147.2.1 bt147.2.2).bind fun bt150 => (if a1 = 0 then (none) else (some (Int.tmod (wrap64 ((wrap64 (bt147.1 * 256)) + bt150.1)) a1, bt150.2.1, bt150.2.2)))) else (if a1 = 0 then (none) else (some (Int.tmod bt147.1 a1, bt147.2.1, bt147.2.2)))))
set_option maxHeartbeats 8000000 in
set_option maxRecDepth 100000 in
theorem spec_l1Cur_pick.calls (g : Nat) (s0_0 : List Int) (s0_1 : Int) (s0_2 : Int) (a1 : Int) (r1 : Int) (r2 : Int) (r3 : Int) (w0 w : World) (hI : IsS74 w0 w g s0_0 s0_1 s0_2) (hB : Below w0.heap.size w0 w) (h : spec_l1Cur_pick.f s0_0 s0_1 s0_2 a1 = some (r1, r2, r3)) :
  Calls Try.prog 89 #[.pointer (some ⟨g, 0, none⟩), .int .i64 a1] w fun e w' => e = .returned (.int .i64 r1) ∧ IsS74 w0 w' g s0_0 r2 r3 ∧ Below w0.heap.size w0 w' ∧ KeepBut w w' g none := by
 have HI0 := Aside0.mk hI
 have HK := Aside0.mk (KeepBut.refl w g none)
 have HL := Aside0.mk hB.size
 clear hI
 have HW0 := Aside0.mk hB.size
 have HB := Aside0.mk hB
 clear hB
 have H : (if a1 ≤ 1 then (some (0, s0_1, s0_2)) else ((spec_l1Cur_next.f s0_0 s0_1 s0_2).bind fun bt147 => (if a1 > 200 then ((spec_l1Cur_next.f s0_0 bt147.2.1 bt147.2.2).bind fun bt150 => (if a1 = 0 then (none) else (some (Int.tmod (wrap64 ((wrap64 (bt147.1 * 256)) + bt150.1)) a1, bt150.2.1, bt150.2.2)))) else (if a1 = 0 then (none) else (some (Int.tmod bt147.1 a1, bt147.2.1, bt147.2.2)))))) = some (r1, r2, r3) := h
 clear h
 by_cases c3 : a1 ≤ 1
 ·rw [if_pos c3] at H
  have c3b0 : decide (a1 ≤ 1) = true := decide_eq_true c3
  clear c3
  simp only [Option.some.injEq, Prod.mk.injEq] at H
  obtain ⟨rfl, rfl, rfl⟩ := H
  go_enter Try.func89, Try.ntmps89
  go_wp2
  go_ret
  exact ⟨by first | rfl | (simp [errW_none, errW_some] <;> rfl) | (simp [*, errW_none, errW_some] <;> rfl), by repeat (first | (with_reducible first | exact HI0.out | apply IsS74.alloc | apply IsS74.drewN | apply IsS74.drew | apply IsS74.set_1 | apply IsS74.set_2) | exact HI0.out), by repeat (first | (with_reducible first | exact HB.out | apply bA_ | apply bN_ | apply bD_ | refine bS_ ?_ (IsS74.ge HI0.out)) | exact HB.out), by repeat (first | (with_reducible first | exact HK.out | apply KeepBut.set_ | apply keep_drewN | apply keep_drew | apply keep_alloc) | exact HK.out)⟩
 rw [if_neg c3] at H
 have c3b0 : decide (a1 ≤ 1) = false := decide_eq_false c3
 clear c3
 replace H := Option.bind_eq_some_iff.mp H
 obtain ⟨⟨t147, t148, t149⟩, A40, H⟩ := H
 replace H : (if a1 > 200 then ((spec_l1Cur_next.f s0_0 t148 t149).bind fun bt150 => (if a1 = 0 then (none) else (some (Int.tmod (wrap64 ((wrap64 (t147 * 256)) + bt150.1)) a1, bt150.2.1, bt150.2.2)))) else (if a1 = 0 then (none) else (some (Int.tmod t147 a1, t148, t149)))) = some (r1, r2, r3) := H
 have A4 := Aside0.mk A40
 clear A40
 by_cases c5 : a1 > 200
 rotate_left
 ·rw [if_neg c5] at H
  have c5b0 : decide (200 < a1) = false := decide_eq_false c5
  clear c5
  by_cases c10 : a1 = 0
  ·rw [if_pos c10] at H
   exact absurd H (by simp)
  rw [if_neg c10] at H
  have c10b0 : (a1 == 0) = false := beq_eq_false_iff_ne.mpr c10
  have c10b1 : (a1 != 0) = true := bne_iff_ne.mpr c10
  simp only [Option.some.injEq, Prod.mk.injEq] at H
  obtain ⟨rfl, rfl, rfl⟩ := H
  go_enter Try.func89, Try.ntmps89
  go_wp2_with (first | ((with_reducible refine gate_callee (f := 91) rfl ?_); refine goesL_ (some 9) rfl rfl Try.func91 (by kernel_rfl) rfl #[.pointer (some ⟨g, 0, none⟩)] rfl (by (try simp only [List.map_toArray, List.map_cons, List.map_nil]); first | done | rfl | (simp only [List.length_drop, List.length_take]; rfl)) ?_; (with_reducible refine (spec_l1Cur_next.calls g s0_0 s0_1 s0_2 t147 t148 t149 w0 _ ?side1 ?side2 A4.out).mono ?_); (case side1 => repeat (first | (with_reducible first | exact HI0.out | apply IsS74.alloc | apply IsS74.drewN | apply IsS74.drew | apply IsS74.set_1 | apply IsS74.set_2) | exact HI0.out)); (case side2 => repeat (first | (with_reducible first | exact HB.out | apply bA_ | apply bN_ | apply bD_ | refine bS_ ?_ (IsS74.ge HI0.out)) | exact HB.out)); rintro e w11 ⟨rfl, hi, hb, hk⟩; refine ⟨_, rfl, ?_⟩; have n0_ := Aside0.mk (KeepBut.trans (by repeat (first | (with_reducible first | exact HK.out | apply KeepBut.set_ | apply keep_drewN | apply keep_drew | apply keep_alloc) | exact HK.out)) hk (.inl rfl)); have n1_ := Aside0.mk (hb); have n2_ := Aside0.mk (hi); clear HK; clear HB; clear HI0; have HK := n0_; have HB := n1_; have HI0 := n2_; clear n0_ n1_ n2_; (try clear hb); (try clear hb2); (try clear hk); (try clear hi)))
  go_ret
  exact ⟨by first | rfl | (simp [errW_none, errW_some] <;> rfl) | (simp [*, errW_none, errW_some] <;> rfl), by repeat (first | (with_reducible first | exact HI0.out | apply IsS74.alloc | apply IsS74.drewN | apply IsS74.drew | apply IsS74.set_1 | apply IsS74.set_2) | exact HI0.out), by repeat (first | (with_reducible first | exact HB.out | apply bA_ | apply bN_ | apply bD_ | refine bS_ ?_ (IsS74.ge HI0.out)) | exact HB.out), by repeat (first | (with_reducible first | exact HK.out | apply KeepBut.set_ | apply keep_drewN | apply keep_drew | apply keep_alloc) | exact HK.out)⟩
 rw [if_pos c5] at H
 have c5b0 : decide (200 < a1) = true := decide_eq_true c5
 clear c5
 replace H := Option.bind_eq_some_iff.mp H
 obtain ⟨⟨t150, t151, t152⟩, A60, H⟩ := H
 replace H : (if a1 = 0 then (none) else (some (Int.tmod (wrap64 ((wrap64 (t147 * 256)) + t150)) a1, t151, t152))) = some (r1, r2, r3) := H
 have A6 := Aside0.mk A60
 clear A60
 by_cases c7 : a1 = 0
 ·rw [if_pos c7] at H
  exact absurd H (by simp)
 rw [if_neg c7] at H
 have c7b0 : (a1 == 0) = false := beq_eq_false_iff_ne.mpr c7
 have c7b1 : (a1 != 0) = true := bne_iff_ne.mpr c7
 simp only [Option.some.injEq, Prod.mk.injEq] at H
 obtain ⟨rfl, rfl, rfl⟩ := H
 go_enter Try.func89, Try.ntmps89
 go_wp2_with (first | ((with_reducible refine gate_callee (f := 91) rfl ?_); refine goesL_ (some 9) rfl rfl Try.func91 (by kernel_rfl) rfl #[.pointer (some ⟨g, 0, none⟩)] rfl (by (try simp only [List.map_toArray, List.map_cons, List.map_nil]); first | done | rfl | (simp only [List.length_drop, List.length_take]; rfl)) ?_; (with_reducible refine (spec_l1Cur_next.calls g s0_0 s0_1 s0_2 t147 t148 t149 w0 _ ?side1 ?side2 A4.out).mono ?_); (case side1 => repeat (first | (with_reducible first | exact HI0.out | apply IsS74.alloc | apply IsS74.drewN | apply IsS74.drew | apply IsS74.set_1 | apply IsS74.set_2) | exact HI0.out)); (case side2 => repeat (first | (with_reducible first | exact HB.out | apply bA_ | apply bN_ | apply bD_ | refine bS_ ?_ (IsS74.ge HI0.out)) | exact HB.out)); rintro e w8 ⟨rfl, hi, hb, hk⟩; refine ⟨_, rfl, ?_⟩; have n0_ := Aside0.mk (KeepBut.trans (by repeat (first | (with_reducible first | exact HK.out | apply KeepBut.set_ | apply keep_drewN | apply keep_drew | apply keep_alloc) | exact HK.out)) hk (.inl rfl)); have n1_ := Aside0.mk (hb); have n2_ := Aside0.mk (hi); clear HK; clear HB; clear HI0; have HK := n0_; have HB := n1_; have HI0 := n2_; clear n0_ n1_ n2_; (try clear hb); (try clear hb2); (try clear hk); (try clear hi)) | ((with_reducible refine gate_callee (f := 91) rfl ?_); refine goesL_ (some 15) rfl rfl Try.func91 (by kernel_rfl) rfl #[.pointer (some ⟨g, 0, none⟩)] rfl (by (try simp only [List.map_toArray, List.map_cons, List.map_nil]); first | done | rfl | (simp only [List.length_drop, List.length_take]; rfl)) ?_; (with_reducible refine (spec_l1Cur_next.calls g s0_0 t148 t149 t150 t151 t152 w0 _ ?side1 ?side2 A6.out).mono ?_); (case side1 => repeat (first | (with_reducible first | exact HI0.out | apply IsS74.alloc | apply IsS74.drewN | apply IsS74.drew | apply IsS74.set_1 | apply IsS74.set_2) | exact HI0.out)); (case side2 => repeat (first | (with_reducible first | exact HB.out | apply bA_ | apply bN_ | apply bD_ | refine bS_ ?_ (IsS74.ge HI0.out)) | exact HB.out)); rintro e w9 ⟨rfl, hi, hb, hk⟩; refine ⟨_, rfl, ?_⟩; have n0_ := Aside0.mk (KeepBut.trans (by repeat (first | (with_reducible first | exact HK.out | apply KeepBut.set_ | apply keep_drewN | apply keep_drew | apply keep_alloc) | exact HK.out)) hk (.inl rfl)); have n1_ := Aside0.mk (hb); have n2_ := Aside0.mk (hi); clear HK; clear HB; clear HI0; have HK := n0_; have HB := n1_; have HI0 := n2_; clear n0_ n1_ n2_; (try clear hb); (try clear hb2); (try clear hk); (try clear hi)))
 go_ret
 exact ⟨by first | rfl | (simp [errW_none, errW_some] <;> rfl) | (simp [*, errW_none, errW_some] <;> rfl), by repeat (first | (with_reducible first | exact HI0.out | apply IsS74.alloc | apply IsS74.drewN | apply IsS74.drew | apply IsS74.set_1 | apply IsS74.set_2) | exact HI0.out), by repeat (first | (with_reducible first | exact HB.out | apply bA_ | apply bN_ | apply bD_ | refine bS_ ?_ (IsS74.ge HI0.out)) | exact HB.out), by repeat (first | (with_reducible first | exact HK.out | apply KeepBut.set_ | apply keep_drewN | apply keep_drew | apply keep_alloc) | exact HK.out)⟩
def spec_l1Cur_among.f (s0_0 : List Int) (s0_1 : Int) (s0_2 : Int) (l1 : List Int) : Option (Int × Int × Int) := (spec_l1Cur_pick.f s0_0 s0_1 s0_2 (l1.length : Int)).bind fun bt153 => (if 0 ≤ bt153.1 then (if bt153.1 < (l1.length : Int) then (some (rd l1 bt153.1, bt153.2.1, bt153.2.2)) else (none)) else (none))
set_option maxHeartbeats 8000000 in
set_option maxRecDepth 100000 in
theorem spec_l1Cur_among.calls (g : Nat) (s0_0 : List Int) (s0_1 : Int) (s0_2 : Int) (A1 : Option Addr) (c1 : Nat) (l1 : List Int) (r1 : Int) (r2 : Int) (r3 : Int) (w0 w : World) (hI : IsS74 w0 w g s0_0 s0_1 s0_2) (hB : Below w0.heap.size w0 w) (hr1 : Kd.C (Kd.int .i64) w A1 l1.length l1) (hc1 : l1.length ≤ c1) (hf1 : ∀ ad, A1 = some ad → 0 < l1.length → ad.block ≠ g) (h : spec_l1Cur_among.f s0_0 s0_1 s0_2 l1 = some (r1, r2, r3)) :
  Calls Try.prog 79 #[.pointer (some ⟨g, 0, none⟩), .slice A1 l1.length c1] w fun e w' => e = .returned (.int .i64 r1) ∧ IsS74 w0 w' g s0_0 r2 r3 ∧ Below w0.heap.size w0 w' ∧ KeepBut w w' g none := by
 have HR1 := Aside0.mk hr1
 have HC1 := Aside0.mk hc1
 clear hr1 hc1
 have HI0 := Aside0.mk hI
 have HK := Aside0.mk (KeepBut.refl w g none)
 have HL := Aside0.mk hB.size
 clear hI
 have HW0 := Aside0.mk hB.size
 have HB := Aside0.mk hB
 clear hB
 have H : ((spec_l1Cur_pick.f s0_0 s0_1 s0_2 (l1.length : Int)).bind fun bt153 => (if 0 ≤ bt153.1 then (if bt153.1 < (l1.length : Int) then (some (rd l1 bt153.1, bt153.2.1, bt153.2.2)) else (none)) else (none))) = some (r1, r2, r3) := h
 clear h
 replace H := Option.bind_eq_some_iff.mp H
 obtain ⟨⟨t153, t154, t155⟩, A30, H⟩ := H
 replace H : (if 0 ≤ t153 then (if t153 < (l1.length : Int) then (some (rd l1 t153, t154, t155)) else (none)) else (none)) = some (r1, r2, r3) := H
 have A3 := Aside0.mk A30
 clear A30
 by_cases c4 : 0 ≤ t153
 rotate_left
 ·rw [if_neg c4] at H
  exact absurd H (by simp)
 rw [if_pos c4] at H
 have c4b0 : decide (0 ≤ t153) = true := decide_eq_true c4
 clear c4
 by_cases c5 : t153 < (l1.length : Int)
 rotate_left
 ·rw [if_neg c5] at H
  exact absurd H (by simp)
 rw [if_pos c5] at H
 have c5b0 : decide (t153 < (l1.length : Int)) = true := decide_eq_true c5
 clear c5
 simp only [Option.some.injEq, Prod.mk.injEq] at H
 obtain ⟨rfl, rfl, rfl⟩ := H
 go_enter Try.func79, Try.ntmps79
 go_wp2_with (first | ((with_reducible refine gate_callee (f := 89) rfl ?_); refine goesL_ (some 9) rfl rfl Try.func89 (by kernel_rfl) rfl #[.pointer (some ⟨g, 0, none⟩), .int .i64 (l1.length : Int)] rfl (by (try simp only [List.map_toArray, List.map_cons, List.map_nil]); first | done | rfl | (simp only [List.length_drop, List.length_take]; rfl)) ?_; (with_reducible refine (spec_l1Cur_pick.calls g s0_0 s0_1 s0_2 (l1.length : Int) t153 t154 t155 w0 _ ?side1 ?side2 A3.out).mono ?_); (case side1 => repeat (first | (with_reducible first | exact HI0.out | apply IsS74.alloc | apply IsS74.drewN | apply IsS74.drew | apply IsS74.set_1 | apply IsS74.set_2) | exact HI0.out)); (case side2 => repeat (first | (with_reducible first | exact HB.out | apply bA_ | apply bN_ | apply bD_ | refine bS_ ?_ (IsS74.ge HI0.out)) | exact HB.out)); rintro e w6 ⟨rfl, hi, hb, hk⟩; refine ⟨_, rfl, ?_⟩; have n0_ := Aside0.mk (KeepBut.trans (by repeat (first | (with_reducible first | exact HK.out | apply KeepBut.set_ | apply keep_drewN | apply keep_drew | apply keep_alloc) | exact HK.out)) hk (.inl rfl)); have n1_ := Aside0.mk (hb); have n2_ := Aside0.mk (hi); clear HK; clear HB; clear HI0; have HK := n0_; have HB := n1_; have HI0 := n2_; clear n0_ n1_ n2_; (try clear hb); (try clear hb2); (try clear hk); (try clear hi); have p156 : 0 ≤ (t153 : Int) := of_decide_eq_true (by first | (with_reducible assumption) | assumption); have q156 : t153 < (l1.length : Int) := of_decide_eq_true (by first | (with_reducible assumption) | assumption); obtain ⟨ad156, e156, hx156_0⟩ := Kd.at_int HR1.out t153 p156 q156; cases e156; replace hx156_0 := keep_cell HK.out hx156_0 (by first | (rw [add_block]; exact hf1 _ rfl (by omega)) | exact hf1 _ rfl (by omega) | exact hf1 ad156 rfl (by omega)); replace p156 := eq_true p156; replace q156 := eq_true q156))
 go_ret
 exact ⟨by first | rfl | (simp [errW_none, errW_some] <;> rfl) | (simp [*, errW_none, errW_some] <;> rfl), by repeat (first | (with_reducible first | exact HI0.out | apply IsS74.alloc | apply IsS74.drewN | apply IsS74.drew | apply IsS74.set_1 | apply IsS74.set_2) | exact HI0.out), by repeat (first | (with_reducible first | exact HB.out | apply bA_ | apply bN_ | apply bD_ | refine bS_ ?_ (IsS74.ge HI0.out)) | exact HB.out), by repeat (first | (with_reducible first | exact HK.out | apply KeepBut.set_ | apply keep_drewN | apply keep_drew | apply keep_alloc) | exact HK.out)⟩
def spec_l1Cur_one.f (s0_0 : List Int) (s0_1 : Int) (s0_2 : Int) (a1 : Int) : Option (Bool × Int × Int) := (spec_l1Cur_pick.f s0_0 s0_1 s0_2 a1).bind fun bt157 => (some ((bt157.1 == 0), bt157.2.1, bt157.2.2))
set_option maxHeartbeats 8000000 in
set_option maxRecDepth 100000 in
theorem spec_l1Cur_one.calls (g : Nat) (s0_0 : List Int) (s0_1 : Int) (s0_2 : Int) (a1 : Int) (r1 : Bool) (r2 : Int) (r3 : Int) (w0 w : World) (hI : IsS74 w0 w g s0_0 s0_1 s0_2) (hB : Below w0.heap.size w0 w) (h : spec_l1Cur_one.f s0_0 s0_1 s0_2 a1 = some (r1, r2, r3)) :
  Calls Try.prog 81 #[.pointer (some ⟨g, 0, none⟩), .int .i64 a1] w fun e w' => e = .returned (.bool r1) ∧ IsS74 w0 w' g s0_0 r2 r3 ∧ Below w0.heap.size w0 w' ∧ KeepBut w w' g none := by
 have HI0 := Aside0.mk hI
 have HK := Aside0.mk (KeepBut.refl w g none)
 have HL := Aside0.mk hB.size
 clear hI
 have HW0 := Aside0.mk hB.size
 have HB := Aside0.mk hB
 clear hB
 have H : ((spec_l1Cur_pick.f s0_0 s0_1 s0_2 a1).bind fun bt157 => (some ((bt157.1 == 0), bt157.2.1, bt157.2.2))) = some (r1, r2, r3) := h
 clear h
 replace H := Option.bind_eq_some_iff.mp H
 obtain ⟨⟨t157, t158, t159⟩, A30, H⟩ := H
 replace H : (some ((t157 == 0), t158, t159)) = some (r1, r2, r3) := H
 have A3 := Aside0.mk A30
 clear A30
 simp only [Option.some.injEq, Prod.mk.injEq] at H
 obtain ⟨rfl, rfl, rfl⟩ := H
 go_enter Try.func81, Try.ntmps81
 go_wp2_with (first | ((with_reducible refine gate_callee (f := 89) rfl ?_); refine goesL_ (some 7) rfl rfl Try.func89 (by kernel_rfl) rfl #[.pointer (some ⟨g, 0, none⟩), .int .i64 a1] rfl (by (try simp only [List.map_toArray, List.map_cons, List.map_nil]); first | done | rfl | (simp only [List.length_drop, List.length_take]; rfl)) ?_; (with_reducible refine (spec_l1Cur_pick.calls g s0_0 s0_1 s0_2 a1 t157 t158 t159 w0 _ ?side1 ?side2 A3.out).mono ?_); (case side1 => repeat (first | (with_reducible first | exact HI0.out | apply IsS74.alloc | apply IsS74.drewN | apply IsS74.drew | apply IsS74.set_1 | apply IsS74.set_2) | exact HI0.out)); (case side2 => repeat (first | (with_reducible first | exact HB.out | apply bA_ | apply bN_ | apply bD_ | refine bS_ ?_ (IsS74.ge HI0.out)) | exact HB.out)); rintro e w4 ⟨rfl, hi, hb, hk⟩; refine ⟨_, rfl, ?_⟩; have n0_ := Aside0.mk (KeepBut.trans (by repeat (first | (with_reducible first | exact HK.out | apply KeepBut.set_ | apply keep_drewN | apply keep_drew | apply keep_alloc) | exact HK.out)) hk (.inl rfl)); have n1_ := Aside0.mk (hb); have n2_ := Aside0.mk (hi); clear HK; clear HB; clear HI0; have HK := n0_; have HB := n1_; have HI0 := n2_; clear n0_ n1_ n2_; (try clear hb); (try clear hb2); (try clear hk); (try clear hi)))
 go_ret
 exact ⟨by first | rfl | (simp [errW_none, errW_some] <;> rfl) | (simp [*, errW_none, errW_some] <;> rfl), by repeat (first | (with_reducible first | exact HI0.out | apply IsS74.alloc | apply IsS74.drewN | apply IsS74.drew | apply IsS74.set_1 | apply IsS74.set_2) | exact HI0.out), by repeat (first | (with_reducible first | exact HB.out | apply bA_ | apply bN_ | apply bD_ | refine bS_ ?_ (IsS74.ge HI0.out)) | exact HB.out), by repeat (first | (with_reducible first | exact HK.out | apply KeepBut.set_ | apply keep_drewN | apply keep_drew | apply keep_alloc) | exact HK.out)⟩
def spec_l1Cur_branch.f (s0_0 : List Int) (s0_1 : Int) (s0_2 : Int) : Option (Int × Int × Int × Int) := (spec_l1Cur_one.f s0_0 s0_1 s0_2 14).bind fun bt160 => (if bt160.1 = true then ((spec_l1Cur_among.f s0_0 bt160.2.1 bt160.2.2 (([1, 4, 2, 3, (-1), 4611686018427387904] : List Int))).bind fun bt166 => ((spec_l1Cur_among.f s0_0 bt166.2.1 bt166.2.2 (([0, 7, 5, 6, (-1), 4611686018427387904] : List Int))).bind fun bt172 => (some (bt166.1, bt172.1, bt172.2.1, bt172.2.2)))) else ((spec_l1Cur_one.f s0_0 bt160.2.1 bt160.2.2 2).bind fun bt175 => (if bt175.1 = true then ((spec_l1Cur_pick.f s0_0 bt175.2.1 bt175.2.2 6).bind fun bt178 => (some (2, wrap64 (1 + bt178.1), bt178.2.1, bt178.2.2))) else ((spec_l1Cur_pick.f s0_0 bt175.2.1 bt175.2.2 4).bind fun bt181 => (some (3, wrap64 (1 + bt181.1), bt181.2.1, bt181.2.2))))))
set_option maxHeartbeats 8000000 in
set_option maxRecDepth 100000 in
theorem spec_l1Cur_branch.calls (g : Nat) (s0_0 : List Int) (s0_1 : Int) (s0_2 : Int) (r1 : Int) (r2 : Int) (r3 : Int) (r4 : Int) (w0 w : World) (hI : IsS74 w0 w g s0_0 s0_1 s0_2) (hB : Below w0.heap.size w0 w) (h : spec_l1Cur_branch.f s0_0 s0_1 s0_2 = some (r1, r2, r3, r4)) :
  Calls Try.prog 80 #[.pointer (some ⟨g, 0, none⟩)] w fun e w' => e = .returned (.tuple #[.int .i64 r1, .int .i64 r2]) ∧ IsS74 w0 w' g s0_0 r3 r4 ∧ Below w0.heap.size w0 w' ∧ KeepBut w w' g none := by
 have HI0 := Aside0.mk hI
 have HK := Aside0.mk (KeepBut.refl w g none)
 have HL := Aside0.mk hB.size
 clear hI
 have HW0 := Aside0.mk hB.size
 have HB := Aside0.mk hB
 clear hB
 have H : ((spec_l1Cur_one.f s0_0 s0_1 s0_2 14).bind fun bt160 => (if bt160.1 = true then ((spec_l1Cur_among.f s0_0 bt160.2.1 bt160.2.2 (([1, 4, 2, 3, (-1), 4611686018427387904] : List Int))).bind fun bt166 => ((spec_l1Cur_among.f s0_0 bt166.2.1 bt166.2.2 (([0, 7, 5, 6, (-1), 4611686018427387904] : List Int))).bind fun bt172 => (some (bt166.1, bt172.1, bt172.2.1, bt172.2.2)))) else ((spec_l1Cur_one.f s0_0 bt160.2.1 bt160.2.2 2).bind fun bt175 => (if bt175.1 = true then ((spec_l1Cur_pick.f s0_0 bt175.2.1 bt175.2.2 6).bind fun bt178 => (some (2, wrap64 (1 + bt178.1), bt178.2.1, bt178.2.2))) else ((spec_l1Cur_pick.f s0_0 bt175.2.1 bt175.2.2 4).bind fun bt181 => (some (3, wrap64 (1 + bt181.1), bt181.2.1, bt181.2.2))))))) = some (r1, r2, r3, r4) := h
 clear h
 replace H := Option.bind_eq_some_iff.mp H
 obtain ⟨⟨t160, t161, t162⟩, A20, H⟩ := H
 replace H : (if t160 = true then ((spec_l1Cur_among.f s0_0 t161 t162 (([1, 4, 2, 3, (-1), 4611686018427387904] : List Int))).bind fun bt166 => ((spec_l1Cur_among.f s0_0 bt166.2.1 bt166.2.2 (([0, 7, 5, 6, (-1), 4611686018427387904] : List Int))).bind fun bt172 => (some (bt166.1, bt172.1, bt172.2.1, bt172.2.2)))) else ((spec_l1Cur_one.f s0_0 t161 t162 2).bind fun bt175 => (if bt175.1 = true then ((spec_l1Cur_pick.f s0_0 bt175.2.1 bt175.2.2 6).bind fun bt178 => (some (2, wrap64 (1 + bt178.1), bt178.2.1, bt178.2.2))) else ((spec_l1Cur_pick.f s0_0 bt175.2.1 bt175.2.2 4).bind fun bt181 => (some (3, wrap64 (1 + bt181.1), bt181.2.1, bt181.2.2)))))) = some (r1, r2, r3, r4) := H
 have A2 := Aside0.mk A20
 clear A20
 by_cases c3 : t160 = true
 ·subst c3
  have H1 : ((spec_l1Cur_among.f s0_0 t161 t162 (([1, 4, 2, 3, (-1), 4611686018427387904] : List Int))).bind fun bt166 => ((spec_l1Cur_among.f s0_0 bt166.2.1 bt166.2.2 (([0, 7, 5, 6, (-1), 4611686018427387904] : List Int))).bind fun bt172 => (some (bt166.1, bt172.1, bt172.2.1, bt172.2.2)))) = some (r1, r2, r3, r4) := by rw [if_pos rfl] at H; exact H
  clear H
  have H := H1
  clear H1
  obtain ⟨y163, hy163⟩ : ∃ y_ : List Int, y_ = (([1, 4, 2, 3, (-1), 4611686018427387904] : List Int)) := ⟨_, rfl⟩
  replace H : ((spec_l1Cur_among.f s0_0 t161 t162 y163).bind fun bt166 => ((spec_l1Cur_among.f s0_0 bt166.2.1 bt166.2.2 (([0, 7, 5, 6, (-1), 4611686018427387904] : List Int))).bind fun bt172 => (some (bt166.1, bt172.1, bt172.2.1, bt172.2.2)))) = some (r1, r2, r3, r4) := by first | (rw [hy163]; with_reducible exact H) | (have H2_ := (Option.bind_some _ _).symm.trans H; rw [hy163]; with_reducible exact H2_) | (have H2_ := (Option.bind_some _ _).symm.trans H; with_reducible exact H2_) | with_reducible exact H | (rw [hy163]; exact H) | exact H
  have Ny163 := Aside0.mk hy163
  clear hy163
  replace H := Option.bind_eq_some_iff.mp H
  obtain ⟨⟨t166, t167, t168⟩, A40, H⟩ := H
  replace H : ((spec_l1Cur_among.f s0_0 t167 t168 (([0, 7, 5, 6, (-1), 4611686018427387904] : List Int))).bind fun bt172 => (some (t166, bt172.1, bt172.2.1, bt172.2.2))) = some (r1, r2, r3, r4) := H
  have A4 := Aside0.mk A40
  clear A40
  obtain ⟨y169, hy169⟩ : ∃ y_ : List Int, y_ = (([0, 7, 5, 6, (-1), 4611686018427387904] : List Int)) := ⟨_, rfl⟩
  replace H : ((spec_l1Cur_among.f s0_0 t167 t168 y169).bind fun bt172 => (some (t166, bt172.1, bt172.2.1, bt172.2.2))) = some (r1, r2, r3, r4) := by first | (rw [hy169]; with_reducible exact H) | (have H2_ := (Option.bind_some _ _).symm.trans H; rw [hy169]; with_reducible exact H2_) | (have H2_ := (Option.bind_some _ _).symm.trans H; with_reducible exact H2_) | with_reducible exact H | (rw [hy169]; exact H) | exact H
  have Ny169 := Aside0.mk hy169
  clear hy169
  replace H := Option.bind_eq_some_iff.mp H
  obtain ⟨⟨t172, t173, t174⟩, A50, H⟩ := H
  replace H : (some (t166, t172, t173, t174)) = some (r1, r2, r3, r4) := H
  have A5 := Aside0.mk A50
  clear A50
  simp only [Option.some.injEq, Prod.mk.injEq] at H
  obtain ⟨rfl, rfl, rfl, rfl⟩ := H
  go_enter Try.func80, Try.ntmps80
  go_wp2_with (first | ((with_reducible refine gate_callee (f := 81) rfl ?_); refine goesL_ (some 5) rfl rfl Try.func81 (by kernel_rfl) rfl #[.pointer (some ⟨g, 0, none⟩), .int .i64 14] rfl (by (try simp only [List.map_toArray, List.map_cons, List.map_nil]); first | done | rfl | (simp only [List.length_drop, List.length_take]; rfl)) ?_; (with_reducible refine (spec_l1Cur_one.calls g s0_0 s0_1 s0_2 14 true t161 t162 w0 _ ?side1 ?side2 A2.out).mono ?_); (case side1 => repeat (first | (with_reducible first | exact HI0.out | apply IsS74.alloc | apply IsS74.drewN | apply IsS74.drew | apply IsS74.set_1 | apply IsS74.set_2) | exact HI0.out)); (case side2 => repeat (first | (with_reducible first | exact HB.out | apply bA_ | apply bN_ | apply bD_ | refine bS_ ?_ (IsS74.ge HI0.out)) | exact HB.out)); rintro e w6 ⟨rfl, hi, hb, hk⟩; refine ⟨_, rfl, ?_⟩; have n0_ := Aside0.mk (KeepBut.trans (by repeat (first | (with_reducible first | exact HK.out | apply KeepBut.set_ | apply keep_drewN | apply keep_drew | apply keep_alloc) | exact HK.out)) hk (.inl rfl)); have n1_ := Aside0.mk (hb); have n2_ := Aside0.mk (hi); clear HK; clear HB; clear HI0; have HK := n0_; have HB := n1_; have HI0 := n2_; clear n0_ n1_ n2_; (try clear hb); (try clear hb2); (try clear hk); (try clear hi)) | ((with_reducible refine gate_dst (N := 7) rfl ?_); refine Kd.R_lit (Kd.int .i64) _ 3 ?hg (N := 7) ?hd (xs := ([1, 4, 2, 3, (-1), 4611686018427387904] : List Int)) (inner := [.int .i64 1, .int .i64 4, .int .i64 2, .int .i64 3, .int .i64 (-1), .int .i64 4611686018427387904]) (ok := fun _ => True) (okp := fun _ => True) ?hr ?hp (fun _ hk => hk) trivial (Below.refl _ _) (Nat.le_refl _) (by simp) ?_; (case hd => rfl); (case hg => rfl); (case hr => first | (go_simp; done) | (go_simp; rfl)); (case hp => exact (Reps.one (show Kd.M (Kd.int .i64) _ _ _ 1 [.int .i64 1] from rfl) (Reps.one (show Kd.M (Kd.int .i64) _ _ _ 4 [.int .i64 4] from rfl) (Reps.one (show Kd.M (Kd.int .i64) _ _ _ 2 [.int .i64 2] from rfl) (Reps.one (show Kd.M (Kd.int .i64) _ _ _ 3 [.int .i64 3] from rfl) (Reps.one (show Kd.M (Kd.int .i64) _ _ _ (-1) [.int .i64 (-1)] from rfl) (Reps.one (show Kd.M (Kd.int .i64) _ _ _ 4611686018427387904 [.int .i64 4611686018427387904] from rfl) (Reps.none _ _)))))))); intro v164 w7 ho8 hb hg_ hnew_; clear hg_ hnew_; (first | rw [← Ny163.out] at ho8 | (simp only [Int.reduceToNat] at ho8; rw [← Ny163.out] at ho8)); have n0_ := Aside0.mk (Kd.R_lower ho8 (keep_size (w := w) (g := g) (row := none) (by repeat (first | (with_reducible first | exact HK.out | apply KeepBut.set_ | apply keep_drewN | apply keep_drew | apply keep_alloc) | exact HK.out)))); have n1_ := Aside0.mk (IsS74.below (by repeat (first | (with_reducible first | exact HI0.out | apply IsS74.alloc | apply IsS74.drewN | apply IsS74.drew | apply IsS74.set_1 | apply IsS74.set_2) | exact HI0.out)) hb); have n2_ := Aside0.mk (KeepBut.trans (by repeat (first | (with_reducible first | exact HK.out | apply KeepBut.set_ | apply keep_drewN | apply keep_drew | apply keep_alloc) | exact HK.out)) (KeepBut.of_below hb g none) (.inl rfl)); have n3_ := Aside0.mk (bP_ (by repeat (first | (with_reducible first | exact HB.out | apply bA_ | apply bN_ | apply bD_ | refine bS_ ?_ (IsS74.ge HI0.out)) | exact HB.out)) hb); clear HI0; clear HK; clear HB; have HO165 := n0_; have HI0 := n1_; have HK := n2_; have HB := n3_; clear n0_ n1_ n2_ n3_; clear hb ho8; obtain ⟨Ao9, co9, eo9⟩ := Kd.R_slice HO165.out; subst eo9) | ((with_reducible refine gate_callee (f := 79) rfl ?_); refine goesL_ (some 8) rfl rfl Try.func79 (by kernel_rfl) rfl #[.pointer (some ⟨g, 0, none⟩), .slice Ao9 y163.length co9] rfl (by (try simp only [List.map_toArray, List.map_cons, List.map_nil]); first | done | rfl | (simp only [List.length_drop, List.length_take]; rfl)) ?_; (with_reducible refine (spec_l1Cur_among.calls g s0_0 t161 t162 _ _ y163 t166 t167 t168 w0 _ ?side1 ?side2 ?side3 ?side4 ?side5 A4.out).mono ?_); (case side1 => repeat (first | (with_reducible first | exact HI0.out | apply IsS74.alloc | apply IsS74.drewN | apply IsS74.drew | apply IsS74.set_1 | apply IsS74.set_2) | exact HI0.out)); (case side2 => repeat (first | (with_reducible first | exact HB.out | apply bA_ | apply bN_ | apply bD_ | refine bS_ ?_ (IsS74.ge HI0.out)) | exact HB.out)); (case side3 => repeat (first | exact (Kd.R_reads' HO165.out).2.2 | (with_reducible refine Kd.C_alloc ?_ _) | (with_reducible refine Kd.C_drewN ?_ _) | (with_reducible refine Kd.C_drew ?_))); (case side4 => exact (Kd.R_reads' HO165.out).2.1); (case side5 => exact far_slice (IsS74.own_ne HI0.out HO165.out (by decide))); rintro e w10 ⟨rfl, hi, hb, hk⟩; refine ⟨_, rfl, ?_⟩; have n0_ := Aside0.mk (Kd.R_mono (Kd.R_keep (IsS74.apart (show IsS74 w0 _ g s0_0 t161 t162 from by repeat (first | (with_reducible first | exact HI0.out | apply IsS74.alloc | apply IsS74.drewN | apply IsS74.drew | apply IsS74.set_1 | apply IsS74.set_2) | exact HI0.out)) (by (with_reducible repeat (first | apply Kd.R_alloc | apply Kd.R_drewN | apply Kd.R_drew)); exact HO165.out) (by decide)) hk (fun _ h => h.2)) (fun _ h => h.1)); have n1_ := Aside0.mk (KeepBut.trans (by repeat (first | (with_reducible first | exact HK.out | apply KeepBut.set_ | apply keep_drewN | apply keep_drew | apply keep_alloc) | exact HK.out)) hk (.inl rfl)); have n2_ := Aside0.mk (hb); have n3_ := Aside0.mk (hi); clear HO165; clear HK; clear HB; clear HI0; have HO165 := n0_; have HK := n1_; have HB := n2_; have HI0 := n3_; clear n0_ n1_ n2_ n3_; (try clear hb); (try clear hb2); (try clear hk); (try clear hi)) | ((with_reducible refine gate_dst (N := 10) rfl ?_); refine Kd.R_lit (Kd.int .i64) _ 3 ?hg (N := 10) ?hd (xs := ([0, 7, 5, 6, (-1), 4611686018427387904] : List Int)) (inner := [.int .i64 0, .int .i64 7, .int .i64 5, .int .i64 6, .int .i64 (-1), .int .i64 4611686018427387904]) (ok := fun _ => True) (okp := fun _ => True) ?hr ?hp (fun _ hk => hk) trivial (Below.refl _ _) (Nat.le_refl _) (by simp) ?_; (case hd => rfl); (case hg => rfl); (case hr => first | (go_simp; done) | (go_simp; rfl)); (case hp => exact (Reps.one (show Kd.M (Kd.int .i64) _ _ _ 0 [.int .i64 0] from rfl) (Reps.one (show Kd.M (Kd.int .i64) _ _ _ 7 [.int .i64 7] from rfl) (Reps.one (show Kd.M (Kd.int .i64) _ _ _ 5 [.int .i64 5] from rfl) (Reps.one (show Kd.M (Kd.int .i64) _ _ _ 6 [.int .i64 6] from rfl) (Reps.one (show Kd.M (Kd.int .i64) _ _ _ (-1) [.int .i64 (-1)] from rfl) (Reps.one (show Kd.M (Kd.int .i64) _ _ _ 4611686018427387904 [.int .i64 4611686018427387904] from rfl) (Reps.none _ _)))))))); intro v170 w11 ho12 hb hg_ hnew_; clear hg_ hnew_; (first | rw [← Ny169.out] at ho12 | (simp only [Int.reduceToNat] at ho12; rw [← Ny169.out] at ho12)); have n0_ := Aside0.mk (Kd.R_elder' (by (with_reducible repeat (first | apply Kd.R_alloc | apply Kd.R_drewN | apply Kd.R_drew)); exact HO165.out) (Kd.R_base ho12) hb); have n1_ := Aside0.mk (Kd.R_lower (Kd.R_new' ho12 (Kd.R_lt (by (with_reducible repeat (first | apply Kd.R_alloc | apply Kd.R_drewN | apply Kd.R_drew)); exact HO165.out))) (keep_size (w := w) (g := g) (row := none) (by repeat (first | (with_reducible first | exact HK.out | apply KeepBut.set_ | apply keep_drewN | apply keep_drew | apply keep_alloc) | exact HK.out)))); have n2_ := Aside0.mk (IsS74.below (by repeat (first | (with_reducible first | exact HI0.out | apply IsS74.alloc | apply IsS74.drewN | apply IsS74.drew | apply IsS74.set_1 | apply IsS74.set_2) | exact HI0.out)) hb); have n3_ := Aside0.mk (KeepBut.trans (by repeat (first | (with_reducible first | exact HK.out | apply KeepBut.set_ | apply keep_drewN | apply keep_drew | apply keep_alloc) | exact HK.out)) (KeepBut.of_below hb g none) (.inl rfl)); have n4_ := Aside0.mk (bP_ (by repeat (first | (with_reducible first | exact HB.out | apply bA_ | apply bN_ | apply bD_ | refine bS_ ?_ (IsS74.ge HI0.out)) | exact HB.out)) hb); clear HO165; clear HI0; clear HK; clear HB; have HO165 := n0_; have HO171 := n1_; have HI0 := n2_; have HK := n3_; have HB := n4_; clear n0_ n1_ n2_ n3_ n4_; clear hb ho12; obtain ⟨Ao13, co13, eo13⟩ := Kd.R_slice HO171.out; subst eo13) | ((with_reducible refine gate_callee (f := 79) rfl ?_); refine goesL_ (some 11) rfl rfl Try.func79 (by kernel_rfl) rfl #[.pointer (some ⟨g, 0, none⟩), .slice Ao13 y169.length co13] rfl (by (try simp only [List.map_toArray, List.map_cons, List.map_nil]); first | done | rfl | (simp only [List.length_drop, List.length_take]; rfl)) ?_; (with_reducible refine (spec_l1Cur_among.calls g s0_0 t167 t168 _ _ y169 t172 t173 t174 w0 _ ?side1 ?side2 ?side3 ?side4 ?side5 A5.out).mono ?_); (case side1 => repeat (first | (with_reducible first | exact HI0.out | apply IsS74.alloc | apply IsS74.drewN | apply IsS74.drew | apply IsS74.set_1 | apply IsS74.set_2) | exact HI0.out)); (case side2 => repeat (first | (with_reducible first | exact HB.out | apply bA_ | apply bN_ | apply bD_ | refine bS_ ?_ (IsS74.ge HI0.out)) | exact HB.out)); (case side3 => repeat (first | exact (Kd.R_reads' HO171.out).2.2 | (with_reducible refine Kd.C_alloc ?_ _) | (with_reducible refine Kd.C_drewN ?_ _) | (with_reducible refine Kd.C_drew ?_))); (case side4 => exact (Kd.R_reads' HO171.out).2.1); (case side5 => exact far_slice (IsS74.own_ne HI0.out HO171.out (by decide))); rintro e w14 ⟨rfl, hi, hb, hk⟩; refine ⟨_, rfl, ?_⟩; have n0_ := Aside0.mk (Kd.R_mono (Kd.R_keep (IsS74.apart (show IsS74 w0 _ g s0_0 t167 t168 from by repeat (first | (with_reducible first | exact HI0.out | apply IsS74.alloc | apply IsS74.drewN | apply IsS74.drew | apply IsS74.set_1 | apply IsS74.set_2) | exact HI0.out)) (by (with_reducible repeat (first | apply Kd.R_alloc | apply Kd.R_drewN | apply Kd.R_drew)); exact HO165.out) (by decide)) hk (fun _ h => h.2)) (fun _ h => h.1)); have n1_ := Aside0.mk (Kd.R_mono (Kd.R_keep (IsS74.apart (show IsS74 w0 _ g s0_0 t167 t168 from by repeat (first | (with_reducible first | exact HI0.out | apply IsS74.alloc | apply IsS74.drewN | apply IsS74.drew | apply IsS74.set_1 | apply IsS74.set_2) | exact HI0.out)) (by (with_reducible repeat (first | apply Kd.R_alloc | apply Kd.R_drewN | apply Kd.R_drew)); exact HO171.out) (by decide)) hk (fun _ h => h.2)) (fun _ h => h.1)); have n2_ := Aside0.mk (KeepBut.trans (by repeat (first | (with_reducible first | exact HK.out | apply KeepBut.set_ | apply keep_drewN | apply keep_drew | apply keep_alloc) | exact HK.out)) hk (.inl rfl)); have n3_ := Aside0.mk (hb); have n4_ := Aside0.mk (hi); clear HO165; clear HO171; clear HK; clear HB; clear HI0; have HO165 := n0_; have HO171 := n1_; have HK := n2_; have HB := n3_; have HI0 := n4_; clear n0_ n1_ n2_ n3_ n4_; (try clear hb); (try clear hb2); (try clear hk); (try clear hi)))
  go_ret2
  exact ⟨by first | rfl | (simp [errW_none, errW_some] <;> rfl) | (simp [*, errW_none, errW_some] <;> rfl), by repeat (first | (with_reducible first | exact HI0.out | apply IsS74.alloc | apply IsS74.drewN | apply IsS74.drew | apply IsS74.set_1 | apply IsS74.set_2) | exact HI0.out), by repeat (first | (with_reducible first | exact HB.out | apply bA_ | apply bN_ | apply bD_ | refine bS_ ?_ (IsS74.ge HI0.out)) | exact HB.out), by repeat (first | (with_reducible first | exact HK.out | apply KeepBut.set_ | apply keep_drewN | apply keep_drew | apply keep_alloc) | exact HK.out)⟩
 replace c3 := Bool.eq_false_iff.mpr c3
 subst c3
 have H1 : ((spec_l1Cur_one.f s0_0 t161 t162 2).bind fun bt175 => (if bt175.1 = true then ((spec_l1Cur_pick.f s0_0 bt175.2.1 bt175.2.2 6).bind fun bt178 => (some (2, wrap64 (1 + bt178.1), bt178.2.1, bt178.2.2))) else ((spec_l1Cur_pick.f s0_0 bt175.2.1 bt175.2.2 4).bind fun bt181 => (some (3, wrap64 (1 + bt181.1), bt181.2.1, bt181.2.2))))) = some (r1, r2, r3, r4) := by rw [if_neg (show ¬ (false = true) by decide)] at H; exact H
 clear H
 have H := H1
 clear H1
 replace H := Option.bind_eq_some_iff.mp H
 obtain ⟨⟨t175, t176, t177⟩, A150, H⟩ := H
 replace H : (if t175 = true then ((spec_l1Cur_pick.f s0_0 t176 t177 6).bind fun bt178 => (some (2, wrap64 (1 + bt178.1), bt178.2.1, bt178.2.2))) else ((spec_l1Cur_pick.f s0_0 t176 t177 4).bind fun bt181 => (some (3, wrap64 (1 + bt181.1), bt181.2.1, bt181.2.2)))) = some (r1, r2, r3, r4) := H
 have A15 := Aside0.mk A150
 clear A150
 by_cases c16 : t175 = true
 ·subst c16
  have H1 : ((spec_l1Cur_pick.f s0_0 t176 t177 6).bind fun bt178 => (some (2, wrap64 (1 + bt178.1), bt178.2.1, bt178.2.2))) = some (r1, r2, r3, r4) := by rw [if_pos rfl] at H; exact H
  clear H
  have H := H1
  clear H1
  replace H := Option.bind_eq_some_iff.mp H
  obtain ⟨⟨t178, t179, t180⟩, A170, H⟩ := H
  replace H : (some (2, wrap64 (1 + t178), t179, t180)) = some (r1, r2, r3, r4) := H
  have A17 := Aside0.mk A170
  clear A170
  simp only [Option.some.injEq, Prod.mk.injEq] at H
  obtain ⟨rfl, rfl, rfl, rfl⟩ := H
  go_enter Try.func80, Try.ntmps80
  go_wp2_with (first | ((with_reducible refine gate_callee (f := 81) rfl ?_); refine goesL_ (some 5) rfl rfl Try.func81 (by kernel_rfl) rfl #[.pointer (some ⟨g, 0, none⟩), .int .i64 14] rfl (by (try simp only [List.map_toArray, List.map_cons, List.map_nil]); first | done | rfl | (simp only [List.length_drop, List.length_take]; rfl)) ?_; (with_reducible refine (spec_l1Cur_one.calls g s0_0 s0_1 s0_2 14 false t161 t162 w0 _ ?side1 ?side2 A2.out).mono ?_); (case side1 => repeat (first | (with_reducible first | exact HI0.out | apply IsS74.alloc | apply IsS74.drewN | apply IsS74.drew | apply IsS74.set_1 | apply IsS74.set_2) | exact HI0.out)); (case side2 => repeat (first | (with_reducible first | exact HB.out | apply bA_ | apply bN_ | apply bD_ | refine bS_ ?_ (IsS74.ge HI0.out)) | exact HB.out)); rintro e w18 ⟨rfl, hi, hb, hk⟩; refine ⟨_, rfl, ?_⟩; have n0_ := Aside0.mk (KeepBut.trans (by repeat (first | (with_reducible first | exact HK.out | apply KeepBut.set_ | apply keep_drewN | apply keep_drew | apply keep_alloc) | exact HK.out)) hk (.inl rfl)); have n1_ := Aside0.mk (hb); have n2_ := Aside0.mk (hi); clear HK; clear HB; clear HI0; have HK := n0_; have HB := n1_; have HI0 := n2_; clear n0_ n1_ n2_; (try clear hb); (try clear hb2); (try clear hk); (try clear hi)) | ((with_reducible refine gate_callee (f := 81) rfl ?_); refine goesL_ (some 13) rfl rfl Try.func81 (by kernel_rfl) rfl #[.pointer (some ⟨g, 0, none⟩), .int .i64 2] rfl (by (try simp only [List.map_toArray, List.map_cons, List.map_nil]); first | done | rfl | (simp only [List.length_drop, List.length_take]; rfl)) ?_; (with_reducible refine (spec_l1Cur_one.calls g s0_0 t161 t162 2 true t176 t177 w0 _ ?side1 ?side2 A15.out).mono ?_); (case side1 => repeat (first | (with_reducible first | exact HI0.out | apply IsS74.alloc | apply IsS74.drewN | apply IsS74.drew | apply IsS74.set_1 | apply IsS74.set_2) | exact HI0.out)); (case side2 => repeat (first | (with_reducible first | exact HB.out | apply bA_ | apply bN_ | apply bD_ | refine bS_ ?_ (IsS74.ge HI0.out)) | exact HB.out)); rintro e w19 ⟨rfl, hi, hb, hk⟩; refine ⟨_, rfl, ?_⟩; have n0_ := Aside0.mk (KeepBut.trans (by repeat (first | (with_reducible first | exact HK.out | apply KeepBut.set_ | apply keep_drewN | apply keep_drew | apply keep_alloc) | exact HK.out)) hk (.inl rfl)); have n1_ := Aside0.mk (hb); have n2_ := Aside0.mk (hi); clear HK; clear HB; clear HI0; have HK := n0_; have HB := n1_; have HI0 := n2_; clear n0_ n1_ n2_; (try clear hb); (try clear hb2); (try clear hk); (try clear hi)) | ((with_reducible refine gate_callee (f := 89) rfl ?_); refine goesL_ (some 15) rfl rfl Try.func89 (by kernel_rfl) rfl #[.pointer (some ⟨g, 0, none⟩), .int .i64 6] rfl (by (try simp only [List.map_toArray, List.map_cons, List.map_nil]); first | done | rfl | (simp only [List.length_drop, List.length_take]; rfl)) ?_; (with_reducible refine (spec_l1Cur_pick.calls g s0_0 t176 t177 6 t178 t179 t180 w0 _ ?side1 ?side2 A17.out).mono ?_); (case side1 => repeat (first | (with_reducible first | exact HI0.out | apply IsS74.alloc | apply IsS74.drewN | apply IsS74.drew | apply IsS74.set_1 | apply IsS74.set_2) | exact HI0.out)); (case side2 => repeat (first | (with_reducible first | exact HB.out | apply bA_ | apply bN_ | apply bD_ | refine bS_ ?_ (IsS74.ge HI0.out)) | exact HB.out)); rintro e w20 ⟨rfl, hi, hb, hk⟩; refine ⟨_, rfl, ?_⟩; have n0_ := Aside0.mk (KeepBut.trans (by repeat (first | (with_reducible first | exact HK.out | apply KeepBut.set_ | apply keep_drewN | apply keep_drew | apply keep_alloc) | exact HK.out)) hk (.inl rfl)); have n1_ := Aside0.mk (hb); have n2_ := Aside0.mk (hi); clear HK; clear HB; clear HI0; have HK := n0_; have HB := n1_; have HI0 := n2_; clear n0_ n1_ n2_; (try clear hb); (try clear hb2); (try clear hk); (try clear hi)))
  go_ret2
  exact ⟨by first | rfl | (simp [errW_none, errW_some] <;> rfl) | (simp [*, errW_none, errW_some] <;> rfl), by repeat (first | (with_reducible first | exact HI0.out | apply IsS74.alloc | apply IsS74.drewN | apply IsS74.drew | apply IsS74.set_1 | apply IsS74.set_2) | exact HI0.out), by repeat (first | (with_reducible first | exact HB.out | apply bA_ | apply bN_ | apply bD_ | refine bS_ ?_ (IsS74.ge HI0.out)) | exact HB.out), by repeat (first | (with_reducible first | exact HK.out | apply KeepBut.set_ | apply keep_drewN | apply keep_drew | apply keep_alloc) | exact HK.out)⟩
 replace c16 := Bool.eq_false_iff.mpr c16
 subst c16
 have H1 : ((spec_l1Cur_pick.f s0_0 t176 t177 4).bind fun bt181 => (some (3, wrap64 (1 + bt181.1), bt181.2.1, bt181.2.2))) = some (r1, r2, r3, r4) := by rw [if_neg (show ¬ (false = true) by decide)] at H; exact H
 clear H
 have H := H1
 clear H1
 replace H := Option.bind_eq_some_iff.mp H
 obtain ⟨⟨t181, t182, t183⟩, A210, H⟩ := H
 replace H : (some (3, wrap64 (1 + t181), t182, t183)) = some (r1, r2, r3, r4) := H
 have A21 := Aside0.mk A210
 clear A210
 simp only [Option.some.injEq, Prod.mk.injEq] at H
 obtain ⟨rfl, rfl, rfl, rfl⟩ := H
 go_enter Try.func80, Try.ntmps80
 go_wp2_with (first | ((with_reducible refine gate_callee (f := 81) rfl ?_); refine goesL_ (some 5) rfl rfl Try.func81 (by kernel_rfl) rfl #[.pointer (some ⟨g, 0, none⟩), .int .i64 14] rfl (by (try simp only [List.map_toArray, List.map_cons, List.map_nil]); first | done | rfl | (simp only [List.length_drop, List.length_take]; rfl)) ?_; (with_reducible refine (spec_l1Cur_one.calls g s0_0 s0_1 s0_2 14 false t161 t162 w0 _ ?side1 ?side2 A2.out).mono ?_); (case side1 => repeat (first | (with_reducible first | exact HI0.out | apply IsS74.alloc | apply IsS74.drewN | apply IsS74.drew | apply IsS74.set_1 | apply IsS74.set_2) | exact HI0.out)); (case side2 => repeat (first | (with_reducible first | exact HB.out | apply bA_ | apply bN_ | apply bD_ | refine bS_ ?_ (IsS74.ge HI0.out)) | exact HB.out)); rintro e w22 ⟨rfl, hi, hb, hk⟩; refine ⟨_, rfl, ?_⟩; have n0_ := Aside0.mk (KeepBut.trans (by repeat (first | (with_reducible first | exact HK.out | apply KeepBut.set_ | apply keep_drewN | apply keep_drew | apply keep_alloc) | exact HK.out)) hk (.inl rfl)); have n1_ := Aside0.mk (hb); have n2_ := Aside0.mk (hi); clear HK; clear HB; clear HI0; have HK := n0_; have HB := n1_; have HI0 := n2_; clear n0_ n1_ n2_; (try clear hb); (try clear hb2); (try clear hk); (try clear hi)) | ((with_reducible refine gate_callee (f := 81) rfl ?_); refine goesL_ (some 13) rfl rfl Try.func81 (by kernel_rfl) rfl #[.pointer (some ⟨g, 0, none⟩), .int .i64 2] rfl (by (try simp only [List.map_toArray, List.map_cons, List.map_nil]); first | done | rfl | (simp only [List.length_drop, List.length_take]; rfl)) ?_; (with_reducible refine (spec_l1Cur_one.calls g s0_0 t161 t162 2 false t176 t177 w0 _ ?side1 ?side2 A15.out).mono ?_); (case side1 => repeat (first | (with_reducible first | exact HI0.out | apply IsS74.alloc | apply IsS74.drewN | apply IsS74.drew | apply IsS74.set_1 | apply IsS74.set_2) | exact HI0.out)); (case side2 => repeat (first | (with_reducible first | exact HB.out | apply bA_ | apply bN_ | apply bD_ | refine bS_ ?_ (IsS74.ge HI0.out)) | exact HB.out)); rintro e w23 ⟨rfl, hi, hb, hk⟩; refine ⟨_, rfl, ?_⟩; have n0_ := Aside0.mk (KeepBut.trans (by repeat (first | (with_reducible first | exact HK.out | apply KeepBut.set_ | apply keep_drewN | apply keep_drew | apply keep_alloc) | exact HK.out)) hk (.inl rfl)); have n1_ := Aside0.mk (hb); have n2_ := Aside0.mk (hi); clear HK; clear HB; clear HI0; have HK := n0_; have HB := n1_; have HI0 := n2_; clear n0_ n1_ n2_; (try clear hb); (try clear hb2); (try clear hk); (try clear hi)) | ((with_reducible refine gate_callee (f := 89) rfl ?_); refine goesL_ (some 18) rfl rfl Try.func89 (by kernel_rfl) rfl #[.pointer (some ⟨g, 0, none⟩), .int .i64 4] rfl (by (try simp only [List.map_toArray, List.map_cons, List.map_nil]); first | done | rfl | (simp only [List.length_drop, List.length_take]; rfl)) ?_; (with_reducible refine (spec_l1Cur_pick.calls g s0_0 t176 t177 4 t181 t182 t183 w0 _ ?side1 ?side2 A21.out).mono ?_); (case side1 => repeat (first | (with_reducible first | exact HI0.out | apply IsS74.alloc | apply IsS74.drewN | apply IsS74.drew | apply IsS74.set_1 | apply IsS74.set_2) | exact HI0.out)); (case side2 => repeat (first | (with_reducible first | exact HB.out | apply bA_ | apply bN_ | apply bD_ | refine bS_ ?_ (IsS74.ge HI0.out)) | exact HB.out)); rintro e w24 ⟨rfl, hi, hb, hk⟩; refine ⟨_, rfl, ?_⟩; have n0_ := Aside0.mk (KeepBut.trans (by repeat (first | (with_reducible first | exact HK.out | apply KeepBut.set_ | apply keep_drewN | apply keep_drew | apply keep_alloc) | exact HK.out)) hk (.inl rfl)); have n1_ := Aside0.mk (hb); have n2_ := Aside0.mk (hi); clear HK; clear HB; clear HI0; have HK := n0_; have HB := n1_; have HI0 := n2_; clear n0_ n1_ n2_; (try clear hb); (try clear hb2); (try clear hk); (try clear hi)))
 go_ret2
 exact ⟨by first | rfl | (simp [errW_none, errW_some] <;> rfl) | (simp [*, errW_none, errW_some] <;> rfl), by repeat (first | (with_reducible first | exact HI0.out | apply IsS74.alloc | apply IsS74.drewN | apply IsS74.drew | apply IsS74.set_1 | apply IsS74.set_2) | exact HI0.out), by repeat (first | (with_reducible first | exact HB.out | apply bA_ | apply bN_ | apply bD_ | refine bS_ ?_ (IsS74.ge HI0.out)) | exact HB.out), by repeat (first | (with_reducible first | exact HK.out | apply KeepBut.set_ | apply keep_drewN | apply keep_drew | apply keep_alloc) | exact HK.out)⟩
def laws_xSame.l0 : Nat → List Int → List Int → Int → Int → Option (Bool)
 | 0, _, _, _, _ => none
 | k + 1, x0, x1, x12, x13 => if x13 < x12 then (if 0 ≤ x13 then (if x13 < (x0.length : Int) then (if x13 < (x1.length : Int) then (if (rd x0 x13) = (rd x1 x13) then (laws_xSame.l0 k x0 x1 x12 (wrap64 (x13 + 1))) else (some false)) else (none)) else (none)) else (none)) else (some true)
def laws_xSame.f (k : Nat) (l0 : List Int) (l1 : List Int) : Option (Bool) := if (l0.length : Int) = (l1.length : Int) then (laws_xSame.l0 k l0 l1 (l0.length : Int) 0) else (some false)
set_option maxHeartbeats 8000000 in
set_option maxRecDepth 100000 in
theorem laws_xSame.calls (k : Nat) (A0 : Option Addr) (c0 : Nat) (l0 : List Int) (A1 : Option Addr) (c1 : Nat) (l1 : List Int) (r : Bool) (w : World) (hr0 : Kd.C (Kd.int .i64) w A0 l0.length l0) (hc0 : l0.length ≤ c0) (hr1 : Kd.C (Kd.int .i64) w A1 l1.length l1) (hc1 : l1.length ≤ c1) (h : laws_xSame.f k l0 l1 = some r) :
  Calls Try.prog 47 #[.slice A0 l0.length c0, .slice A1 l1.length c1] w fun e w' => e = .returned (.bool r) ∧ Drawn0 w w' := by
 have HR0 := Aside0.mk hr0
 have HC0 := Aside0.mk hc0
 clear hr0 hc0
 have HR1 := Aside0.mk hr1
 have HC1 := Aside0.mk hc1
 clear hr1 hc1
 have H : (if (l0.length : Int) = (l1.length : Int) then (laws_xSame.l0 k l0 l1 (l0.length : Int) 0) else (some false)) = some r := h
 clear h
 by_cases c3 : (l0.length : Int) = (l1.length : Int)
 rotate_left
 ·rw [if_neg c3] at H
  have c3b0 : ((l0.length : Int) == (l1.length : Int)) = false := beq_eq_false_iff_ne.mpr c3
  have c3b1 : ((l0.length : Int) != (l1.length : Int)) = true := bne_iff_ne.mpr c3
  have c3b2 : (l0.length == l1.length) = false := by first | simpa using c3 | (simp at c3 ⊢; omega)
  obtain rfl := Option.some.inj H
  go_enter Try.func47, Try.ntmps47
  go_wp2
  repeat (go_quiet (fail); try go_wp2)
  go_ret
  exact ⟨by first | rfl | (simp; done) | (simp [*]; done), by repeat (first | exact Drawn0.refl _ | apply Drawn0.step)⟩
 rw [if_pos c3] at H
 have c3b0 : ((l0.length : Int) == (l1.length : Int)) = true := beq_iff_eq.mpr c3
 have c3b1 : ((l0.length : Int) != (l1.length : Int)) = false := bne_eq_false_iff_eq.mpr c3
 have c3b2 : (l0.length == l1.length) = true := by first | simpa using c3 | (simp at c3 ⊢; omega)
 clear c3
 have H' := Aside0.mk H
 clear H
 go_enter Try.func47, Try.ntmps47
 go_wp2
 repeat (go_quiet (fail); try go_wp2)
 go_loopg [13] k (fun kq v13 w' => ∃ (x13_1 : Int), v13 = .int .i64 x13_1 ∧ Aside0 (laws_xSame.l0 kq l0 l1 (l0.length : Int) x13_1 = some r) ∧ Aside0 (kq ≤ k) ∧ Drawn0 w w')
 case atStart => exact ⟨(0), (by first | rfl | (simp; done) | (simp [*]; done)), H', ⟨Nat.le_refl _⟩, by repeat (first | exact Drawn0.refl _ | apply Drawn0.step)⟩
 case round =>
  clear H'
  try clear c1
  try clear p2
  try clear c3
  try clear c3b0
  try clear c3b1
  try clear c3b2
  obtain ⟨x13_1, rfl, HA, HK1, ⟨m1, rfl⟩⟩ := hrel
  cases gk with
  | zero => exact absurd HA.out (by simp [laws_xSame.l0])
  | succ k1 =>
   have H := HA.out
   clear HA
   simp only [laws_xSame.l0] at H
   by_cases c4 : x13_1 < (l0.length : Int)
   rotate_left
   ·rw [if_neg c4] at H
    have c4b0 : decide (x13_1 < (l0.length : Int)) = false := decide_eq_false c4
    clear c4
    obtain rfl := Option.some.inj H
    go_wp2
    repeat (go_quiet (fail); try go_wp2)
    go_ret
    exact ⟨by first | rfl | (simp; done) | (simp [*]; done), by repeat (first | exact Drawn0.refl _ | apply Drawn0.step)⟩
   rw [if_pos c4] at H
   have c4b0 : decide (x13_1 < (l0.length : Int)) = true := decide_eq_true c4
   clear c4
   by_cases c5 : 0 ≤ x13_1
   rotate_left
   ·rw [if_neg c5] at H
    exact absurd H (by simp)
   rw [if_pos c5] at H
   have c5b0 : decide (0 ≤ x13_1) = true := decide_eq_true c5
   clear c5
   by_cases c6 : x13_1 < (l0.length : Int)
   rotate_left
   ·rw [if_neg c6] at H
    exact absurd H (by simp)
   rw [if_pos c6] at H
   have c6b0 : decide (x13_1 < (l0.length : Int)) = true := decide_eq_true c6
   clear c6
   by_cases c7 : x13_1 < (l1.length : Int)
   rotate_left
   ·rw [if_neg c7] at H
    exact absurd H (by simp)
   rw [if_pos c7] at H
   have c7b0 : decide (x13_1 < (l1.length : Int)) = true := decide_eq_true c7
   clear c7
   by_cases c8 : (rd l0 x13_1) = (rd l1 x13_1)
   rotate_left
   ·rw [if_neg c8] at H
    have c8b0 : ((rd l0 x13_1) == (rd l1 x13_1)) = false := beq_eq_false_iff_ne.mpr c8
    have c8b1 : ((rd l0 x13_1) != (rd l1 x13_1)) = true := bne_iff_ne.mpr c8
    obtain rfl := Option.some.inj H
    have p212 : 0 ≤ (x13_1 : Int) := of_decide_eq_true (by first | (with_reducible assumption) | assumption)
    have q212 : x13_1 < (l0.length : Int) := of_decide_eq_true (by first | (with_reducible assumption) | assumption)
    obtain ⟨ad212, e212, hx212_0⟩ := Kd.at_int HR0.out x13_1 p212 q212
    cases e212
    replace p212 := eq_true p212
    replace q212 := eq_true q212
    have p213 : 0 ≤ (x13_1 : Int) := of_decide_eq_true (by first | (with_reducible assumption) | assumption)
    have q213 : x13_1 < (l1.length : Int) := of_decide_eq_true (by first | (with_reducible assumption) | assumption)
    obtain ⟨ad213, e213, hx213_0⟩ := Kd.at_int HR1.out x13_1 p213 q213
    cases e213
    replace p213 := eq_true p213
    replace q213 := eq_true q213
    go_wp2
    repeat (go_quiet (fail); try go_wp2)
    go_ret
    exact ⟨by first | rfl | (simp; done) | (simp [*]; done), by repeat (first | exact Drawn0.refl _ | apply Drawn0.step)⟩
   rw [if_pos c8] at H
   have c8b0 : ((rd l0 x13_1) == (rd l1 x13_1)) = true := beq_iff_eq.mpr c8
   have c8b1 : ((rd l0 x13_1) != (rd l1 x13_1)) = false := bne_eq_false_iff_eq.mpr c8
   clear c8
   have H' := Aside0.mk H
   clear H
   have p212 : 0 ≤ (x13_1 : Int) := of_decide_eq_true (by first | (with_reducible assumption) | assumption)
   have q212 : x13_1 < (l0.length : Int) := of_decide_eq_true (by first | (with_reducible assumption) | assumption)
   obtain ⟨ad212, e212, hx212_0⟩ := Kd.at_int HR0.out x13_1 p212 q212
   cases e212
   replace p212 := eq_true p212
   replace q212 := eq_true q212
   have p213 : 0 ≤ (x13_1 : Int) := of_decide_eq_true (by first | (with_reducible assumption) | assumption)
   have q213 : x13_1 < (l1.length : Int) := of_decide_eq_true (by first | (with_reducible assumption) | assumption)
   obtain ⟨ad213, e213, hx213_0⟩ := Kd.at_int HR1.out x13_1 p213 q213
   cases e213
   replace p213 := eq_true p213
   replace q213 := eq_true q213
   go_wp2
   repeat (go_quiet (fail); try go_wp2)
   go_roundg k1
   case measure => have := HK1.out; omega
   case rel => exact ⟨(wrap64 (x13_1 + 1)), (by first | rfl | (simp; done) | (simp [*]; done)), H', ⟨by have := HK1.out; omega⟩, by repeat (first | exact Drawn0.refl _ | apply Drawn0.step)⟩
def laws_xMost.l0 : Nat → Int → List Int → Int → Int → Option (Int)
 | 0, _, _, _, _ => none
 | k + 1, x3, x6, x7, x8 => if x8 < x7 then (if 0 ≤ x8 then (if x8 < (x6.length : Int) then (if (rd x6 x8) > x3 then (laws_xMost.l0 k (rd x6 x8) x6 x7 (wrap64 (x8 + 1))) else (laws_xMost.l0 k x3 x6 x7 (wrap64 (x8 + 1)))) else (none)) else (none)) else (some x3)
def laws_xSum.l0 : Nat → Int → List Int → Int → Int → Option (Int)
 | 0, _, _, _, _ => none
 | k + 1, x3, x6, x7, x8 => if x8 < x7 then (if 0 ≤ x8 then (if x8 < (x6.length : Int) then (laws_xSum.l0 k (wrap64 (x3 + (rd x6 x8))) x6 x7 (wrap64 (x8 + 1))) else (none)) else (none)) else (some x3)
def laws_xSum.f (k : Nat) (l0 : List Int) : Option (Int) := laws_xSum.l0 k 0 l0 (l0.length : Int) 0
set_option maxHeartbeats 8000000 in
set_option maxRecDepth 100000 in
theorem laws_xSum.calls (k : Nat) (A0 : Option Addr) (c0 : Nat) (l0 : List Int) (r : Int) (w : World) (hr0 : Kd.C (Kd.int .i64) w A0 l0.length l0) (hc0 : l0.length ≤ c0) (h : laws_xSum.f k l0 = some r) :
  Calls Try.prog 49 #[.slice A0 l0.length c0] w fun e w' => e = .returned (.int .i64 r) ∧ Drawn0 w w' := by
 have HR0 := Aside0.mk hr0
 have HC0 := Aside0.mk hc0
 clear hr0 hc0
 have H : (laws_xSum.l0 k 0 l0 (l0.length : Int) 0) = some r := h
 clear h
 have H' := Aside0.mk H
 clear H
 go_enter Try.func49, Try.ntmps49
 go_wp2
 go_loopg [3, 8] k (fun kq v3 v8 w' => ∃ (x3_1 : Int) (x8_1 : Int), v3 = .int .i64 x3_1 ∧ v8 = .int .i64 x8_1 ∧ Aside0 (laws_xSum.l0 kq x3_1 l0 (l0.length : Int) x8_1 = some r) ∧ Aside0 (kq ≤ k) ∧ Drawn0 w w')
 case atStart => exact ⟨(0), (0), (by first | rfl | (simp; done) | (simp [*]; done)), (by first | rfl | (simp; done) | (simp [*]; done)), H', ⟨Nat.le_refl _⟩, by repeat (first | exact Drawn0.refl _ | apply Drawn0.step)⟩
 case round =>
  clear H'
  obtain ⟨x3_1, x8_1, rfl, rfl, HA, HK1, ⟨m1, rfl⟩⟩ := hrel
  cases gk with
  | zero => exact absurd HA.out (by simp [laws_xSum.l0])
  | succ k1 =>
   have H := HA.out
   clear HA
   simp only [laws_xSum.l0] at H
   by_cases c2 : x8_1 < (l0.length : Int)
   rotate_left
   ·rw [if_neg c2] at H
    have c2b0 : decide (x8_1 < (l0.length : Int)) = false := decide_eq_false c2
    clear c2
    obtain rfl := Option.some.inj H
    go_wp2
    go_ret
    exact ⟨by first | rfl | (simp; done) | (simp [*]; done), by repeat (first | exact Drawn0.refl _ | apply Drawn0.step)⟩
   rw [if_pos c2] at H
   have c2b0 : decide (x8_1 < (l0.length : Int)) = true := decide_eq_true c2
   clear c2
   by_cases c3 : 0 ≤ x8_1
   rotate_left
   ·rw [if_neg c3] at H
    exact absurd H (by simp)
   rw [if_pos c3] at H
   have c3b0 : decide (0 ≤ x8_1) = true := decide_eq_true c3
   clear c3
   by_cases c4 : x8_1 < (l0.length : Int)
   rotate_left
   ·rw [if_neg c4] at H
    exact absurd H (by simp)
   rw [if_pos c4] at H
   have c4b0 : decide (x8_1 < (l0.length : Int)) = true := decide_eq_true c4
   clear c4
   have H' := Aside0.mk H
   clear H
   have p215 : 0 ≤ (x8_1 : Int) := of_decide_eq_true (by first | (with_reducible assumption) | assumption)
   have q215 : x8_1 < (l0.length : Int) := of_decide_eq_true (by first | (with_reducible assumption) | assumption)
   obtain ⟨ad215, e215, hx215_0⟩ := Kd.at_int HR0.out x8_1 p215 q215
   cases e215
   replace p215 := eq_true p215
   replace q215 := eq_true q215
   go_wp2
   go_roundg k1
   case measure => have := HK1.out; omega
   case rel => exact ⟨(wrap64 (x3_1 + (rd l0 x8_1))), (wrap64 (x8_1 + 1)), (by first | rfl | (simp; done) | (simp [*]; done)), (by first | rfl | (simp; done) | (simp [*]; done)), H', ⟨by have := HK1.out; omega⟩, by repeat (first | exact Drawn0.refl _ | apply Drawn0.step)⟩
def spec_CountNodes.f (k : Nat) (a0 : Int) (a1 : Int) : Option (Int × Bool) := (spec_esNodes.f k a0 a1).bind fun t218 => (some (t218, decide (t218 > 0)))
theorem spec_CountNodes.mono : ∀ a0 a1 k, LeO (spec_CountNodes.f k a0 a1) (spec_CountNodes.f (k + 1) a0 a1) := by
 intro a0 a1 k
 unfold spec_CountNodes.f
 repeat' first
   | (with_reducible exact spec_esNodes.mono _ _ _)
   | (with_reducible exact LeO.refl _)
   | (with_reducible exact LeO.none _)
   | (with_reducible refine LeO.ite ?_ ?_)
   | (with_reducible refine LeO.bind ?_ (fun _ => ?_))
   | exact spec_esNodes.mono _ _ _
   | exact LeO.none _
   | refine LeO.ite ?_ ?_
   | refine LeO.bind ?_ (fun _ => ?_)
set_option maxHeartbeats 8000000 in
set_option maxRecDepth 100000 in
theorem spec_CountNodes.calls (k : Nat) (a0 : Int) (a1 : Int) (r1 : Int) (r2 : Bool) (w : World) (h : spec_CountNodes.f k a0 a1 = some (r1, r2)) :
  Calls Try.prog 17 #[.int .i64 a0, .int .i64 a1] w fun e w' => e = .returned (.tuple #[.int .i64 r1, .bool r2]) ∧ Drawn0 w w' := by
 have H : ((spec_esNodes.f k a0 a1).bind fun t218 => (some (t218, decide (t218 > 0)))) = some (r1, r2) := h
 clear h
 replace H := Option.bind_eq_some_iff.mp H
 obtain ⟨t218, A30, H⟩ := H
 replace H : (some (t218, decide (t218 > 0))) = some (r1, r2) := H
 have A3 := Aside0.mk A30
 clear A30
 simp only [Option.some.injEq, Prod.mk.injEq] at H
 obtain ⟨rfl, rfl⟩ := H
 go_enter Try.func17, Try.ntmps17
 go_wp2_with (first | ((with_reducible refine gate_callee (f := 55) rfl ?_); refine goesL_ (some 9) rfl rfl Try.func55 (by kernel_rfl) rfl #[.int .i64 a0, .int .i64 a1] rfl (by (try simp only [List.map_toArray, List.map_cons, List.map_nil]); first | done | rfl | (simp only [List.length_drop, List.length_take]; rfl)) ?_; (with_reducible refine (spec_esNodes.calls k a0 a1 t218 _ A3.out).mono ?_); rintro e w' ⟨rfl, ⟨nd, rfl⟩⟩; refine ⟨_, rfl, ?_⟩))
 go_ret2
 exact ⟨by first | rfl | (simp; done) | (simp [*]; done), by repeat (first | exact Drawn0.refl _ | apply Drawn0.step)⟩
end Go.Proofs.Ytmechelmnpoddaa.F7
namespace Go.Proofs.Ytmechelmnpoddaa.F7
open Go.RowKit YtmechelmnpoddaaW.PrintWords YtmechelmnpoddaaW.PrintLast YtmechelmnpoddaaW.PrintMore
open A7 E7 H7
attribute [local go_sem] max2_int min2_int max_two min_two max_three min_three max_four min_four
def impl_CountNodes.f (k : Nat) (a0 : Int) (a1 : Int) : Option (Int × Bool) := (impl_isBranching.f k a0 a1).bind fun t219 => (if t219 = true then ((impl_nodesOf.f k a0 a1).bind fun t220 => (some (t220, true))) else (some (0, false)))
theorem impl_CountNodes.mono : ∀ a0 a1 k, LeO (impl_CountNodes.f k a0 a1) (impl_CountNodes.f (k + 1) a0 a1) := by
 intro a0 a1 k
 unfold impl_CountNodes.f
 repeat' first
   | (with_reducible exact impl_isBranching.mono _ _ _)
   | (with_reducible exact impl_nodesOf.mono _ _ _)
   | (with_reducible exact LeO.refl _)
   | (with_reducible exact LeO.none _)
   | (with_reducible refine LeO.ite ?_ ?_)
   | (with_reducible refine LeO.bind ?_ (fun _ => ?_))
   | exact impl_isBranching.mono _ _ _
   | exact impl_nodesOf.mono _ _ _
   | exact LeO.none _
   | refine LeO.ite ?_ ?_
   | refine LeO.bind ?_ (fun _ => ?_)
set_option maxHeartbeats 8000000 in
set_option maxRecDepth 100000 in
theorem impl_CountNodes.calls (k : Nat) (a0 : Int) (a1 : Int) (r1 : Int) (r2 : Bool) (w : World) (h : impl_CountNodes.f k a0 a1 = some (r1, r2)) :
  Calls Try.prog 18 #[.int .i64 a0, .int .i64 a1] w fun e w' => e = .returned (.tuple #[.int .i64 r1, .bool r2]) ∧ Drawn0 w w' := by
 have H : ((impl_isBranching.f k a0 a1).bind fun t219 => (if t219 = true then ((impl_nodesOf.f k a0 a1).bind fun t220 => (some (t220, true))) else (some (0, false)))) = some (r1, r2) := h
 clear h
 replace H := Option.bind_eq_some_iff.mp H
 obtain ⟨t219, A30, H⟩ := H
 replace H : (if t219 = true then ((impl_nodesOf.f k a0 a1).bind fun t220 => (some (t220, true))) else (some (0, false))) = some (r1, r2) := H
 have A3 := Aside0.mk A30
 clear A30
 by_cases c4 : t219 = true
 rotate_left
 ·replace c4 := Bool.eq_false_iff.mpr c4
  subst c4
  have H1 : (some (0, false)) = some (r1, r2) := by rw [if_neg (show ¬ (false = true) by decide)] at H; exact H
  clear H
  have H := H1
  clear H1
  simp only [Option.some.injEq, Prod.mk.injEq] at H
  obtain ⟨rfl, rfl⟩ := H
  go_enter Try.func18, Try.ntmps18
  go_wp2_with (first | ((with_reducible refine gate_callee (f := 56) rfl ?_); refine goesL_ (some 8) rfl rfl Try.func56 (by kernel_rfl) rfl #[.int .i64 a0, .int .i64 a1] rfl (by (try simp only [List.map_toArray, List.map_cons, List.map_nil]); first | done | rfl | (simp only [List.length_drop, List.length_take]; rfl)) ?_; (with_reducible refine (impl_isBranching.calls k a0 a1 false _ A3.out).mono ?_); rintro e w' ⟨rfl, ⟨nd, rfl⟩⟩; refine ⟨_, rfl, ?_⟩))
  go_ret2
  exact ⟨by first | rfl | (simp; done) | (simp [*]; done), by repeat (first | exact Drawn0.refl _ | apply Drawn0.step)⟩
 subst c4
 have H1 : ((impl_nodesOf.f k a0 a1).bind fun t220 => (some (t220, true))) = some (r1, r2) := by rw [if_pos rfl] at H; exact H
 clear H
 have H := H1
 clear H1
 replace H := Option.bind_eq_some_iff.mp H
 obtain ⟨t220, A50, H⟩ := H
 replace H : (some (t220, true)) = some (r1, r2) := H
 have A5 := Aside0.mk A50
 clear A50
 simp only [Option.some.injEq, Prod.mk.injEq] at H
 obtain ⟨rfl, rfl⟩ := H
 go_enter Try.func18, Try.ntmps18
 go_wp2_with (first | ((with_reducible refine gate_callee (f := 56) rfl ?_); refine goesL_ (some 8) rfl rfl Try.func56 (by kernel_rfl) rfl #[.int .i64 a0, .int .i64 a1] rfl (by (try simp only [List.map_toArray, List.map_cons, List.map_nil]); first | done | rfl | (simp only [List.length_drop, List.length_take]; rfl)) ?_; (with_reducible refine (impl_isBranching.calls k a0 a1 true _ A3.out).mono ?_); rintro e w' ⟨rfl, ⟨nd, rfl⟩⟩; refine ⟨_, rfl, ?_⟩) | ((with_reducible refine gate_callee (f := 57) rfl ?_); refine goesL_ (some 12) rfl rfl Try.func57 (by kernel_rfl) rfl #[.int .i64 a0, .int .i64 a1] rfl (by (try simp only [List.map_toArray, List.map_cons, List.map_nil]); first | done | rfl | (simp only [List.length_drop, List.length_take]; rfl)) ?_; (with_reducible refine (impl_nodesOf.calls k a0 a1 t220 _ A5.out).mono ?_); rintro e w' ⟨rfl, ⟨nd, rfl⟩⟩; refine ⟨_, rfl, ?_⟩))
 go_ret2
 exact ⟨by first | rfl | (simp; done) | (simp [*]; done), by repeat (first | exact Drawn0.refl _ | apply Drawn0.step)⟩
def spec_ChipsInRound.f (k : Nat) (a0 : Int) (a1 : Int) : Option (Int × Bool) := (spec_CountNodes.f k a0 a1).bind fun bt221 => (some (bt221.1, bt221.2))
theorem spec_ChipsInRound.mono : ∀ a0 a1 k, LeO (spec_ChipsInRound.f k a0 a1) (spec_ChipsInRound.f (k + 1) a0 a1) := by
 intro a0 a1 k
 unfold spec_ChipsInRound.f
 repeat' first
   | (with_reducible exact spec_CountNodes.mono _ _ _)
   | (with_reducible exact LeO.refl _)
   | (with_reducible exact LeO.none _)
   | (with_reducible refine LeO.ite ?_ ?_)
   | (with_reducible refine LeO.bind ?_ (fun _ => ?_))
   | exact spec_CountNodes.mono _ _ _
   | exact LeO.none _
   | refine LeO.ite ?_ ?_
   | refine LeO.bind ?_ (fun _ => ?_)
set_option maxHeartbeats 8000000 in
set_option maxRecDepth 100000 in
theorem spec_ChipsInRound.calls (k : Nat) (a0 : Int) (a1 : Int) (r1 : Int) (r2 : Bool) (w : World) (h : spec_ChipsInRound.f k a0 a1 = some (r1, r2)) :
  Calls Try.prog 19 #[.int .i64 a0, .int .i64 a1] w fun e w' => e = .returned (.tuple #[.int .i64 r1, .bool r2]) ∧ Drawn0 w w' := by
 have H : ((spec_CountNodes.f k a0 a1).bind fun bt221 => (some (bt221.1, bt221.2))) = some (r1, r2) := h
 clear h
 replace H := Option.bind_eq_some_iff.mp H
 obtain ⟨⟨t221, t222⟩, A30, H⟩ := H
 replace H : (some (t221, t222)) = some (r1, r2) := H
 have A3 := Aside0.mk A30
 clear A30
 simp only [Option.some.injEq, Prod.mk.injEq] at H
 obtain ⟨rfl, rfl⟩ := H
 go_enter Try.func19, Try.ntmps19
 go_wp2_with (first | ((with_reducible refine gate_callee (f := 17) rfl ?_); refine goesL_ (some 8) rfl rfl Try.func17 (by kernel_rfl) rfl #[.int .i64 a0, .int .i64 a1] rfl (by (try simp only [List.map_toArray, List.map_cons, List.map_nil]); first | done | rfl | (simp only [List.length_drop, List.length_take]; rfl)) ?_; (with_reducible refine (spec_CountNodes.calls k a0 a1 t221 t222 _ A3.out).mono ?_); rintro e w' ⟨rfl, ⟨nd, rfl⟩⟩; refine ⟨_, rfl, ?_⟩))
 go_ret2
 exact ⟨by first | rfl | (simp; done) | (simp [*]; done), by repeat (first | exact Drawn0.refl _ | apply Drawn0.step)⟩
def impl_ChipsInRound.f (k : Nat) (a0 : Int) (a1 : Int) : Option (Int × Bool) := (impl_CountNodes.f k a0 a1).bind fun bt223 => (some (bt223.1, bt223.2))
theorem impl_ChipsInRound.mono : ∀ a0 a1 k, LeO (impl_ChipsInRound.f k a0 a1) (impl_ChipsInRound.f (k + 1) a0 a1) := by
 intro a0 a1 k
 unfold impl_ChipsInRound.f
 repeat' first
   | (with_reducible exact impl_CountNodes.mono _ _ _)
   | (with_reducible exact LeO.refl _)
   | (with_reducible exact LeO.none _)
   | (with_reducible refine LeO.ite ?_ ?_)
   | (with_reducible refine LeO.bind ?_ (fun _ => ?_))
   | exact impl_CountNodes.mono _ _ _
   | exact LeO.none _
   | refine LeO.ite ?_ ?_
   | refine LeO.bind ?_ (fun _ => ?_)
set_option maxHeartbeats 8000000 in
set_option maxRecDepth 100000 in
theorem impl_ChipsInRound.calls (k : Nat) (a0 : Int) (a1 : Int) (r1 : Int) (r2 : Bool) (w : World) (h : impl_ChipsInRound.f k a0 a1 = some (r1, r2)) :
  Calls Try.prog 20 #[.int .i64 a0, .int .i64 a1] w fun e w' => e = .returned (.tuple #[.int .i64 r1, .bool r2]) ∧ Drawn0 w w' := by
 have H : ((impl_CountNodes.f k a0 a1).bind fun bt223 => (some (bt223.1, bt223.2))) = some (r1, r2) := h
 clear h
 replace H := Option.bind_eq_some_iff.mp H
 obtain ⟨⟨t223, t224⟩, A30, H⟩ := H
 replace H : (some (t223, t224)) = some (r1, r2) := H
 have A3 := Aside0.mk A30
 clear A30
 simp only [Option.some.injEq, Prod.mk.injEq] at H
 obtain ⟨rfl, rfl⟩ := H
 go_enter Try.func20, Try.ntmps20
 go_wp2_with (first | ((with_reducible refine gate_callee (f := 18) rfl ?_); refine goesL_ (some 8) rfl rfl Try.func18 (by kernel_rfl) rfl #[.int .i64 a0, .int .i64 a1] rfl (by (try simp only [List.map_toArray, List.map_cons, List.map_nil]); first | done | rfl | (simp only [List.length_drop, List.length_take]; rfl)) ?_; (with_reducible refine (impl_CountNodes.calls k a0 a1 t223 t224 _ A3.out).mono ?_); rintro e w' ⟨rfl, ⟨nd, rfl⟩⟩; refine ⟨_, rfl, ?_⟩))
 go_ret2
 exact ⟨by first | rfl | (simp; done) | (simp [*]; done), by repeat (first | exact Drawn0.refl _ | apply Drawn0.step)⟩
def spec_EscapeChance.f (k : Nat) (a0 : Int) (a1 : Int) : Option (Int × Int × Bool) := (spec_esNodes.f k a0 a1).bind fun t229 => (if t229 = 0 then (some (0, 0, false)) else ((spec_esPower.f k a0 a1).bind fun t230 => ((spec_esPower.f k a0 a1).bind fun t231 => ((spec_hiRatio.f k (wrap64 ((wrap64 (a0 - 1)) * t230)) (wrap64 ((wrap64 (a0 * t231)) - 1))).bind fun bt232 => (some (bt232.1, bt232.2, true))))))
theorem spec_EscapeChance.mono : ∀ a0 a1 k, LeO (spec_EscapeChance.f k a0 a1) (spec_EscapeChance.f (k + 1) a0 a1) := by
 intro a0 a1 k
 unfold spec_EscapeChance.f
 repeat' first
   | (with_reducible exact spec_esNodes.mono _ _ _)
   | (with_reducible exact spec_esPower.mono _ _ _)
   | (with_reducible exact spec_hiRatio.mono _ _ _)
   | (with_reducible exact LeO.refl _)
   | (with_reducible exact LeO.none _)
   | (with_reducible refine LeO.ite ?_ ?_)
   | (with_reducible refine LeO.bind ?_ (fun _ => ?_))
   | exact spec_esNodes.mono _ _ _
   | exact spec_esPower.mono _ _ _
   | exact spec_hiRatio.mono _ _ _
   | exact LeO.none _
   | refine LeO.ite ?_ ?_
   | refine LeO.bind ?_ (fun _ => ?_)
set_option maxHeartbeats 8000000 in
set_option maxRecDepth 100000 in
theorem spec_EscapeChance.calls (k : Nat) (a0 : Int) (a1 : Int) (r1 : Int) (r2 : Int) (r3 : Bool) (w : World) (h : spec_EscapeChance.f k a0 a1 = some (r1, r2, r3)) :
  Calls Try.prog 21 #[.int .i64 a0, .int .i64 a1] w fun e w' => e = .returned (.tuple #[.agg #[.int .i64 r1, .int .i64 r2], .bool r3]) ∧ Below w.heap.size w w' := by
 have hu26 := Try.underlying26
 have HB := Aside0.mk (Below.refl w.heap.size w)
 have H : ((spec_esNodes.f k a0 a1).bind fun t229 => (if t229 = 0 then (some (0, 0, false)) else ((spec_esPower.f k a0 a1).bind fun t230 => ((spec_esPower.f k a0 a1).bind fun t231 => ((spec_hiRatio.f k (wrap64 ((wrap64 (a0 - 1)) * t230)) (wrap64 ((wrap64 (a0 * t231)) - 1))).bind fun bt232 => (some (bt232.1, bt232.2, true))))))) = some (r1, r2, r3) := h
 clear h
 replace H := Option.bind_eq_some_iff.mp H
 obtain ⟨t229, A30, H⟩ := H
 replace H : (if t229 = 0 then (some (0, 0, false)) else ((spec_esPower.f k a0 a1).bind fun t230 => ((spec_esPower.f k a0 a1).bind fun t231 => ((spec_hiRatio.f k (wrap64 ((wrap64 (a0 - 1)) * t230)) (wrap64 ((wrap64 (a0 * t231)) - 1))).bind fun bt232 => (some (bt232.1, bt232.2, true)))))) = some (r1, r2, r3) := H
 have A3 := Aside0.mk A30
 clear A30
 by_cases c4 : t229 = 0
 ·rw [if_pos c4] at H
  have c4b0 : (t229 == 0) = true := beq_iff_eq.mpr c4
  have c4b1 : (t229 != 0) = false := bne_eq_false_iff_eq.mpr c4
  clear c4
  simp only [Option.some.injEq, Prod.mk.injEq] at H
  obtain ⟨rfl, rfl, rfl⟩ := H
  go_enter Try.func21, Try.ntmps21
  go_wp2_with (first | ((with_reducible refine gate_dst (N := 4) rfl ?_); refine box_event ?hg (N := 4) ?hd (cs := #[.int .i64 0, .int .i64 0]) (t := 26) ?hr ?_; (case hd => rfl); (case hg => rfl); (case hr => first | (go_simp; done) | (go_simp; rfl)); intro gb228 hg w5 hbox hb; have n0_ := Aside0.mk (bP_ (by repeat (first | (with_reducible first | exact HB.out | apply bA_ | apply bN_ | apply bD_) | exact HB.out)) hb); have n1_ := Aside0.mk (hbox); have n2_ := Aside0.mk ((by rw [hg]; exact (bZ_ (by repeat (first | (with_reducible first | exact HB.out | apply bA_ | apply bN_ | apply bD_) | exact HB.out))) : w.heap.size ≤ gb228)); have n3_ := Aside0.mk ((by rw [hg]; exact (bZ_ (by repeat (first | (with_reducible first | exact HB.out | apply bA_ | apply bN_ | apply bD_) | exact HB.out))) : w.heap.size ≤ gb228)); clear HB; have HB := n0_; have BK228 := n1_; have GW228 := n2_; have GE228 := n3_; clear n0_ n1_ n2_ n3_; clear hb hbox hg) | ((with_reducible refine gate_callee (f := 55) rfl ?_); refine goesL_ (some 8) rfl rfl Try.func55 (by kernel_rfl) rfl #[.int .i64 a0, .int .i64 a1] rfl (by (try simp only [List.map_toArray, List.map_cons, List.map_nil]); first | done | rfl | (simp only [List.length_drop, List.length_take]; rfl)) ?_; (with_reducible refine (spec_esNodes.calls k a0 a1 t229 _ A3.out).mono ?_); rintro e w' ⟨rfl, ⟨nd, rfl⟩⟩; refine ⟨_, rfl, ?_⟩; (try (rw [drewN_self w5]; generalize hq_ : World.drewN w5 _ = w5; have n0_ : Aside0 (w5.heap[gb228]? = some (.cells #[.int .i64 0, .int .i64 0] 26 (0, 0))) := ⟨by rw [← hq_]; exact (by (with_reducible repeat (first | apply kN_ | apply kD_ | apply kA_)); exact BK228.out)⟩; have n1_ : Aside0 (Below w.heap.size w w5) := ⟨by rw [← hq_]; exact (by repeat (first | (with_reducible first | exact HB.out | apply bA_ | apply bN_ | apply bD_ | refine bS_ ?_ GE228.out) | exact HB.out))⟩; clear BK228 HB hq_; have BK228 := n0_; have HB := n1_; clear n0_ n1_)); have hcz6_0 : w5.cell? ⟨gb228, 0, none⟩ = some (.int .i64 0) := (blk_cell BK228.out 0).trans rfl; have hcz6_1 : w5.cell? ⟨gb228, 1, none⟩ = some (.int .i64 0) := (blk_cell BK228.out 1).trans rfl; have hfz6_0 := kF_ BK228.out 0; have hfz6_1 := kF_ BK228.out 1))
  refine bodyPost_ret (results_ct rfl _ _ gb228 26 #[.int .i64 0, .int .i64 0] (0, 0) _ rfl (by (with_reducible repeat (first | apply kN_ | apply kD_ | apply kA_)); refine blk_put (cs := #[.int .i64 0, .int .i64 0]) ?_ 1 _ rfl; (with_reducible repeat (first | apply kN_ | apply kD_ | apply kA_)); refine blk_put (cs := #[.int .i64 0, .int .i64 0]) ?_ 0 _ rfl; (with_reducible repeat (first | apply kN_ | apply kD_ | apply kA_)); exact BK228.out) Try.underlying26 rfl (by kernel_rfl)) rfl ?_
  exact ⟨by first | rfl | (simp [errW_none, errW_some] <;> rfl) | (simp [*, errW_none, errW_some] <;> rfl), by repeat (first | (with_reducible first | exact HB.out | apply bA_ | apply bN_ | apply bD_ | refine bS_ ?_ GE228.out) | exact HB.out)⟩
 rw [if_neg c4] at H
 have c4b0 : (t229 == 0) = false := beq_eq_false_iff_ne.mpr c4
 have c4b1 : (t229 != 0) = true := bne_iff_ne.mpr c4
 replace H := Option.bind_eq_some_iff.mp H
 obtain ⟨t230, A70, H⟩ := H
 replace H : ((spec_esPower.f k a0 a1).bind fun t231 => ((spec_hiRatio.f k (wrap64 ((wrap64 (a0 - 1)) * t230)) (wrap64 ((wrap64 (a0 * t231)) - 1))).bind fun bt232 => (some (bt232.1, bt232.2, true)))) = some (r1, r2, r3) := H
 have A7 := Aside0.mk A70
 clear A70
 replace H := Option.bind_eq_some_iff.mp H
 obtain ⟨t231, A80, H⟩ := H
 replace H : ((spec_hiRatio.f k (wrap64 ((wrap64 (a0 - 1)) * t230)) (wrap64 ((wrap64 (a0 * t231)) - 1))).bind fun bt232 => (some (bt232.1, bt232.2, true))) = some (r1, r2, r3) := H
 have A8 := Aside0.mk A80
 clear A80
 replace H := Option.bind_eq_some_iff.mp H
 obtain ⟨⟨t232, t233⟩, A90, H⟩ := H
 replace H : (some (t232, t233, true)) = some (r1, r2, r3) := H
 have A9 := Aside0.mk A90
 clear A90
 simp only [Option.some.injEq, Prod.mk.injEq] at H
 obtain ⟨rfl, rfl, rfl⟩ := H
 go_enter Try.func21, Try.ntmps21
 go_wp2_with (first | ((with_reducible refine gate_dst (N := 4) rfl ?_); refine box_event ?hg (N := 4) ?hd (cs := #[.int .i64 0, .int .i64 0]) (t := 26) ?hr ?_; (case hd => rfl); (case hg => rfl); (case hr => first | (go_simp; done) | (go_simp; rfl)); intro gb228 hg w10 hbox hb; have n0_ := Aside0.mk (bP_ (by repeat (first | (with_reducible first | exact HB.out | apply bA_ | apply bN_ | apply bD_) | exact HB.out)) hb); have n1_ := Aside0.mk (hbox); have n2_ := Aside0.mk ((by rw [hg]; exact (bZ_ (by repeat (first | (with_reducible first | exact HB.out | apply bA_ | apply bN_ | apply bD_) | exact HB.out))) : w.heap.size ≤ gb228)); have n3_ := Aside0.mk ((by rw [hg]; exact (bZ_ (by repeat (first | (with_reducible first | exact HB.out | apply bA_ | apply bN_ | apply bD_) | exact HB.out))) : w.heap.size ≤ gb228)); clear HB; have HB := n0_; have BK228 := n1_; have GW228 := n2_; have GE228 := n3_; clear n0_ n1_ n2_ n3_; clear hb hbox hg) | ((with_reducible refine gate_callee (f := 55) rfl ?_); refine goesL_ (some 8) rfl rfl Try.func55 (by kernel_rfl) rfl #[.int .i64 a0, .int .i64 a1] rfl (by (try simp only [List.map_toArray, List.map_cons, List.map_nil]); first | done | rfl | (simp only [List.length_drop, List.length_take]; rfl)) ?_; (with_reducible refine (spec_esNodes.calls k a0 a1 t229 _ A3.out).mono ?_); rintro e w' ⟨rfl, ⟨nd, rfl⟩⟩; refine ⟨_, rfl, ?_⟩; (try (rw [drewN_self w10]; generalize hq_ : World.drewN w10 _ = w10; have n0_ : Aside0 (w10.heap[gb228]? = some (.cells #[.int .i64 0, .int .i64 0] 26 (0, 0))) := ⟨by rw [← hq_]; exact (by (with_reducible repeat (first | apply kN_ | apply kD_ | apply kA_)); exact BK228.out)⟩; have n1_ : Aside0 (Below w.heap.size w w10) := ⟨by rw [← hq_]; exact (by repeat (first | (with_reducible first | exact HB.out | apply bA_ | apply bN_ | apply bD_ | refine bS_ ?_ GE228.out) | exact HB.out))⟩; clear BK228 HB hq_; have BK228 := n0_; have HB := n1_; clear n0_ n1_))) | ((with_reducible refine gate_callee (f := 59) rfl ?_); refine goesL_ (some 15) rfl rfl Try.func59 (by kernel_rfl) rfl #[.int .i64 a0, .int .i64 a1] rfl (by (try simp only [List.map_toArray, List.map_cons, List.map_nil]); first | done | rfl | (simp only [List.length_drop, List.length_take]; rfl)) ?_; (with_reducible refine (spec_esPower.calls k a0 a1 t230 _ A7.out).mono ?_); rintro e w' ⟨rfl, ⟨nd, rfl⟩⟩; refine ⟨_, rfl, ?_⟩; (try (rw [drewN_self w10]; generalize hq_ : World.drewN w10 _ = w10; have n0_ : Aside0 (w10.heap[gb228]? = some (.cells #[.int .i64 0, .int .i64 0] 26 (0, 0))) := ⟨by rw [← hq_]; exact (by (with_reducible repeat (first | apply kN_ | apply kD_ | apply kA_)); exact BK228.out)⟩; have n1_ : Aside0 (Below w.heap.size w w10) := ⟨by rw [← hq_]; exact (by repeat (first | (with_reducible first | exact HB.out | apply bA_ | apply bN_ | apply bD_ | refine bS_ ?_ GE228.out) | exact HB.out))⟩; clear BK228 HB hq_; have BK228 := n0_; have HB := n1_; clear n0_ n1_))) | ((with_reducible refine gate_callee (f := 59) rfl ?_); refine goesL_ (some 20) rfl rfl Try.func59 (by kernel_rfl) rfl #[.int .i64 a0, .int .i64 a1] rfl (by (try simp only [List.map_toArray, List.map_cons, List.map_nil]); first | done | rfl | (simp only [List.length_drop, List.length_take]; rfl)) ?_; (with_reducible refine (spec_esPower.calls k a0 a1 t231 _ A8.out).mono ?_); rintro e w' ⟨rfl, ⟨nd, rfl⟩⟩; refine ⟨_, rfl, ?_⟩; (try (rw [drewN_self w10]; generalize hq_ : World.drewN w10 _ = w10; have n0_ : Aside0 (w10.heap[gb228]? = some (.cells #[.int .i64 0, .int .i64 0] 26 (0, 0))) := ⟨by rw [← hq_]; exact (by (with_reducible repeat (first | apply kN_ | apply kD_ | apply kA_)); exact BK228.out)⟩; have n1_ : Aside0 (Below w.heap.size w w10) := ⟨by rw [← hq_]; exact (by repeat (first | (with_reducible first | exact HB.out | apply bA_ | apply bN_ | apply bD_ | refine bS_ ?_ GE228.out) | exact HB.out))⟩; clear BK228 HB hq_; have BK228 := n0_; have HB := n1_; clear n0_ n1_))) | ((with_reducible refine gate_callee (f := 58) rfl ?_); refine goesL_ (some 23) rfl rfl Try.func58 (by kernel_rfl) rfl #[.int .i64 (wrap64 ((wrap64 (a0 - 1)) * t230)), .int .i64 (wrap64 ((wrap64 (a0 * t231)) - 1))] rfl (by (try simp only [List.map_toArray, List.map_cons, List.map_nil]); first | done | rfl | (simp only [List.length_drop, List.length_take]; rfl)) ?_; (with_reducible refine (spec_hiRatio.calls k (wrap64 ((wrap64 (a0 - 1)) * t230)) (wrap64 ((wrap64 (a0 * t231)) - 1)) t232 t233 _ A9.out).mono ?_); rintro e w11 ⟨rfl, hb⟩; refine ⟨_, rfl, ?_⟩; have n0_ := Aside0.mk (blk_below (g := gb228) (o := .cells #[.int .i64 0, .int .i64 0] 26 (0, 0)) (by (with_reducible repeat (first | apply kN_ | apply kD_ | apply kA_)); exact BK228.out) hb); have n1_ := Aside0.mk (bP_ (by repeat (first | (with_reducible first | exact HB.out | apply bA_ | apply bN_ | apply bD_ | refine bS_ ?_ GE228.out) | exact HB.out)) hb); clear BK228; clear HB; have BK228 := n0_; have HB := n1_; clear n0_ n1_; (try clear hb); (try clear hb2); (try clear hk); (try clear hi); have hcz12_0 : w11.cell? ⟨gb228, 0, none⟩ = some (.int .i64 0) := (blk_cell BK228.out 0).trans rfl; have hcz12_1 : w11.cell? ⟨gb228, 1, none⟩ = some (.int .i64 0) := (blk_cell BK228.out 1).trans rfl; have hfz12_0 := kF_ BK228.out 0; have hfz12_1 := kF_ BK228.out 1))
 refine bodyPost_ret (results_ct rfl _ _ gb228 26 #[.int .i64 t232, .int .i64 t233] (0, 0) _ rfl (by (with_reducible repeat (first | apply kN_ | apply kD_ | apply kA_)); refine blk_put (cs := #[.int .i64 t232, .int .i64 0]) ?_ 1 _ rfl; (with_reducible repeat (first | apply kN_ | apply kD_ | apply kA_)); refine blk_put (cs := #[.int .i64 0, .int .i64 0]) ?_ 0 _ rfl; (with_reducible repeat (first | apply kN_ | apply kD_ | apply kA_)); exact BK228.out) Try.underlying26 rfl (by kernel_rfl)) rfl ?_
 exact ⟨by first | rfl | (simp [errW_none, errW_some] <;> rfl) | (simp [*, errW_none, errW_some] <;> rfl), by repeat (first | (with_reducible first | exact HB.out | apply bA_ | apply bN_ | apply bD_ | refine bS_ ?_ GE228.out) | exact HB.out)⟩
def impl_EscapeChance.f (k : Nat) (a0 : Int) (a1 : Int) : Option (Int × Int × Bool) := (impl_isBranching.f k a0 a1).bind fun t242 => (if t242 = true then ((impl_escapeChance.f k a0 a1).bind fun bt243 => (some (bt243.1, bt243.2, true))) else (some (0, 0, false)))
theorem impl_EscapeChance.mono : ∀ a0 a1 k, LeO (impl_EscapeChance.f k a0 a1) (impl_EscapeChance.f (k + 1) a0 a1) := by
 intro a0 a1 k
 unfold impl_EscapeChance.f
 repeat' first
   | (with_reducible exact impl_escapeChance.mono _ _ _)
   | (with_reducible exact impl_isBranching.mono _ _ _)
   | (with_reducible exact LeO.refl _)
   | (with_reducible exact LeO.none _)
   | (with_reducible refine LeO.ite ?_ ?_)
   | (with_reducible refine LeO.bind ?_ (fun _ => ?_))
   | exact impl_escapeChance.mono _ _ _
   | exact impl_isBranching.mono _ _ _
   | exact LeO.none _
   | refine LeO.ite ?_ ?_
   | refine LeO.bind ?_ (fun _ => ?_)
set_option maxHeartbeats 8000000 in
set_option maxRecDepth 100000 in
theorem impl_EscapeChance.calls (k : Nat) (a0 : Int) (a1 : Int) (r1 : Int) (r2 : Int) (r3 : Bool) (w : World) (h : impl_EscapeChance.f k a0 a1 = some (r1, r2, r3)) :
  Calls Try.prog 22 #[.int .i64 a0, .int .i64 a1] w fun e w' => e = .returned (.tuple #[.agg #[.int .i64 r1, .int .i64 r2], .bool r3]) ∧ Below w.heap.size w w' := by
 have hu26 := Try.underlying26
 have HB := Aside0.mk (Below.refl w.heap.size w)
 have H : ((impl_isBranching.f k a0 a1).bind fun t242 => (if t242 = true then ((impl_escapeChance.f k a0 a1).bind fun bt243 => (some (bt243.1, bt243.2, true))) else (some (0, 0, false)))) = some (r1, r2, r3) := h
 clear h
 replace H := Option.bind_eq_some_iff.mp H
 obtain ⟨t242, A30, H⟩ := H
 replace H : (if t242 = true then ((impl_escapeChance.f k a0 a1).bind fun bt243 => (some (bt243.1, bt243.2, true))) else (some (0, 0, false))) = some (r1, r2, r3) := H
 have A3 := Aside0.mk A30
 clear A30
 by_cases c4 : t242 = true
 rotate_left
 ·replace c4 := Bool.eq_false_iff.mpr c4
  subst c4
  have H1 : (some (0, 0, false)) = some (r1, r2, r3) := by rw [if_neg (show ¬ (false = true) by decide)] at H; exact H
  clear H
  have H := H1
  clear H1
  simp only [Option.some.injEq, Prod.mk.injEq] at H
  obtain ⟨rfl, rfl, rfl⟩ := H
  go_enter Try.func22, Try.ntmps22
  go_wp2_with (first | ((with_reducible refine gate_dst (N := 4) rfl ?_); refine box_event ?hg (N := 4) ?hd (cs := #[.int .i64 0, .int .i64 0]) (t := 26) ?hr ?_; (case hd => rfl); (case hg => rfl); (case hr => first | (go_simp; done) | (go_simp; rfl)); intro gb241 hg w9 hbox hb; have n0_ := Aside0.mk (bP_ (by repeat (first | (with_reducible first | exact HB.out | apply bA_ | apply bN_ | apply bD_) | exact HB.out)) hb); have n1_ := Aside0.mk (hbox); have n2_ := Aside0.mk ((by rw [hg]; exact (bZ_ (by repeat (first | (with_reducible first | exact HB.out | apply bA_ | apply bN_ | apply bD_) | exact HB.out))) : w.heap.size ≤ gb241)); have n3_ := Aside0.mk ((by rw [hg]; exact (bZ_ (by repeat (first | (with_reducible first | exact HB.out | apply bA_ | apply bN_ | apply bD_) | exact HB.out))) : w.heap.size ≤ gb241)); clear HB; have HB := n0_; have BK241 := n1_; have GW241 := n2_; have GE241 := n3_; clear n0_ n1_ n2_ n3_; clear hb hbox hg) | ((with_reducible refine gate_callee (f := 56) rfl ?_); refine goesL_ (some 8) rfl rfl Try.func56 (by kernel_rfl) rfl #[.int .i64 a0, .int .i64 a1] rfl (by (try simp only [List.map_toArray, List.map_cons, List.map_nil]); first | done | rfl | (simp only [List.length_drop, List.length_take]; rfl)) ?_; (with_reducible refine (impl_isBranching.calls k a0 a1 false _ A3.out).mono ?_); rintro e w' ⟨rfl, ⟨nd, rfl⟩⟩; refine ⟨_, rfl, ?_⟩; (try (rw [drewN_self w9]; generalize hq_ : World.drewN w9 _ = w9; have n0_ : Aside0 (w9.heap[gb241]? = some (.cells #[.int .i64 0, .int .i64 0] 26 (0, 0))) := ⟨by rw [← hq_]; exact (by (with_reducible repeat (first | apply kN_ | apply kD_ | apply kA_)); exact BK241.out)⟩; have n1_ : Aside0 (Below w.heap.size w w9) := ⟨by rw [← hq_]; exact (by repeat (first | (with_reducible first | exact HB.out | apply bA_ | apply bN_ | apply bD_ | refine bS_ ?_ GE241.out) | exact HB.out))⟩; clear BK241 HB hq_; have BK241 := n0_; have HB := n1_; clear n0_ n1_)); have hcz10_0 : w9.cell? ⟨gb241, 0, none⟩ = some (.int .i64 0) := (blk_cell BK241.out 0).trans rfl; have hcz10_1 : w9.cell? ⟨gb241, 1, none⟩ = some (.int .i64 0) := (blk_cell BK241.out 1).trans rfl; have hfz10_0 := kF_ BK241.out 0; have hfz10_1 := kF_ BK241.out 1))
  refine bodyPost_ret (results_ct rfl _ _ gb241 26 #[.int .i64 0, .int .i64 0] (0, 0) _ rfl (by (with_reducible repeat (first | apply kN_ | apply kD_ | apply kA_)); refine blk_put (cs := #[.int .i64 0, .int .i64 0]) ?_ 1 _ rfl; (with_reducible repeat (first | apply kN_ | apply kD_ | apply kA_)); refine blk_put (cs := #[.int .i64 0, .int .i64 0]) ?_ 0 _ rfl; (with_reducible repeat (first | apply kN_ | apply kD_ | apply kA_)); exact BK241.out) Try.underlying26 rfl (by kernel_rfl)) rfl ?_
  exact ⟨by first | rfl | (simp [errW_none, errW_some] <;> rfl) | (simp [*, errW_none, errW_some] <;> rfl), by repeat (first | (with_reducible first | exact HB.out | apply bA_ | apply bN_ | apply bD_ | refine bS_ ?_ GE241.out) | exact HB.out)⟩
 subst c4
 have H1 : ((impl_escapeChance.f k a0 a1).bind fun bt243 => (some (bt243.1, bt243.2, true))) = some (r1, r2, r3) := by rw [if_pos rfl] at H; exact H
 clear H
 have H := H1
 clear H1
 replace H := Option.bind_eq_some_iff.mp H
 obtain ⟨⟨t243, t244⟩, A50, H⟩ := H
 replace H : (some (t243, t244, true)) = some (r1, r2, r3) := H
 have A5 := Aside0.mk A50
 clear A50
 simp only [Option.some.injEq, Prod.mk.injEq] at H
 obtain ⟨rfl, rfl, rfl⟩ := H
 go_enter Try.func22, Try.ntmps22
 go_wp2_with (first | ((with_reducible refine gate_dst (N := 4) rfl ?_); refine box_event ?hg (N := 4) ?hd (cs := #[.int .i64 0, .int .i64 0]) (t := 26) ?hr ?_; (case hd => rfl); (case hg => rfl); (case hr => first | (go_simp; done) | (go_simp; rfl)); intro gb241 hg w6 hbox hb; have n0_ := Aside0.mk (bP_ (by repeat (first | (with_reducible first | exact HB.out | apply bA_ | apply bN_ | apply bD_) | exact HB.out)) hb); have n1_ := Aside0.mk (hbox); have n2_ := Aside0.mk ((by rw [hg]; exact (bZ_ (by repeat (first | (with_reducible first | exact HB.out | apply bA_ | apply bN_ | apply bD_) | exact HB.out))) : w.heap.size ≤ gb241)); have n3_ := Aside0.mk ((by rw [hg]; exact (bZ_ (by repeat (first | (with_reducible first | exact HB.out | apply bA_ | apply bN_ | apply bD_) | exact HB.out))) : w.heap.size ≤ gb241)); clear HB; have HB := n0_; have BK241 := n1_; have GW241 := n2_; have GE241 := n3_; clear n0_ n1_ n2_ n3_; clear hb hbox hg) | ((with_reducible refine gate_callee (f := 56) rfl ?_); refine goesL_ (some 8) rfl rfl Try.func56 (by kernel_rfl) rfl #[.int .i64 a0, .int .i64 a1] rfl (by (try simp only [List.map_toArray, List.map_cons, List.map_nil]); first | done | rfl | (simp only [List.length_drop, List.length_take]; rfl)) ?_; (with_reducible refine (impl_isBranching.calls k a0 a1 true _ A3.out).mono ?_); rintro e w' ⟨rfl, ⟨nd, rfl⟩⟩; refine ⟨_, rfl, ?_⟩; (try (rw [drewN_self w6]; generalize hq_ : World.drewN w6 _ = w6; have n0_ : Aside0 (w6.heap[gb241]? = some (.cells #[.int .i64 0, .int .i64 0] 26 (0, 0))) := ⟨by rw [← hq_]; exact (by (with_reducible repeat (first | apply kN_ | apply kD_ | apply kA_)); exact BK241.out)⟩; have n1_ : Aside0 (Below w.heap.size w w6) := ⟨by rw [← hq_]; exact (by repeat (first | (with_reducible first | exact HB.out | apply bA_ | apply bN_ | apply bD_ | refine bS_ ?_ GE241.out) | exact HB.out))⟩; clear BK241 HB hq_; have BK241 := n0_; have HB := n1_; clear n0_ n1_))) | ((with_reducible refine gate_callee (f := 60) rfl ?_); refine goesL_ (some 13) rfl rfl Try.func60 (by kernel_rfl) rfl #[.int .i64 a0, .int .i64 a1] rfl (by (try simp only [List.map_toArray, List.map_cons, List.map_nil]); first | done | rfl | (simp only [List.length_drop, List.length_take]; rfl)) ?_; (with_reducible refine (impl_escapeChance.calls k a0 a1 t243 t244 _ A5.out).mono ?_); rintro e w7 ⟨rfl, hb⟩; refine ⟨_, rfl, ?_⟩; have n0_ := Aside0.mk (blk_below (g := gb241) (o := .cells #[.int .i64 0, .int .i64 0] 26 (0, 0)) (by (with_reducible repeat (first | apply kN_ | apply kD_ | apply kA_)); exact BK241.out) hb); have n1_ := Aside0.mk (bP_ (by repeat (first | (with_reducible first | exact HB.out | apply bA_ | apply bN_ | apply bD_ | refine bS_ ?_ GE241.out) | exact HB.out)) hb); clear BK241; clear HB; have BK241 := n0_; have HB := n1_; clear n0_ n1_; (try clear hb); (try clear hb2); (try clear hk); (try clear hi); have hcz8_0 : w7.cell? ⟨gb241, 0, none⟩ = some (.int .i64 0) := (blk_cell BK241.out 0).trans rfl; have hcz8_1 : w7.cell? ⟨gb241, 1, none⟩ = some (.int .i64 0) := (blk_cell BK241.out 1).trans rfl; have hfz8_0 := kF_ BK241.out 0; have hfz8_1 := kF_ BK241.out 1))
 refine bodyPost_ret (results_ct rfl _ _ gb241 26 #[.int .i64 t243, .int .i64 t244] (0, 0) _ rfl (by (with_reducible repeat (first | apply kN_ | apply kD_ | apply kA_)); refine blk_put (cs := #[.int .i64 t243, .int .i64 0]) ?_ 1 _ rfl; (with_reducible repeat (first | apply kN_ | apply kD_ | apply kA_)); refine blk_put (cs := #[.int .i64 0, .int .i64 0]) ?_ 0 _ rfl; (with_reducible repeat (first | apply kN_ | apply kD_ | apply kA_)); exact BK241.out) Try.underlying26 rfl (by kernel_rfl)) rfl ?_
 exact ⟨by first | rfl | (simp [errW_none, errW_some] <;> rfl) | (simp [*, errW_none, errW_some] <;> rfl), by repeat (first | (with_reducible first | exact HB.out | apply bA_ | apply bN_ | apply bD_ | refine bS_ ?_ GE241.out) | exact HB.out)⟩
end Go.Proofs.Ytmechelmnpoddaa.F7
namespace Go.Proofs.Ytmechelmnpoddaa.H7
open Go.RowKit YtmechelmnpoddaaW.PrintWords YtmechelmnpoddaaW.PrintLast YtmechelmnpoddaaW.PrintMore
open A7 F7
def spec_DrawCountNodes.f (l0 : List Int) : Option (Int × Int) := (spec_l1Cur_branch.f l0 0 0).bind fun t => some (t.1, t.2.1)
set_option maxHeartbeats 4000000 in
set_option maxRecDepth 100000 in
theorem spec_DrawCountNodes.calls (A0 : Option Addr) (c0 : Nat) (l0 : List Int) (r1 r2 : Int) (w : World) (hr0 : Kd.C (Kd.int .u8) w A0 l0.length l0) (hc0 : l0.length ≤ c0) (h : spec_DrawCountNodes.f l0 = some (r1, r2)) :
  Calls Try.prog 82 #[.slice A0 l0.length c0] w fun e w' => e = .returned (.tuple #[.int .i64 r1, .int .i64 r2]) ∧ Below w.heap.size w w' := by
 have HR := Aside0.mk hr0
 clear hr0 hc0
 unfold spec_DrawCountNodes.f at h
 obtain ⟨⟨b, d, at_, sd⟩, h1, h⟩ := Option.bind_eq_some_iff.mp h
 simp only [Option.some.injEq, Prod.mk.injEq] at h
 obtain ⟨rfl, rfl⟩ := h
 have H1 := Aside0.mk h1
 clear h1
 go_enter Try.func82, Try.ntmps82
 go_wp2_with (go_at_call 80; (with_reducible refine (spec_l1Cur_branch.calls w.heap.size l0 0 0 b d at_ sd w _ ?side1 ?side2 H1.out).mono ?_); (case side1 => exact IsS74.new w w A0 c0 l0 0 0 (Below.refl _ _) HR.out); (case side2 => exact bA_ (Below.refl _ _) _); rintro e w1 ⟨rfl, hi, hb, hk⟩; have HB := Aside0.mk hb; clear hi hb hk)
 go_ret2
 exact ⟨rfl, HB.out⟩
def spec_DrawEscapeList.f (k : Nat) (l0 : List Int) : Option (Int × Int × Int × Int) :=
 (spec_l1Cur_branch.f l0 0 0).bind fun t => (spec_l1Cur_among.f l0 t.2.2.1 t.2.2.2 [0, 1, 3, 7, 20, 63, 127, 200, 201, (-1)]).bind fun u => (spec_l1Cur_one.f l0 u.2.1 u.2.2 3).bind fun x =>
 (spec_esNodes.f k t.1 t.2.1).bind fun N => (spec_l1Cur_among.f l0 x.2.1 x.2.2 [0, 1, 2, 3, 0, 1, 2, 4, (-1)]).bind fun y => some (t.1, t.2.1, y.1, if x.1 = true then (if 0 < N then N else u.1) else u.1)
set_option maxHeartbeats 8000000 in
set_option maxRecDepth 100000 in
theorem spec_DrawEscapeList.calls (k : Nat) (A0 : Option Addr) (c0 : Nat) (l0 : List Int) (r1 r2 r3 r4 : Int) (w : World) (hr0 : Kd.C (Kd.int .u8) w A0 l0.length l0) (hc0 : l0.length ≤ c0) (h : spec_DrawEscapeList.f k l0 = some (r1, r2, r3, r4)) :
  Calls Try.prog 52 #[.slice A0 l0.length c0] w fun e w' => e = .returned (.tuple #[.int .i64 r1, .int .i64 r2, .int .i64 r3, .int .i64 r4]) ∧ Below w.heap.size w w' := by
 have HR := Aside0.mk hr0
 clear hr0 hc0
 unfold spec_DrawEscapeList.f at h
 obtain ⟨⟨b, d, a1, s1⟩, h1, h⟩ := Option.bind_eq_some_iff.mp h
 obtain ⟨⟨n0, a2, s2⟩, h2, h⟩ := Option.bind_eq_some_iff.mp h
 obtain ⟨⟨x, a3, s3⟩, h3, h⟩ := Option.bind_eq_some_iff.mp h
 obtain ⟨N, h4, h⟩ := Option.bind_eq_some_iff.mp h
 obtain ⟨⟨kk, a5, s5⟩, h5, h⟩ := Option.bind_eq_some_iff.mp h
 simp only [Option.some.injEq, Prod.mk.injEq] at h
 obtain ⟨rfl, rfl, rfl, rfl⟩ := h
 obtain ⟨y1, hy1⟩ : ∃ y_ : List Int, y_ = [0, 1, 3, 7, 20, 63, 127, 200, 201, (-1)] := ⟨_, rfl⟩
 obtain ⟨y2, hy2⟩ : ∃ y_ : List Int, y_ = [0, 1, 2, 3, 0, 1, 2, 4, (-1)] := ⟨_, rfl⟩
 replace h2 : spec_l1Cur_among.f l0 a1 s1 y1 = some (n0, a2, s2) := by rw [hy1]; exact h2
 replace h5 : spec_l1Cur_among.f l0 a3 s3 y2 = some (kk, a5, s5) := by rw [hy2]; exact h5
 have Ny1 := Aside0.mk hy1
 have Ny2 := Aside0.mk hy2
 have H1 := Aside0.mk h1
 have H2 := Aside0.mk h2
 have H3 := Aside0.mk h3
 have H4 := Aside0.mk h4
 have H5 := Aside0.mk h5
 clear h1 h2 h3 h4 h5 hy1 hy2
 cases x with
 | false =>
  go_enter Try.func52, Try.ntmps52
  go_wp2_with (first | ((with_reducible refine gate_callee (f := 80) rfl ?_); refine goesL_ (some 15) rfl rfl Try.func80 (by kernel_rfl) rfl #[.pointer (some ⟨w.heap.size, 0, none⟩)] rfl (by (try simp only [List.map_toArray, List.map_cons, List.map_nil]); first | done | rfl) ?_; (with_reducible refine (spec_l1Cur_branch.calls w.heap.size l0 0 0 b d a1 s1 w _ ?side1 ?side2 H1.out).mono ?_); (case side1 => exact IsS74.new w w A0 c0 l0 0 0 (Below.refl _ _) HR.out); (case side2 => exact bA_ (Below.refl _ _) _); rintro e w_ ⟨rfl, hi, hb, hk⟩; refine ⟨_, rfl, ?_⟩; have HI := Aside0.mk hi; have HB := Aside0.mk hb; clear hi hb hk) | ((with_reducible refine gate_dst (N := 19) rfl ?_); refine Kd.R_lit (Kd.int .i64) _ 3 ?hg (N := 19) ?hd (xs := ([0, 1, 3, 7, 20, 63, 127, 200, 201, (-1)] : List Int)) (inner := [.int .i64 0, .int .i64 1, .int .i64 3, .int .i64 7, .int .i64 20, .int .i64 63, .int .i64 127, .int .i64 200, .int .i64 201, .int .i64 (-1)]) (ok := fun _ => True) (okp := fun _ => True) ?hr ?hp (fun _ hk => hk) trivial (Below.refl _ _) (Nat.le_refl _) (by simp) ?_; (case hd => rfl); (case hg => rfl); (case hr => first | (go_simp; done) | (go_simp; rfl)); (case hp => exact (Reps.one (show Kd.M (Kd.int .i64) _ _ _ 0 [.int .i64 0] from rfl) (Reps.one (show Kd.M (Kd.int .i64) _ _ _ 1 [.int .i64 1] from rfl) (Reps.one (show Kd.M (Kd.int .i64) _ _ _ 3 [.int .i64 3] from rfl) (Reps.one (show Kd.M (Kd.int .i64) _ _ _ 7 [.int .i64 7] from rfl) (Reps.one (show Kd.M (Kd.int .i64) _ _ _ 20 [.int .i64 20] from rfl) (Reps.one (show Kd.M (Kd.int .i64) _ _ _ 63 [.int .i64 63] from rfl) (Reps.one (show Kd.M (Kd.int .i64) _ _ _ 127 [.int .i64 127] from rfl) (Reps.one (show Kd.M (Kd.int .i64) _ _ _ 200 [.int .i64 200] from rfl) (Reps.one (show Kd.M (Kd.int .i64) _ _ _ 201 [.int .i64 201] from rfl) (Reps.one (show Kd.M (Kd.int .i64) _ _ _ (-1) [.int .i64 (-1)] from rfl) (Reps.none _ _)))))))))))); intro v_ w_ ho hb hg_ hnew_; clear hg_ hnew_; (first | rw [← Ny1.out] at ho | (simp only [Int.reduceToNat] at ho; rw [← Ny1.out] at ho)); have n1_ := Aside0.mk (IsS74.below (by repeat (first | (with_reducible first | exact HI.out | apply IsS74.alloc | apply IsS74.drewN | apply IsS74.drew) | exact HI.out)) hb); have n2_ := Aside0.mk (bP_ (by repeat (first | (with_reducible first | exact HB.out | apply bA_ | apply bN_ | apply bD_) | exact HB.out)) hb); have HO := Aside0.mk ho; clear HI HB; have HI := n1_; have HB := n2_; clear n1_ n2_ hb ho; obtain ⟨Ao, co, eo⟩ := Kd.R_slice HO.out; subst eo) | ((with_reducible refine gate_callee (f := 79) rfl ?_); refine goesL_ (some 20) rfl rfl Try.func79 (by kernel_rfl) rfl #[.pointer (some ⟨w.heap.size, 0, none⟩), .slice Ao y1.length co] rfl (by (try simp only [List.map_toArray, List.map_cons, List.map_nil]); first | done | rfl) ?_; (with_reducible refine (spec_l1Cur_among.calls w.heap.size l0 a1 s1 _ _ y1 n0 a2 s2 w _ ?side1 ?side2 ?side3 ?side4 ?side5 H2.out).mono ?_); (case side1 => repeat (first | (with_reducible first | exact HI.out | apply IsS74.alloc | apply IsS74.drewN | apply IsS74.drew) | exact HI.out)); (case side2 => repeat (first | (with_reducible first | exact HB.out | apply bA_ | apply bN_ | apply bD_) | exact HB.out)); (case side3 => repeat (first | exact (Kd.R_reads' HO.out).2.2 | (with_reducible refine Kd.C_alloc ?_ _) | (with_reducible refine Kd.C_drewN ?_ _) | (with_reducible refine Kd.C_drew ?_))); (case side4 => exact (Kd.R_reads' HO.out).2.1); (case side5 => exact far_slice (IsS74.own_ne HI.out HO.out (by decide))); rintro e w_ ⟨rfl, hi, hb, hk⟩; refine ⟨_, rfl, ?_⟩; have n1_ := Aside0.mk hi; have n2_ := Aside0.mk hb; clear HI HB HO hi hb hk; have HI := n1_; have HB := n2_; clear n1_ n2_) | (go_at_call 81; (with_reducible refine (spec_l1Cur_one.calls w.heap.size l0 a2 s2 3 false a3 s3 w _ ?side1 ?side2 H3.out).mono ?_); (case side1 => repeat (first | (with_reducible first | exact HI.out | apply IsS74.alloc | apply IsS74.drewN | apply IsS74.drew) | exact HI.out)); (case side2 => repeat (first | (with_reducible first | exact HB.out | apply bA_ | apply bN_ | apply bD_) | exact HB.out)); rintro e w_ ⟨rfl, hi, hb, hk⟩; have n1_ := Aside0.mk hi; have n2_ := Aside0.mk hb; clear HI HB hi hb hk; have HI := n1_; have HB := n2_; clear n1_ n2_) | (go_at_call 55; (with_reducible refine (spec_esNodes.calls k b d N _ H4.out).mono ?_); rintro e w' ⟨rfl, ⟨nd, rfl⟩⟩) | ((with_reducible refine gate_dst (N := 35) rfl ?_); refine Kd.R_lit (Kd.int .i64) _ 3 ?hg (N := 35) ?hd (xs := ([0, 1, 2, 3, 0, 1, 2, 4, (-1)] : List Int)) (inner := [.int .i64 0, .int .i64 1, .int .i64 2, .int .i64 3, .int .i64 0, .int .i64 1, .int .i64 2, .int .i64 4, .int .i64 (-1)]) (ok := fun _ => True) (okp := fun _ => True) ?hr ?hp (fun _ hk => hk) trivial (Below.refl _ _) (Nat.le_refl _) (by simp) ?_; (case hd => rfl); (case hg => rfl); (case hr => first | (go_simp; done) | (go_simp; rfl)); (case hp => exact (Reps.one (show Kd.M (Kd.int .i64) _ _ _ 0 [.int .i64 0] from rfl) (Reps.one (show Kd.M (Kd.int .i64) _ _ _ 1 [.int .i64 1] from rfl) (Reps.one (show Kd.M (Kd.int .i64) _ _ _ 2 [.int .i64 2] from rfl) (Reps.one (show Kd.M (Kd.int .i64) _ _ _ 3 [.int .i64 3] from rfl) (Reps.one (show Kd.M (Kd.int .i64) _ _ _ 0 [.int .i64 0] from rfl) (Reps.one (show Kd.M (Kd.int .i64) _ _ _ 1 [.int .i64 1] from rfl) (Reps.one (show Kd.M (Kd.int .i64) _ _ _ 2 [.int .i64 2] from rfl) (Reps.one (show Kd.M (Kd.int .i64) _ _ _ 4 [.int .i64 4] from rfl) (Reps.one (show Kd.M (Kd.int .i64) _ _ _ (-1) [.int .i64 (-1)] from rfl) (Reps.none _ _))))))))))); intro v_ w_ ho hb hg_ hnew_; clear hg_ hnew_; (first | rw [← Ny2.out] at ho | (simp only [Int.reduceToNat] at ho; rw [← Ny2.out] at ho)); have n1_ := Aside0.mk (IsS74.below (by repeat (first | (with_reducible first | exact HI.out | apply IsS74.alloc | apply IsS74.drewN | apply IsS74.drew) | exact HI.out)) hb); have n2_ := Aside0.mk (bP_ (by repeat (first | (with_reducible first | exact HB.out | apply bA_ | apply bN_ | apply bD_) | exact HB.out)) hb); have HO := Aside0.mk ho; clear HI HB; have HI := n1_; have HB := n2_; clear n1_ n2_ hb ho; obtain ⟨Ao, co, eo⟩ := Kd.R_slice HO.out; subst eo) | ((with_reducible refine gate_callee (f := 79) rfl ?_); refine goesL_ (some 36) rfl rfl Try.func79 (by kernel_rfl) rfl #[.pointer (some ⟨w.heap.size, 0, none⟩), .slice Ao y2.length co] rfl (by (try simp only [List.map_toArray, List.map_cons, List.map_nil]); first | done | rfl) ?_; (with_reducible refine (spec_l1Cur_among.calls w.heap.size l0 a3 s3 _ _ y2 kk a5 s5 w _ ?side1 ?side2 ?side3 ?side4 ?side5 H5.out).mono ?_); (case side1 => repeat (first | (with_reducible first | exact HI.out | apply IsS74.alloc | apply IsS74.drewN | apply IsS74.drew) | exact HI.out)); (case side2 => repeat (first | (with_reducible first | exact HB.out | apply bA_ | apply bN_ | apply bD_) | exact HB.out)); (case side3 => repeat (first | exact (Kd.R_reads' HO.out).2.2 | (with_reducible refine Kd.C_alloc ?_ _) | (with_reducible refine Kd.C_drewN ?_ _) | (with_reducible refine Kd.C_drew ?_))); (case side4 => exact (Kd.R_reads' HO.out).2.1); (case side5 => exact far_slice (IsS74.own_ne HI.out HO.out (by decide))); rintro e w_ ⟨rfl, hi, hb, hk⟩; refine ⟨_, rfl, ?_⟩; have n1_ := Aside0.mk hi; have n2_ := Aside0.mk hb; clear HI HB HO hi hb hk; have HI := n1_; have HB := n2_; clear n1_ n2_))
  refine bodyPost_ret (results_list (rs := [.tmp 2, .tmp 3, .tmp 4, .tmp 5]) rfl (by simp) (.tmp (.tmp (.tmp (.tmp .nil))))) rfl ?_
  exact ⟨rfl, HB.out⟩
 | true =>
  by_cases hN : 0 < N
  ·have hN' : N > 0 := hN
   go_enter Try.func52, Try.ntmps52
   go_wp2_with (first | ((with_reducible refine gate_callee (f := 80) rfl ?_); refine goesL_ (some 15) rfl rfl Try.func80 (by kernel_rfl) rfl #[.pointer (some ⟨w.heap.size, 0, none⟩)] rfl (by (try simp only [List.map_toArray, List.map_cons, List.map_nil]); first | done | rfl) ?_; (with_reducible refine (spec_l1Cur_branch.calls w.heap.size l0 0 0 b d a1 s1 w _ ?side1 ?side2 H1.out).mono ?_); (case side1 => exact IsS74.new w w A0 c0 l0 0 0 (Below.refl _ _) HR.out); (case side2 => exact bA_ (Below.refl _ _) _); rintro e w_ ⟨rfl, hi, hb, hk⟩; refine ⟨_, rfl, ?_⟩; have HI := Aside0.mk hi; have HB := Aside0.mk hb; clear hi hb hk) | ((with_reducible refine gate_dst (N := 19) rfl ?_); refine Kd.R_lit (Kd.int .i64) _ 3 ?hg (N := 19) ?hd (xs := ([0, 1, 3, 7, 20, 63, 127, 200, 201, (-1)] : List Int)) (inner := [.int .i64 0, .int .i64 1, .int .i64 3, .int .i64 7, .int .i64 20, .int .i64 63, .int .i64 127, .int .i64 200, .int .i64 201, .int .i64 (-1)]) (ok := fun _ => True) (okp := fun _ => True) ?hr ?hp (fun _ hk => hk) trivial (Below.refl _ _) (Nat.le_refl _) (by simp) ?_; (case hd => rfl); (case hg => rfl); (case hr => first | (go_simp; done) | (go_simp; rfl)); (case hp => exact (Reps.one (show Kd.M (Kd.int .i64) _ _ _ 0 [.int .i64 0] from rfl) (Reps.one (show Kd.M (Kd.int .i64) _ _ _ 1 [.int .i64 1] from rfl) (Reps.one (show Kd.M (Kd.int .i64) _ _ _ 3 [.int .i64 3] from rfl) (Reps.one (show Kd.M (Kd.int .i64) _ _ _ 7 [.int .i64 7] from rfl) (Reps.one (show Kd.M (Kd.int .i64) _ _ _ 20 [.int .i64 20] from rfl) (Reps.one (show Kd.M (Kd.int .i64) _ _ _ 63 [.int .i64 63] from rfl) (Reps.one (show Kd.M (Kd.int .i64) _ _ _ 127 [.int .i64 127] from rfl) (Reps.one (show Kd.M (Kd.int .i64) _ _ _ 200 [.int .i64 200] from rfl) (Reps.one (show Kd.M (Kd.int .i64) _ _ _ 201 [.int .i64 201] from rfl) (Reps.one (show Kd.M (Kd.int .i64) _ _ _ (-1) [.int .i64 (-1)] from rfl) (Reps.none _ _)))))))))))); intro v_ w_ ho hb hg_ hnew_; clear hg_ hnew_; (first | rw [← Ny1.out] at ho | (simp only [Int.reduceToNat] at ho; rw [← Ny1.out] at ho)); have n1_ := Aside0.mk (IsS74.below (by repeat (first | (with_reducible first | exact HI.out | apply IsS74.alloc | apply IsS74.drewN | apply IsS74.drew) | exact HI.out)) hb); have n2_ := Aside0.mk (bP_ (by repeat (first | (with_reducible first | exact HB.out | apply bA_ | apply bN_ | apply bD_) | exact HB.out)) hb); have HO := Aside0.mk ho; clear HI HB; have HI := n1_; have HB := n2_; clear n1_ n2_ hb ho; obtain ⟨Ao, co, eo⟩ := Kd.R_slice HO.out; subst eo) | ((with_reducible refine gate_callee (f := 79) rfl ?_); refine goesL_ (some 20) rfl rfl Try.func79 (by kernel_rfl) rfl #[.pointer (some ⟨w.heap.size, 0, none⟩), .slice Ao y1.length co] rfl (by (try simp only [List.map_toArray, List.map_cons, List.map_nil]); first | done | rfl) ?_; (with_reducible refine (spec_l1Cur_among.calls w.heap.size l0 a1 s1 _ _ y1 n0 a2 s2 w _ ?side1 ?side2 ?side3 ?side4 ?side5 H2.out).mono ?_); (case side1 => repeat (first | (with_reducible first | exact HI.out | apply IsS74.alloc | apply IsS74.drewN | apply IsS74.drew) | exact HI.out)); (case side2 => repeat (first | (with_reducible first | exact HB.out | apply bA_ | apply bN_ | apply bD_) | exact HB.out)); (case side3 => repeat (first | exact (Kd.R_reads' HO.out).2.2 | (with_reducible refine Kd.C_alloc ?_ _) | (with_reducible refine Kd.C_drewN ?_ _) | (with_reducible refine Kd.C_drew ?_))); (case side4 => exact (Kd.R_reads' HO.out).2.1); (case side5 => exact far_slice (IsS74.own_ne HI.out HO.out (by decide))); rintro e w_ ⟨rfl, hi, hb, hk⟩; refine ⟨_, rfl, ?_⟩; have n1_ := Aside0.mk hi; have n2_ := Aside0.mk hb; clear HI HB HO hi hb hk; have HI := n1_; have HB := n2_; clear n1_ n2_) | (go_at_call 81; (with_reducible refine (spec_l1Cur_one.calls w.heap.size l0 a2 s2 3 true a3 s3 w _ ?side1 ?side2 H3.out).mono ?_); (case side1 => repeat (first | (with_reducible first | exact HI.out | apply IsS74.alloc | apply IsS74.drewN | apply IsS74.drew) | exact HI.out)); (case side2 => repeat (first | (with_reducible first | exact HB.out | apply bA_ | apply bN_ | apply bD_) | exact HB.out)); rintro e w_ ⟨rfl, hi, hb, hk⟩; have n1_ := Aside0.mk hi; have n2_ := Aside0.mk hb; clear HI HB hi hb hk; have HI := n1_; have HB := n2_; clear n1_ n2_) | (go_at_call 55; (with_reducible refine (spec_esNodes.calls k b d N _ H4.out).mono ?_); rintro e w' ⟨rfl, ⟨nd, rfl⟩⟩) | ((with_reducible refine gate_dst (N := 35) rfl ?_); refine Kd.R_lit (Kd.int .i64) _ 3 ?hg (N := 35) ?hd (xs := ([0, 1, 2, 3, 0, 1, 2, 4, (-1)] : List Int)) (inner := [.int .i64 0, .int .i64 1, .int .i64 2, .int .i64 3, .int .i64 0, .int .i64 1, .int .i64 2, .int .i64 4, .int .i64 (-1)]) (ok := fun _ => True) (okp := fun _ => True) ?hr ?hp (fun _ hk => hk) trivial (Below.refl _ _) (Nat.le_refl _) (by simp) ?_; (case hd => rfl); (case hg => rfl); (case hr => first | (go_simp; done) | (go_simp; rfl)); (case hp => exact (Reps.one (show Kd.M (Kd.int .i64) _ _ _ 0 [.int .i64 0] from rfl) (Reps.one (show Kd.M (Kd.int .i64) _ _ _ 1 [.int .i64 1] from rfl) (Reps.one (show Kd.M (Kd.int .i64) _ _ _ 2 [.int .i64 2] from rfl) (Reps.one (show Kd.M (Kd.int .i64) _ _ _ 3 [.int .i64 3] from rfl) (Reps.one (show Kd.M (Kd.int .i64) _ _ _ 0 [.int .i64 0] from rfl) (Reps.one (show Kd.M (Kd.int .i64) _ _ _ 1 [.int .i64 1] from rfl) (Reps.one (show Kd.M (Kd.int .i64) _ _ _ 2 [.int .i64 2] from rfl) (Reps.one (show Kd.M (Kd.int .i64) _ _ _ 4 [.int .i64 4] from rfl) (Reps.one (show Kd.M (Kd.int .i64) _ _ _ (-1) [.int .i64 (-1)] from rfl) (Reps.none _ _))))))))))); intro v_ w_ ho hb hg_ hnew_; clear hg_ hnew_; (first | rw [← Ny2.out] at ho | (simp only [Int.reduceToNat] at ho; rw [← Ny2.out] at ho)); have n1_ := Aside0.mk (IsS74.below (by repeat (first | (with_reducible first | exact HI.out | apply IsS74.alloc | apply IsS74.drewN | apply IsS74.drew) | exact HI.out)) hb); have n2_ := Aside0.mk (bP_ (by repeat (first | (with_reducible first | exact HB.out | apply bA_ | apply bN_ | apply bD_) | exact HB.out)) hb); have HO := Aside0.mk ho; clear HI HB; have HI := n1_; have HB := n2_; clear n1_ n2_ hb ho; obtain ⟨Ao, co, eo⟩ := Kd.R_slice HO.out; subst eo) | ((with_reducible refine gate_callee (f := 79) rfl ?_); refine goesL_ (some 36) rfl rfl Try.func79 (by kernel_rfl) rfl #[.pointer (some ⟨w.heap.size, 0, none⟩), .slice Ao y2.length co] rfl (by (try simp only [List.map_toArray, List.map_cons, List.map_nil]); first | done | rfl) ?_; (with_reducible refine (spec_l1Cur_among.calls w.heap.size l0 a3 s3 _ _ y2 kk a5 s5 w _ ?side1 ?side2 ?side3 ?side4 ?side5 H5.out).mono ?_); (case side1 => repeat (first | (with_reducible first | exact HI.out | apply IsS74.alloc | apply IsS74.drewN | apply IsS74.drew) | exact HI.out)); (case side2 => repeat (first | (with_reducible first | exact HB.out | apply bA_ | apply bN_ | apply bD_) | exact HB.out)); (case side3 => repeat (first | exact (Kd.R_reads' HO.out).2.2 | (with_reducible refine Kd.C_alloc ?_ _) | (with_reducible refine Kd.C_drewN ?_ _) | (with_reducible refine Kd.C_drew ?_))); (case side4 => exact (Kd.R_reads' HO.out).2.1); (case side5 => exact far_slice (IsS74.own_ne HI.out HO.out (by decide))); rintro e w_ ⟨rfl, hi, hb, hk⟩; refine ⟨_, rfl, ?_⟩; have n1_ := Aside0.mk hi; have n2_ := Aside0.mk hb; clear HI HB HO hi hb hk; have HI := n1_; have HB := n2_; clear n1_ n2_))
   refine bodyPost_ret (results_list (rs := [.tmp 2, .tmp 3, .tmp 4, .tmp 5]) rfl (by simp) (.tmp (.tmp (.tmp (.tmp .nil))))) rfl ?_
   exact ⟨by simp [hN], HB.out⟩
  have hN' : ¬ (N > 0) := hN
  go_enter Try.func52, Try.ntmps52
  go_wp2_with (first | ((with_reducible refine gate_callee (f := 80) rfl ?_); refine goesL_ (some 15) rfl rfl Try.func80 (by kernel_rfl) rfl #[.pointer (some ⟨w.heap.size, 0, none⟩)] rfl (by (try simp only [List.map_toArray, List.map_cons, List.map_nil]); first | done | rfl) ?_; (with_reducible refine (spec_l1Cur_branch.calls w.heap.size l0 0 0 b d a1 s1 w _ ?side1 ?side2 H1.out).mono ?_); (case side1 => exact IsS74.new w w A0 c0 l0 0 0 (Below.refl _ _) HR.out); (case side2 => exact bA_ (Below.refl _ _) _); rintro e w_ ⟨rfl, hi, hb, hk⟩; refine ⟨_, rfl, ?_⟩; have HI := Aside0.mk hi; have HB := Aside0.mk hb; clear hi hb hk) | ((with_reducible refine gate_dst (N := 19) rfl ?_); refine Kd.R_lit (Kd.int .i64) _ 3 ?hg (N := 19) ?hd (xs := ([0, 1, 3, 7, 20, 63, 127, 200, 201, (-1)] : List Int)) (inner := [.int .i64 0, .int .i64 1, .int .i64 3, .int .i64 7, .int .i64 20, .int .i64 63, .int .i64 127, .int .i64 200, .int .i64 201, .int .i64 (-1)]) (ok := fun _ => True) (okp := fun _ => True) ?hr ?hp (fun _ hk => hk) trivial (Below.refl _ _) (Nat.le_refl _) (by simp) ?_; (case hd => rfl); (case hg => rfl); (case hr => first | (go_simp; done) | (go_simp; rfl)); (case hp => exact (Reps.one (show Kd.M (Kd.int .i64) _ _ _ 0 [.int .i64 0] from rfl) (Reps.one (show Kd.M (Kd.int .i64) _ _ _ 1 [.int .i64 1] from rfl) (Reps.one (show Kd.M (Kd.int .i64) _ _ _ 3 [.int .i64 3] from rfl) (Reps.one (show Kd.M (Kd.int .i64) _ _ _ 7 [.int .i64 7] from rfl) (Reps.one (show Kd.M (Kd.int .i64) _ _ _ 20 [.int .i64 20] from rfl) (Reps.one (show Kd.M (Kd.int .i64) _ _ _ 63 [.int .i64 63] from rfl) (Reps.one (show Kd.M (Kd.int .i64) _ _ _ 127 [.int .i64 127] from rfl) (Reps.one (show Kd.M (Kd.int .i64) _ _ _ 200 [.int .i64 200] from rfl) (Reps.one (show Kd.M (Kd.int .i64) _ _ _ 201 [.int .i64 201] from rfl) (Reps.one (show Kd.M (Kd.int .i64) _ _ _ (-1) [.int .i64 (-1)] from rfl) (Reps.none _ _)))))))))))); intro v_ w_ ho hb hg_ hnew_; clear hg_ hnew_; (first | rw [← Ny1.out] at ho | (simp only [Int.reduceToNat] at ho; rw [← Ny1.out] at ho)); have n1_ := Aside0.mk (IsS74.below (by repeat (first | (with_reducible first | exact HI.out | apply IsS74.alloc | apply IsS74.drewN | apply IsS74.drew) | exact HI.out)) hb); have n2_ := Aside0.mk (bP_ (by repeat (first | (with_reducible first | exact HB.out | apply bA_ | apply bN_ | apply bD_) | exact HB.out)) hb); have HO := Aside0.mk ho; clear HI HB; have HI := n1_; have HB := n2_; clear n1_ n2_ hb ho; obtain ⟨Ao, co, eo⟩ := Kd.R_slice HO.out; subst eo) | ((with_reducible refine gate_callee (f := 79) rfl ?_); refine goesL_ (some 20) rfl rfl Try.func79 (by kernel_rfl) rfl #[.pointer (some ⟨w.heap.size, 0, none⟩), .slice Ao y1.length co] rfl (by (try simp only [List.map_toArray, List.map_cons, List.map_nil]); first | done | rfl) ?_; (with_reducible refine (spec_l1Cur_among.calls w.heap.size l0 a1 s1 _ _ y1 n0 a2 s2 w _ ?side1 ?side2 ?side3 ?side4 ?side5 H2.out).mono ?_); (case side1 => repeat (first | (with_reducible first | exact HI.out | apply IsS74.alloc | apply IsS74.drewN | apply IsS74.drew) | exact HI.out)); (case side2 => repeat (first | (with_reducible first | exact HB.out | apply bA_ | apply bN_ | apply bD_) | exact HB.out)); (case side3 => repeat (first | exact (Kd.R_reads' HO.out).2.2 | (with_reducible refine Kd.C_alloc ?_ _) | (with_reducible refine Kd.C_drewN ?_ _) | (with_reducible refine Kd.C_drew ?_))); (case side4 => exact (Kd.R_reads' HO.out).2.1); (case side5 => exact far_slice (IsS74.own_ne HI.out HO.out (by decide))); rintro e w_ ⟨rfl, hi, hb, hk⟩; refine ⟨_, rfl, ?_⟩; have n1_ := Aside0.mk hi; have n2_ := Aside0.mk hb; clear HI HB HO hi hb hk; have HI := n1_; have HB := n2_; clear n1_ n2_) | (go_at_call 81; (with_reducible refine (spec_l1Cur_one.calls w.heap.size l0 a2 s2 3 true a3 s3 w _ ?side1 ?side2 H3.out).mono ?_); (case side1 => repeat (first | (with_reducible first | exact HI.out | apply IsS74.alloc | apply IsS74.drewN | apply IsS74.drew) | exact HI.out)); (case side2 => repeat (first | (with_reducible first | exact HB.out | apply bA_ | apply bN_ | apply bD_) | exact HB.out)); rintro e w_ ⟨rfl, hi, hb, hk⟩; have n1_ := Aside0.mk hi; have n2_ := Aside0.mk hb; clear HI HB hi hb hk; have HI := n1_; have HB := n2_; clear n1_ n2_) | (go_at_call 55; (with_reducible refine (spec_esNodes.calls k b d N _ H4.out).mono ?_); rintro e w' ⟨rfl, ⟨nd, rfl⟩⟩) | ((with_reducible refine gate_dst (N := 35) rfl ?_); refine Kd.R_lit (Kd.int .i64) _ 3 ?hg (N := 35) ?hd (xs := ([0, 1, 2, 3, 0, 1, 2, 4, (-1)] : List Int)) (inner := [.int .i64 0, .int .i64 1, .int .i64 2, .int .i64 3, .int .i64 0, .int .i64 1, .int .i64 2, .int .i64 4, .int .i64 (-1)]) (ok := fun _ => True) (okp := fun _ => True) ?hr ?hp (fun _ hk => hk) trivial (Below.refl _ _) (Nat.le_refl _) (by simp) ?_; (case hd => rfl); (case hg => rfl); (case hr => first | (go_simp; done) | (go_simp; rfl)); (case hp => exact (Reps.one (show Kd.M (Kd.int .i64) _ _ _ 0 [.int .i64 0] from rfl) (Reps.one (show Kd.M (Kd.int .i64) _ _ _ 1 [.int .i64 1] from rfl) (Reps.one (show Kd.M (Kd.int .i64) _ _ _ 2 [.int .i64 2] from rfl) (Reps.one (show Kd.M (Kd.int .i64) _ _ _ 3 [.int .i64 3] from rfl) (Reps.one (show Kd.M (Kd.int .i64) _ _ _ 0 [.int .i64 0] from rfl) (Reps.one (show Kd.M (Kd.int .i64) _ _ _ 1 [.int .i64 1] from rfl) (Reps.one (show Kd.M (Kd.int .i64) _ _ _ 2 [.int .i64 2] from rfl) (Reps.one (show Kd.M (Kd.int .i64) _ _ _ 4 [.int .i64 4] from rfl) (Reps.one (show Kd.M (Kd.int .i64) _ _ _ (-1) [.int .i64 (-1)] from rfl) (Reps.none _ _))))))))))); intro v_ w_ ho hb hg_ hnew_; clear hg_ hnew_; (first | rw [← Ny2.out] at ho | (simp only [Int.reduceToNat] at ho; rw [← Ny2.out] at ho)); have n1_ := Aside0.mk (IsS74.below (by repeat (first | (with_reducible first | exact HI.out | apply IsS74.alloc | apply IsS74.drewN | apply IsS74.drew) | exact HI.out)) hb); have n2_ := Aside0.mk (bP_ (by repeat (first | (with_reducible first | exact HB.out | apply bA_ | apply bN_ | apply bD_) | exact HB.out)) hb); have HO := Aside0.mk ho; clear HI HB; have HI := n1_; have HB := n2_; clear n1_ n2_ hb ho; obtain ⟨Ao, co, eo⟩ := Kd.R_slice HO.out; subst eo) | ((with_reducible refine gate_callee (f := 79) rfl ?_); refine goesL_ (some 36) rfl rfl Try.func79 (by kernel_rfl) rfl #[.pointer (some ⟨w.heap.size, 0, none⟩), .slice Ao y2.length co] rfl (by (try simp only [List.map_toArray, List.map_cons, List.map_nil]); first | done | rfl) ?_; (with_reducible refine (spec_l1Cur_among.calls w.heap.size l0 a3 s3 _ _ y2 kk a5 s5 w _ ?side1 ?side2 ?side3 ?side4 ?side5 H5.out).mono ?_); (case side1 => repeat (first | (with_reducible first | exact HI.out | apply IsS74.alloc | apply IsS74.drewN | apply IsS74.drew) | exact HI.out)); (case side2 => repeat (first | (with_reducible first | exact HB.out | apply bA_ | apply bN_ | apply bD_) | exact HB.out)); (case side3 => repeat (first | exact (Kd.R_reads' HO.out).2.2 | (with_reducible refine Kd.C_alloc ?_ _) | (with_reducible refine Kd.C_drewN ?_ _) | (with_reducible refine Kd.C_drew ?_))); (case side4 => exact (Kd.R_reads' HO.out).2.1); (case side5 => exact far_slice (IsS74.own_ne HI.out HO.out (by decide))); rintro e w_ ⟨rfl, hi, hb, hk⟩; refine ⟨_, rfl, ?_⟩; have n1_ := Aside0.mk hi; have n2_ := Aside0.mk hb; clear HI HB HO hi hb hk; have HI := n1_; have HB := n2_; clear n1_ n2_))
  refine bodyPost_ret (results_list (rs := [.tmp 2, .tmp 3, .tmp 4, .tmp 5]) rfl (by simp) (.tmp (.tmp (.tmp (.tmp .nil))))) rfl ?_
  exact ⟨by simp [hN], HB.out⟩
end Go.Proofs.Ytmechelmnpoddaa.H7
namespace Go.Proofs.Ytmechelmnpoddaa.Es
def dsum (B : Nat) : Nat → Nat → Nat → Nat
 | 0, _, a => a
 | p + 1, R, a => fN (R / B) fun R1 => fN (a + R % B) fun a1 => dsum B p R1 a1
def lvls (b k R V : Nat) : Nat → Bool
 | 0 => true
 | l + 1 => Nat.beq (dsum 4 (b ^ l) (R >>> (2 * inner b l)) 0 % (b + 1)) ((k * b ^ l + (V >>> (20 * l)) % 1048576) % (b + 1)) && lvls b k R V l
def imp (x y : Bool) : Bool := bif x then y else true
def stOk (b d inn k n R V E S : Nat) : Bool :=
 fN (inn + b ^ d) fun N =>
 Nat.beq ((V >>> (20 * d)) % 1048576) E && Nat.beq (dsum 1048576 (d + 1) V 0) (S + E) && lvls b k R V d &&
 imp (Nat.beq (n % N) 0) (Nat.beq R (k * ((4 ^ inn - 1) / 3))) && imp (Nat.beq n N) (Nat.beq E (b ^ d)) &&
 Nat.ble (E * (b ^ (d + 1) - 1)) (n * ((b - 1) * b ^ d) + (2 * d + 3) * (b ^ (d + 1) - 1)) && Nat.ble (n * ((b - 1) * b ^ d)) (E * (b ^ (d + 1) - 1) + (2 * d + 3) * (b ^ (d + 1) - 1))
def chOk (d N i : Nat) (e : Bool) (s M : Nat) : Bool :=
 (bif e then (Nat.ble d s && Nat.beq ((s - d) % 2) 0) else Nat.beq (s % 2) 1) && (bif Nat.ble N i then Nat.beq ((M >>> (i - N)) % 2) (endN e) else true)
def scanP (b d inn k : Nat) : Nat → Nat → Nat → Nat → Nat → Nat → Nat → Bool
 | 0, i, R, V, E, S, _ => stOk b d inn k i R V E S
 | m + 1, i, R, V, E, S, M => bif stOk b d inn k i R V E S then
   match runP b inn (d + 1) 5000 0 0 0 R (V + 1) with
   | none => false
   | some (e, s, R1, V1) => bif chOk d (inn + b ^ d) i e s M then fN (i + 1) fun i1 => fN (E + endN e) fun E1 => fN (S + s) fun S1 => fN (M + endN e <<< i) fun M1 => scanP b d inn k m i1 R1 V1 E1 S1 M1 else false
  else false
def scanOk (b d k : Nat) : Bool := fN (inner b d) fun inn => scanP b d inn k 200 0 (k * ((4 ^ inn - 1) / 3)) 0 0 0 0
theorem all_scan : (trees.all fun p => (List.range (p.1 + 1)).all fun k => scanOk p.1 p.2 k) = true := by decide +kernel
theorem dsum_eq (B : Nat) (hB : 0 < B) : ∀ (p : Nat) (l : List Nat) (a : Nat), (∀ x ∈ l, x < B) → dsum B p (pk B l) a = a + (l.take p).sum
 | 0, l, a, _ => by simp [dsum]
 | p + 1, [], a, h => by
  simp only [dsum, fN_eq, pk, Nat.zero_div, Nat.zero_mod, Nat.add_zero]
  have := dsum_eq B hB p [] a (by simp)
  simpa [pk] using this
 | p + 1, x :: t, a, h => by
  have hx : x < B := h x (by simp)
  have ih := dsum_eq B hB p t (a + x) (fun y hy => h y (by simp [hy]))
  simp only [dsum, fN_eq, pk]
  rw [Nat.add_mul_div_left _ _ hB, Nat.div_eq_of_lt hx, Nat.zero_add, Nat.add_mul_mod_self_left, Nat.mod_eq_of_lt hx, ih]
  simp [Nat.add_assoc]
theorem pk_drop (B : Nat) (hB : 0 < B) : ∀ (f : Nat) (l : List Nat), (∀ x ∈ l, x < B) → pk B l / B ^ f = pk B (l.drop f)
 | 0, l, _ => by simp
 | f + 1, [], _ => by simp [pk]
 | f + 1, x :: t, h => by
  have hx : x < B := h x (by simp)
  have ih := pk_drop B hB f t (fun y hy => h y (by simp [hy]))
  simp only [pk, List.drop_succ_cons]
  rw [Nat.pow_succ, Nat.mul_comm (B ^ f) B, ← Nat.div_div_eq_div_mul, Nat.add_mul_div_left _ _ hB, Nat.div_eq_of_lt hx, Nat.zero_add, ih]
theorem pk_append (B : Nat) : ∀ (l : List Nat) (x : Nat), pk B (l ++ [x]) = pk B l + x * B ^ l.length
 | [], x => by simp [pk]
 | y :: t, x => by
  have ih := pk_append B t x
  simp only [List.cons_append, pk, List.length_cons]
  rw [ih, Nat.mul_add, Nat.pow_succ]
  have : B * (x * B ^ t.length) = x * (B ^ t.length * B) := by rw [Nat.mul_left_comm, Nat.mul_comm B]
  omega
theorem pk_inj (B : Nat) (hB : 0 < B) (l t : List Nat) (hl : l.length = t.length) (h1 : ∀ x ∈ l, x < B) (h2 : ∀ x ∈ t, x < B) (h : pk B l = pk B t) : l = t := by
 apply List.ext_getElem hl
 intro i a c
 have e1 := pk_get B hB l i h1
 have e2 := pk_get B hB t i h2
 rw [h, e2] at e1
 simpa [nth, a, c] using e1.symm
structure Sofar (b d inn i : Nat) (s : St) (E S M : Nat) : Prop where
 f : Fits inn (d + 1) s.rot s.vis
 rb : ∀ x ∈ s.rot, x ≤ b
 le : s.ends.length = i
 lt : s.trips.length = i
 hE : s.ends.sum = E
 hS : s.trips.sum = S
 hM : pk 2 s.ends = M
 e2 : ∀ x ∈ s.ends, x < 2
 one : ∀ j < i, (nth s.ends j = 1 → d ≤ nth s.trips j ∧ (nth s.trips j - d) % 2 = 0) ∧ (nth s.ends j = 0 → nth s.trips j % 2 = 1)
 per : ∀ j, inn + b ^ d ≤ j → j < i → nth s.ends j = nth s.ends (j - (inn + b ^ d))
 top : inn + b ^ d < i → (s.ends.take (inn + b ^ d)).sum = b ^ d
structure Good (b d inn k n : Nat) (s : St) : Prop where
 so : ∃ E S M, Sofar b d inn n s E S M
 top : inn + b ^ d ≤ n → (s.ends.take (inn + b ^ d)).sum = b ^ d
 last : nth s.vis d = s.ends.sum
 all : s.vis.sum = s.trips.sum + s.ends.sum
 lev : ∀ l < d, ((s.rot.drop (inner b l)).take (b ^ l)).sum % (b + 1) = (k * b ^ l + nth s.vis l) % (b + 1)
 back : n % (inn + b ^ d) = 0 → s.rot = List.replicate inn k
 gap1 : s.ends.sum * (b ^ (d + 1) - 1) ≤ n * ((b - 1) * b ^ d) + (2 * d + 3) * (b ^ (d + 1) - 1)
 gap2 : n * ((b - 1) * b ^ d) ≤ s.ends.sum * (b ^ (d + 1) - 1) + (2 * d + 3) * (b ^ (d + 1) - 1)
theorem imp_of {x y : Bool} (h : imp x y = true) (hx : x = true) : y = true := by subst hx; exact h
theorem lvls_of (b d k inn : Nat) (rot vis : List Nat) (f : Fits inn (d + 1) rot vis) : ∀ m, lvls b k (pk 4 rot) (pk 1048576 vis) m = true → ∀ l < m, ((rot.drop (inner b l)).take (b ^ l)).sum % (b + 1) = (k * b ^ l + nth vis l) % (b + 1)
 | 0, _, l, hl => by omega
 | m + 1, h, l, hl => by
  simp only [lvls, Bool.and_eq_true] at h
  by_cases e : l = m
  rotate_left
  ·exact lvls_of b d k inn rot vis f m h.2 l (by omega)
  subst e
  have h1 := Nat.eq_of_beq_eq_true h.1
  rw [getV f, Nat.shiftRight_eq_div_pow, Nat.pow_mul, show (2 : Nat) ^ 2 = 4 from rfl, pk_drop 4 (by decide) _ _ f.br, dsum_eq 4 (by decide) _ _ _ (fun x hx => f.br x (List.mem_of_mem_drop hx)), Nat.zero_add] at h1
  exact h1
theorem good_of {b d inn k i : Nat} {s : St} {E S M : Nat} (hk : k ≤ b) (hb : b ≤ 3) (h : Sofar b d inn i s E S M) (ho : stOk b d inn k i (pk 4 s.rot) (pk 1048576 s.vis) E S = true) : Good b d inn k i s := by
 simp only [stOk, fN_eq, Bool.and_eq_true] at ho
 obtain ⟨⟨⟨⟨⟨⟨h1, h2⟩, h3⟩, h4⟩, h5⟩, h6⟩, h7⟩ := ho
 have h1 := Nat.eq_of_beq_eq_true h1
 have h2 := Nat.eq_of_beq_eq_true h2
 rw [getV h.f] at h1
 rw [dsum_eq _ (by decide) _ _ _ h.f.bv, Nat.zero_add, List.take_of_length_le (by rw [h.f.lv]; exact Nat.le_refl _)] at h2
 refine ⟨⟨E, S, M, h⟩, ?_, by rw [h1, h.hE], by rw [h2, h.hS, h.hE], lvls_of b d k inn _ _ h.f d h3, ?_, ?_, ?_⟩
 ·intro hn
  by_cases e : inn + b ^ d = i
  rotate_left
  ·exact h.top (by omega)
  have := Nat.eq_of_beq_eq_true (imp_of h5 (by rw [e]; exact Nat.beq_refl i))
  rw [List.take_of_length_le (by rw [h.le, e]; exact Nat.le_refl _), h.hE, this]
 ·intro hn
  have := Nat.eq_of_beq_eq_true (imp_of h4 (by rw [hn]; rfl))
  rw [← pk_replicate4] at this
  exact pk_inj 4 (by decide) _ _ (by rw [h.f.lr]; simp) h.f.br (by intro x hx; simp at hx; omega) this
 ·rw [h.hE]; exact Nat.le_of_ble_eq_true h6
 ·rw [h.hE]; exact Nat.le_of_ble_eq_true h7
theorem run_le (b inner : Nat) : ∀ (k a l st : Nat) (rot vis : List Nat) e s R V, (∀ x ∈ rot, x ≤ b) → run b inner k a l st rot vis = some (e, s, R, V) → ∀ x ∈ R, x ≤ b
 | 0, _, _, _, _, _, _, _, _, _, _, h => by simp [run] at h
 | k + 1, a, l, st, rot, vis, e, s, R, V, hr, h => by
  have hm : ∀ x ∈ rot.set a ((nth rot a + 1) % (b + 1)), x ≤ b := fun x hx => by
   have := mem_set (B := b + 1) (fun y hy => by have := hr y hy; omega) (Nat.mod_lt _ (by omega)) x hx
   omega
  unfold run at h
  split at h
  ·split at h
   ·split at h
    ·split at h
     ·exact run_le b inner k _ _ _ _ _ _ _ _ _ hm h
     ·cases h
    ·split at h
     ·split at h
      ·simp only [Option.some.injEq, Prod.mk.injEq] at h
       obtain ⟨_, _, h1, h2⟩ := h
       subst h1 h2
       exact hm
      ·cases h
     ·split at h
      ·exact run_le b inner k _ _ _ _ _ _ _ _ _ hm h
      ·cases h
   ·cases h
  ·simp only [Option.some.injEq, Prod.mk.injEq] at h
   obtain ⟨_, _, h1, h2⟩ := h
   subst h1 h2
   exact hr
theorem nth_app (l : List Nat) (x j : Nat) (h : j < l.length) : nth (l ++ [x]) j = nth l j := by simp [nth, List.getD_eq_getElem?_getD, List.getElem?_append_left h]
theorem nth_end (l : List Nat) (x : Nat) : nth (l ++ [x]) l.length = x := by simp [nth]
theorem sofar_next {b d inn i : Nat} {s : St} {E S M : Nat} {e : Bool} {t : Nat} {rot vis : List Nat} (h : Sofar b d inn i s E S M) (ht : inn + b ^ d ≤ i → (s.ends.take (inn + b ^ d)).sum = b ^ d) (f : Fits inn (d + 1) rot vis) (hr : ∀ x ∈ rot, x ≤ b)
  (hc : chOk d (inn + b ^ d) i e t M = true) : Sofar b d inn (i + 1) ⟨rot, vis, s.ends ++ [endN e], s.trips ++ [t]⟩ (E + endN e) (S + t) (M + endN e <<< i) := by
 simp only [chOk, Bool.and_eq_true] at hc
 have he : endN e < 2 := by cases e <;> decide
 refine ⟨f, hr, by simp [h.le], by simp [h.lt], by simp [h.hE], by simp [h.hS], ?_, ?_, ?_, ?_, ?_⟩
 ·show pk 2 (s.ends ++ [endN e]) = _
  rw [pk_append, h.hM, h.le, Nat.shiftLeft_eq]
 ·intro x hx
  rcases List.mem_append.1 hx with hx | hx
  ·exact h.e2 x hx
  ·simp at hx; omega
 ·intro j hj
  by_cases hji : j = i
  rotate_left
  ·show (nth (s.ends ++ [endN e]) j = 1 → d ≤ nth (s.trips ++ [t]) j ∧ _) ∧ _
   rw [nth_app _ _ _ (by rw [h.le]; omega), nth_app _ _ _ (by rw [h.lt]; omega)]
   exact h.one j (by omega)
  subst hji
  have e1 : nth (s.ends ++ [endN e]) j = endN e := by rw [← h.le]; exact nth_end _ _
  have e2 : nth (s.trips ++ [t]) j = t := by rw [← h.lt]; exact nth_end _ _
  show (nth (s.ends ++ [endN e]) j = 1 → d ≤ nth (s.trips ++ [t]) j ∧ _) ∧ _
  rw [e1, e2]
  have hc1 := hc.1
  cases e
  ·exact ⟨fun q => by simp [endN] at q, fun _ => Nat.eq_of_beq_eq_true hc1⟩
  ·simp only [cond_true, Bool.and_eq_true] at hc1
   exact ⟨fun _ => ⟨Nat.le_of_ble_eq_true hc1.1, Nat.eq_of_beq_eq_true hc1.2⟩, fun q => by simp [endN] at q⟩
 ·intro j h0 hj
  show nth (s.ends ++ [endN e]) j = nth (s.ends ++ [endN e]) (j - (inn + b ^ d))
  have hp : 0 < inn + b ^ d ∨ inn + b ^ d = 0 := by omega
  rcases hp with hp | hp
  ·rw [nth_app _ _ (j - (inn + b ^ d)) (by rw [h.le]; omega)]
   by_cases hji : j = i
   rotate_left
   ·rw [nth_app _ _ _ (by rw [h.le]; omega)]
    exact h.per j h0 (by omega)
   subst hji
   have e1 : nth (s.ends ++ [endN e]) j = endN e := by rw [← h.le]; exact nth_end _ _
   rw [e1]
   have hc2 := hc.2
   have hb : Nat.ble (inn + b ^ d) j = true := Nat.ble_eq_true_of_le h0
   rw [hb, cond_true] at hc2
   have hc2 := Nat.eq_of_beq_eq_true hc2
   rw [← h.hM, Nat.shiftRight_eq_div_pow, pk_get 2 (by decide) _ _ h.e2] at hc2
   exact hc2.symm
  ·rw [hp, Nat.sub_zero]
 ·intro hN
  show ((s.ends ++ [endN e]).take (inn + b ^ d)).sum = _
  rw [List.take_append_of_le_length (by rw [h.le]; omega)]
  exact ht (by omega)
theorem scan_ok (b d inn k : Nat) (hk : k ≤ b) (hb : b ≤ 3) : ∀ (m i : Nat) (s : St) (E S M : Nat), Sofar b d inn i s E S M → scanP b d inn k m i (pk 4 s.rot) (pk 1048576 s.vis) E S M = true → ∀ n, n ≤ m → ∀ s', chips b inn n s = some s' → Good b d inn k (i + n) s'
 | 0, i, s, E, S, M, h, ho, n, hn, s', hs => by
  obtain rfl : n = 0 := by omega
  simp only [chips, Option.some.injEq] at hs
  subst hs
  exact good_of hk hb h ho
 | m + 1, i, s, E, S, M, h, ho, n, hn, s', hs => by
  simp only [scanP] at ho
  cases h1 : stOk b d inn k i (pk 4 s.rot) (pk 1048576 s.vis) E S with
  | false => rw [h1] at ho; simp at ho
  | true =>
  rw [h1, cond_true] at ho
  have hg := good_of hk hb h h1
  cases n with
  | zero =>
   simp only [chips, Option.some.injEq] at hs
   subst hs
   exact hg
  | succ n =>
  simp only [chips] at hs
  by_cases hv : 0 < s.vis.length ∧ nth s.vis 0 < 100000
  rotate_left
  ·rw [chip, if_neg hv] at hs
   cases hs
  have e := setV h.f 0 (by omega)
  rw [Nat.mul_zero, Nat.shiftLeft_zero] at e
  rw [e] at ho
  have f1 : Fits inn (d + 1) s.rot (s.vis.set 0 (nth s.vis 0 + 1)) := ⟨h.f.lr, h.f.br, by rw [List.length_set]; exact h.f.lv, mem_set h.f.bv (by omega)⟩
  cases hr : runP b inn (d + 1) 5000 0 0 0 (pk 4 s.rot) (pk 1048576 (s.vis.set 0 (nth s.vis 0 + 1))) with
  | none => rw [hr] at ho; simp at ho
  | some q =>
   obtain ⟨e1, s1, R, V⟩ := q
   rw [hr] at ho
   obtain ⟨rot1, vis1, hrun, rfl, rfl, f2⟩ := run_of_P b inn (d + 1) hb 5000 0 0 0 _ _ f1 e1 s1 R V hr
   have hc : chip b inn s.rot s.vis = some (e1, s1, rot1, vis1) := by rw [chip, if_pos hv]; exact hrun
   rw [hc] at hs
   simp only [fN_eq] at ho
   cases h2 : chOk d (inn + b ^ d) i e1 s1 M with
   | false => rw [h2] at ho; simp at ho
   | true =>
   rw [h2, cond_true] at ho
   have hn1 := sofar_next h hg.top f2 (run_le _ _ _ _ _ _ _ _ _ _ _ _ h.rb hrun) h2
   have := scan_ok b d inn k hk hb m (i + 1) _ _ _ _ hn1 ho n (by omega) s' hs
   rw [show i + (n + 1) = i + 1 + n by omega]
   exact this
theorem good_is (b d k n : Nat) (h : (b, d) ∈ trees) (hk : k ≤ b) (hn : n ≤ 200) (s : St) (hs : chips b (inner b d) n (start d (inner b d) k) = some s) : Good b d (inner b d) k n s := by
 have h1 := List.all_eq_true.1 all_scan (b, d) h
 have h2 : scanOk b d k = true := List.all_eq_true.1 h1 k (by simp; omega)
 have hb : b ≤ 3 := by
  simp [trees] at h
  omega
 simp only [scanOk, fN_eq] at h2
 have h0 : Sofar b d (inner b d) 0 (start d (inner b d) k) 0 0 0 := by
  refine ⟨⟨by simp [start], ?_, by simp [start], ?_⟩, ?_, rfl, rfl, rfl, rfl, rfl, by simp [start], fun j hj => by omega, fun j _ hj => by omega, fun hj => by omega⟩
  ·intro x hx; simp [start] at hx; omega
  ·intro x hx; simp [start] at hx; omega
  ·intro x hx; simp [start] at hx; omega
 have := scan_ok b d (inner b d) k hk hb 200 0 (start d (inner b d) k) 0 0 0 h0 (by simp only [start]; rw [pk_replicate4, pk_replicate0]; exact h2) n hn s hs
 simpa using this
end Go.Proofs.Ytmechelmnpoddaa.Es
namespace Go.Proofs.Ytmechelmnpoddaa.F9
open Go.RowKit YtmechelmnpoddaaW.PrintWords YtmechelmnpoddaaW.PrintLast YtmechelmnpoddaaW.PrintMore
open A7 E7 F7 H7
attribute [local go_sem] max2_int min2_int max_two min_two max_three min_three max_four min_four
def errW : Option Int → Value
 | none => .nilIface
 | some c => .iface 0 (.int .i64 c)
theorem errW_none : errW none = .nilIface := rfl
theorem errW_some (c : Int) : errW (some c) = .iface 0 (.int .i64 c) := rfl
theorem info3 : (Try.prog.info? 3).map (fun i => (i.zero, i.size, i.bytes)) = some (some (.int .i64 0), 1, 8) := by kernel_rfl
end Go.Proofs.Ytmechelmnpoddaa.F9
namespace Go.Proofs.Ytmechelmnpoddaa.F9
open Go.RowKit YtmechelmnpoddaaW.PrintWords YtmechelmnpoddaaW.PrintLast YtmechelmnpoddaaW.PrintMore
open A7 E7 F7 H7
attribute [local go_sem] max2_int min2_int max_two min_two max_three min_three max_four min_four
theorem eqA26 (d : Nat) (w : World) (x0 y0 : Int) (x1 y1 : Int) :
  (Op.equalIn (d + 2) 26 (.agg #[.int .i64 x0, .int .i64 x1]) (.agg #[.int .i64 y0, .int .i64 y1])).run Try.prog w = .ok (x0 == y0 && (x1 == y1)) w := by
 refine eqA_of Try.underlying26 (by kernel_rfl) ?_
 refine eqf_cons (by rfl) (by go_simp; rfl) (by go_simp; rfl) (by go_simp) ?_
 exact eqf_last (by rfl) (by go_simp; rfl) (by go_simp; rfl) (by go_simp)
end Go.Proofs.Ytmechelmnpoddaa.F9
namespace Go.Proofs.Ytmechelmnpoddaa.F9
open Go.RowKit YtmechelmnpoddaaW.PrintWords YtmechelmnpoddaaW.PrintLast YtmechelmnpoddaaW.PrintMore
open A7 E7 F7 H7
attribute [local go_sem] max2_int min2_int max_two min_two max_three min_three max_four min_four
def spec_DrawEscapeChance.f (l0 : List Int) : Option (Int × Int) := (spec_DrawCountNodes.f l0).bind fun bt310 => (some (bt310.1, bt310.2))
set_option maxHeartbeats 8000000 in
set_option maxRecDepth 100000 in
theorem spec_DrawEscapeChance.calls (A0 : Option Addr) (c0 : Nat) (l0 : List Int) (r1 : Int) (r2 : Int) (w : World) (hr0 : Kd.C (Kd.int .u8) w A0 l0.length l0) (hc0 : l0.length ≤ c0) (h : spec_DrawEscapeChance.f l0 = some (r1, r2)) :
  Calls Try.prog 53 #[.slice A0 l0.length c0] w fun e w' => e = .returned (.tuple #[.int .i64 r1, .int .i64 r2]) ∧ Below w.heap.size w w' := by
 have HR0 := Aside0.mk hr0
 have HC0 := Aside0.mk hc0
 clear hr0 hc0
 have HB := Aside0.mk (Below.refl w.heap.size w)
 have H : ((spec_DrawCountNodes.f l0).bind fun bt310 => (some (bt310.1, bt310.2))) = some (r1, r2) := h
 clear h
 replace H := Option.bind_eq_some_iff.mp H
 obtain ⟨⟨t310, t311⟩, A20, H⟩ := H
 replace H : (some (t310, t311)) = some (r1, r2) := H
 have A2 := Aside0.mk A20
 clear A20
 simp only [Option.some.injEq, Prod.mk.injEq] at H
 obtain ⟨rfl, rfl⟩ := H
 go_enter Try.func53, Try.ntmps53
 go_wp2_with (first | ((with_reducible refine gate_callee (f := 82) rfl ?_); refine goesL_ (some 5) rfl rfl Try.func82 (by kernel_rfl) rfl #[.slice A0 l0.length c0] rfl (by (try simp only [List.map_toArray, List.map_cons, List.map_nil]); first | done | rfl | (simp only [List.length_drop, List.length_take]; rfl)) ?_; (with_reducible refine (spec_DrawCountNodes.calls _ _ l0 t310 t311 _ ?side1 ?side2 A2.out).mono ?_); (case side1 => repeat (first | exact HR0.out | (with_reducible refine Kd.C_alloc ?_ _) | (with_reducible refine Kd.C_drewN ?_ _) | (with_reducible refine Kd.C_drew ?_))); (case side2 => exact HC0.out); rintro e w3 ⟨rfl, hb⟩; refine ⟨_, rfl, ?_⟩; have n0_ := Aside0.mk (bP_ (by repeat (first | (with_reducible first | exact HB.out | apply bA_ | apply bN_ | apply bD_) | exact HB.out)) hb); clear HB; have HB := n0_; clear n0_; (try clear hb); (try clear hb2); (try clear hk); (try clear hi)))
 go_ret2
 exact ⟨by first | rfl | (simp [errW_none, errW_some] <;> rfl) | (simp [*, errW_none, errW_some] <;> rfl), by repeat (first | (with_reducible first | exact HB.out | apply bA_ | apply bN_ | apply bD_) | exact HB.out)⟩
def spec_DrawAreAsBefore.f (k : Nat) (l0 : List Int) : Option (Int × Int × Int × Int) := (spec_DrawEscapeList.f k l0).bind fun bt312 => (some (bt312.1, bt312.2.1, bt312.2.2.1, bt312.2.2.2))
set_option maxHeartbeats 8000000 in
set_option maxRecDepth 100000 in
theorem spec_DrawAreAsBefore.calls (k : Nat) (A0 : Option Addr) (c0 : Nat) (l0 : List Int) (r1 : Int) (r2 : Int) (r3 : Int) (r4 : Int) (w : World) (hr0 : Kd.C (Kd.int .u8) w A0 l0.length l0) (hc0 : l0.length ≤ c0) (h : spec_DrawAreAsBefore.f k l0 = some (r1, r2, r3, r4)) :
  Calls Try.prog 54 #[.slice A0 l0.length c0] w fun e w' => e = .returned (.tuple #[.int .i64 r1, .int .i64 r2, .int .i64 r3, .int .i64 r4]) ∧ Below w.heap.size w w' := by
 have HR0 := Aside0.mk hr0
 have HC0 := Aside0.mk hc0
 clear hr0 hc0
 have HB := Aside0.mk (Below.refl w.heap.size w)
 have H : ((spec_DrawEscapeList.f k l0).bind fun bt312 => (some (bt312.1, bt312.2.1, bt312.2.2.1, bt312.2.2.2))) = some (r1, r2, r3, r4) := h
 clear h
 replace H := Option.bind_eq_some_iff.mp H
 obtain ⟨⟨t312, t313, t314, t315⟩, A20, H⟩ := H
 replace H : (some (t312, t313, t314, t315)) = some (r1, r2, r3, r4) := H
 have A2 := Aside0.mk A20
 clear A20
 simp only [Option.some.injEq, Prod.mk.injEq] at H
 obtain ⟨rfl, rfl, rfl, rfl⟩ := H
 go_enter Try.func54, Try.ntmps54
 go_wp2_with (first | ((with_reducible refine gate_callee (f := 52) rfl ?_); refine goesL_ (some 7) rfl rfl Try.func52 (by kernel_rfl) rfl #[.slice A0 l0.length c0] rfl (by (try simp only [List.map_toArray, List.map_cons, List.map_nil]); first | done | rfl | (simp only [List.length_drop, List.length_take]; rfl)) ?_; (with_reducible refine (spec_DrawEscapeList.calls k _ _ l0 t312 t313 t314 t315 _ ?side1 ?side2 A2.out).mono ?_); (case side1 => repeat (first | exact HR0.out | (with_reducible refine Kd.C_alloc ?_ _) | (with_reducible refine Kd.C_drewN ?_ _) | (with_reducible refine Kd.C_drew ?_))); (case side2 => exact HC0.out); rintro e w3 ⟨rfl, hb⟩; refine ⟨_, rfl, ?_⟩; have n0_ := Aside0.mk (bP_ (by repeat (first | (with_reducible first | exact HB.out | apply bA_ | apply bN_ | apply bD_) | exact HB.out)) hb); clear HB; have HB := n0_; clear n0_; (try clear hb); (try clear hb2); (try clear hk); (try clear hi)))
 refine bodyPost_ret (results_list (rs := [.tmp 2, .tmp 3, .tmp 4, .tmp 5]) rfl (by simp) (.tmp (.tmp (.tmp (.tmp .nil))))) rfl ?_
 exact ⟨by first | rfl | (simp [errW_none, errW_some] <;> rfl) | (simp [*, errW_none, errW_some] <;> rfl), by repeat (first | (with_reducible first | exact HB.out | apply bA_ | apply bN_ | apply bD_) | exact HB.out)⟩
end Go.Proofs.Ytmechelmnpoddaa.F9
