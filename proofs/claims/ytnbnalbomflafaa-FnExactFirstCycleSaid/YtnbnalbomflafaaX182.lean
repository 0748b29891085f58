/-
  Texts of the seat, merged (part 2).
-/
import Derived.Test.YtnbnalbomflafaaProg
import Derived.Below
import Derived.Deep.Draws
import Derived.Deep.AppendLies
import Derived.Maps.AppendAt
import Derived.OwnWalk
import Derived.Laws.BytesArg
import Derived.Laws.MakeOwn
import Derived.Laws.OwnMore
import Derived.Deep.OwnRows
import Derived.Tactics
import Derived.Lib.ConvBytes
import Derived.Laws.Slices
import Derived.WalkKit
import Derived.KernelRfl
import Derived.RowKit3
import Derived.Deep.LoopGhost
import Derived.Deep.QuietTactic
import Derived.BigQuiet
import Derived.WideLaws
import Derived.Deep.DeepCutAuto
import Derived.Deep.CutBlock
import Derived.Deep.RegionHeld3
import Derived.Laws.Rows
import Derived.Lib.AppendStr
import Derived.ArgAppend
import Derived.Laws.IdiomCopy
import Derived.OrdersHeld
import Derived.Laws.BitsLemmas
import Derived.RowKit
import Derived.Test.YtnbnalbomflafaaWWords
import Derived.Test.YtnbnalbomflafaaWLast
import Derived.Test.YtnbnalbomflafaaWTab
import Derived.Test.YtnbnalbomflafaaWFour
import Derived.Test.YtnbnalbomflafaaWQPut
import Derived.Test.YtnbnalbomflafaaWApart
import Derived.Test.YtnbnalbomflafaaWArr
import Derived.Test.YtnbnalbomflafaaWZeros
import Derived.Test.YtnbnalbomflafaaWFoot
import Derived.Test.YtnbnalbomflafaaWKept
import Derived.Test.YtnbnalbomflafaaWShare
import Derived.Test.YtnbnalbomflafaaWN
import Derived.Test.YtnbnalbomflafaaWFootNe
import Derived.Test.YtnbnalbomflafaaWAt
import Derived.Test.YtnbnalbomflafaaWEqStruct
import Derived.Test.YtnbnalbomflafaaWRepsOne
import Derived.Test.YtnbnalbomflafaaWInv
import Derived.Test.YtnbnalbomflafaaWInvWords
import Derived.Test.YtnbnalbomflafaaWGuard
import Derived.Test.YtnbnalbomflafaaWNEv
import Derived.Test.YtnbnalbomflafaaWMore
import Derived.Lib.AppendZerosOnto
import Derived.Test.YtnbnalbomflafaaX181
/-! ## Kb -/
namespace Go.Proofs.Ytnbnalbomflafaa.KA
open Go.RowKit Go.Proofs.YtnbnalbomflafaaW.PrintWords Go.Proofs.YtnbnalbomflafaaW.PrintLast Go.Proofs.YtnbnalbomflafaaW.PrintMore
open Go.Proofs.Ytnbnalbomflafaa.GA
open Go.Shelf Go.Lib
set_option linter.unusedVariables false
set_option linter.unusedSimpArgs false
theorem pred109 (A : Option Addr) (n c : Nat) (B : Nat) (w : World) (hB : B < w.heap.size) (hcell : w.cell? ⟨B, 0, none⟩ = some (.slice A n c)) (h1 : n ≤ 100) :
    PredAt Try.prog 109 #[.pointer (some ⟨B, 0, none⟩)] (Value.int .i64) (fun q => !inB q 0 ((n : Int) - 1)) w := fun W x hb => by
  have hc : W.cell? ⟨B, 0, none⟩ = some (.slice A n c) := (hb.cell (p := ⟨B, 0, none⟩) hB).trans hcell
  have HI := in_eq x 0 ((n : Int) - 1)
  show Calls Try.prog 109 #[.int .i64 x, .pointer (some ⟨B, 0, none⟩)] W _
  obtain ⟨b, hbb⟩ : ∃ b, b = inB x 0 ((n : Int) - 1) := ⟨_, rfl⟩
  rw [← hbb] at HI
  replace HI := Aside0.mk HI
  replace hbb := Aside0.mk hbb
  cases b
  all_goals go_enter Try.func109, Try.ntmps109
  all_goals go_wp2_with (go_at_call 77; (with_reducible refine (impl_in.calls x 0 ((n : Int) - 1) _ _ HI.out).mono ?_); rintro e w' ⟨rfl, ⟨nd, rfl⟩⟩)
  all_goals (go_ret; exact ⟨by rw [← hbb.out]; rfl, nd, rfl⟩)
theorem enters109 : ∀ args w, (callFunc 109 args).run Try.prog w = .ok (.enter 109 args) w := enters_of Try.func109 (by kernel_rfl) rfl
def hasB (l0 : List (List Int)) (l1 : List Int) : Bool := isGraphB l0 && !(l1.any fun q => !inB q 0 ((l0.length : Int) - 1))
theorem graph_len {l : List (List Int)} (h : isGraphB l = true) : 1 ≤ l.length ∧ l.length ≤ 8 := by
  unfold isGraphB at h
  simp only [Bool.and_eq_true, decide_eq_true_eq] at h
  exact h.1
set_option maxHeartbeats 4000000 in
set_option maxRecDepth 100000 in
theorem impl_has.walk (A0 : Option Addr) (c0 : Nat) (l : List (List Int)) (A1 : Option Addr) (c1 : Nat) (ps : List Int) (w : World) (hr0 : Kd.C (Kd.slice 3 (Kd.int .i64)) w A0 l.length l) (hr1 : Kd.C (Kd.int .i64) w A1 ps.length ps) :
    Calls Try.prog 76 #[.agg #[.slice A0 l.length c0], .slice A1 ps.length c1] w fun e w' => e = .returned (.bool (hasB l ps)) ∧ Below w.heap.size w w' := by
  have HR0 := Aside0.mk (Kd.C_alloc hr0 (.cells #[.slice A0 l.length c0] 30))
  have HR1 := Aside0.mk (Kd.C_alloc hr1 (.cells #[.slice A0 l.length c0] 30))
  clear hr0 hr1
  have hu30 := Try.underlying30
  have hbx : (w.alloc (.cells #[.slice A0 l.length c0] 30)).cell? ⟨w.heap.size, 0, none⟩ = some (.slice A0 l.length c0) := (blk_cell (blk_new w (.cells #[.slice A0 l.length c0] 30)) 0).trans rfl
  cases hg : isGraphB l with
  | false =>
    have h0 : hasB l ps = false := by unfold hasB; rw [hg]; rfl
    rw [h0]
    replace hg := Aside0.mk hg
    go_enter Try.func76, Try.ntmps76
    go_wp2_with (go_at_call 107; refine (impl_isGraph.walk A0 c0 l _ HR0.out).mono ?_; rw [hg.out]; rintro e w1 ⟨rfl, hB⟩; have HB := Aside0.mk hB; clear hB)
    go_ret
    exact ⟨rfl, below_then (below_alloc (Below.refl _ _) _) (by simp) HB.out⟩
  | true =>
    have h8 := (graph_len hg).2
    have h0 : hasB l ps = !(ps.any fun q => !inB q 0 ((l.length : Int) - 1)) := by unfold hasB; rw [hg]; rfl
    rw [h0]
    obtain ⟨b, hb⟩ : ∃ b, b = ps.any (fun q => !inB q 0 ((l.length : Int) - 1)) := ⟨_, rfl⟩
    rw [← hb]
    replace hb := Aside0.mk hb
    replace hg := Aside0.mk hg
    clear h0
    go_enter Try.func76, Try.ntmps76
    go_wp2_with (first | (go_at_call 107; refine (impl_isGraph.walk A0 c0 l _ HR0.out).mono ?_; rw [hg.out]; rintro e w1 ⟨rfl, hB⟩; have HB := Aside0.mk hB; have HC := Aside0.mk (Kd.C_below HR1.out hB); have HP := Aside0.mk (pred109 A0 l.length c0 w.heap.size w1 (by have := hB.size; simp at this; omega) ((hB.cell (p := ⟨w.heap.size, 0, none⟩) (by simp)).trans hbx) (by omega)); clear hB) | (go_at_call 108; refine (contains_calls _ 109 _ enters109 A1 c1 ps _ HP.out HC.out).mono ?_; rw [← hb.out]; rintro e w' ⟨rfl, ⟨nd2, rfl⟩⟩))
    go_ret
    exact ⟨by cases b <;> rfl, pw_below_drewN (below_then (below_alloc (Below.refl _ _) _) (by simp) HB.out) _⟩
end Go.Proofs.Ytnbnalbomflafaa.KA
/-! ## Kp -/
namespace Go.Proofs.Ytnbnalbomflafaa.KA
open Go.RowKit Go.Proofs.YtnbnalbomflafaaW.PrintWords Go.Proofs.YtnbnalbomflafaaW.PrintLast
open Go.Proofs.Ytnbnalbomflafaa.GA
set_option linter.unusedVariables false
set_option linter.unusedSimpArgs false
theorem wrap_id {x : Int} (h0 : -9223372036854775808 ≤ x) (h1 : x ≤ 9223372036854775807) : wrap64 x = x := by unfold wrap64; omega
theorem wrap_up {i n : Nat} (h : i < n) (hn : n ≤ 1000000000000) : wrap64 ((i : Int) + 1) = ((i + 1 : Nat) : Int) := by rw [wrap_id (by omega) (by omega)]; omega
theorem rd_at (l : List Int) (i : Nat) (h : i < l.length) : rd l (i : Int) = l[i] := by
  unfold rd
  rw [Int.toNat_natCast, List.getD_eq_getElem?_getD, List.getElem?_eq_getElem h]
  rfl
theorem rdL_at (l : List (List Int)) (i : Nat) (h : i < l.length) : rd_L1 l (i : Int) = l[i] := by
  unfold rd_L1
  rw [Int.toNat_natCast, List.getD_eq_getElem?_getD, List.getElem?_eq_getElem h]
  rfl
theorem succ_of {d k : Nat} (h : d < k) : ∃ m, k = m + 1 := ⟨k - 1, by omega⟩
theorem szS (r : List Int) (x : Int) (hr : r.length ≤ 9223372036854775807) (h0 : 0 ≤ x) (h1 : x ≤ 1048576) : ∃ y, laws_szIntS.f r x = some y ∧ (y < 0 ∨ (0 ≤ y ∧ y ≤ 1048576 ∧ r.length ≤ 1048576)) := by
  unfold laws_szIntS.f
  rw [wrap_id (by omega) (by omega)]
  split
  · exact ⟨_, rfl, .inl (by decide)⟩
  · exact ⟨_, rfl, .inr ⟨by omega, by omega, by omega⟩⟩
theorem szSS_loop (l : List (List Int)) (hl : l.length ≤ 1048576) (h2 : ∀ r ∈ l, r.length ≤ 9223372036854775807) (d : Nat) : ∀ (k i : Nat) (x : Int), i + d = l.length → d < k → 0 ≤ x → x ≤ 1048576 →
    ∃ y, (∀ j, laws_szIntSS.l0 (k + j) l x (i : Int) = some y) ∧ (y < 0 ∨ ∀ r ∈ l.drop i, r.length ≤ 1048576) := by
  induction d with
  | zero =>
    intro k i x hi hk h0 h1
    refine ⟨x, fun j => ?_, .inr (by rw [List.drop_of_length_le (by omega)]; simp)⟩
    obtain ⟨k, rfl⟩ := succ_of hk
    rw [show k + 1 + j = (k + j) + 1 by omega]
    simp only [laws_szIntSS.l0]
    rw [if_neg (by omega)]
  | succ d ih =>
    intro k i x hi hk h0 h1
    obtain ⟨k, rfl⟩ := succ_of hk
    have hlt : i < l.length := by omega
    obtain ⟨y, hy, hy2⟩ := szS l[i] x (h2 _ (List.getElem_mem hlt)) h0 h1
    rcases (show y < 0 ∨ 0 ≤ y by omega) with hneg | hpos
    · refine ⟨-1, fun j => ?_, .inl (by decide)⟩
      rw [show k + 1 + j = (k + j) + 1 by omega]
      simp only [laws_szIntSS.l0]
      rw [if_pos (by omega), if_pos (by omega), rdL_at l i hlt, hy]
      simp only [Option.bind_some]
      rw [if_pos hneg]
    · have hb : 0 ≤ y ∧ y ≤ 1048576 ∧ l[i].length ≤ 1048576 := by omega
      obtain ⟨z, hz, hz2⟩ := ih k (i + 1) y (by omega) (by omega) hb.1 hb.2.1
      refine ⟨z, fun j => ?_, ?_⟩
      · rw [show k + 1 + j = (k + j) + 1 by omega]
        simp only [laws_szIntSS.l0]
        rw [if_pos (by omega), if_pos (by omega), rdL_at l i hlt, hy]
        simp only [Option.bind_some]
        rw [if_neg (by omega), wrap_up hlt (by omega)]
        exact hz j
      · rcases hz2 with h | h
        · exact .inl h
        · right
          rw [List.drop_eq_getElem_cons hlt]
          intro r hr
          rcases List.mem_cons.1 hr with rfl | hr
          · exact hb.2.2
          · exact h r hr
theorem toS_loop (l : List Int) (hl : l.length ≤ 1048576) (d : Nat) : ∀ (k i : Nat) (x : List Int), i + d = l.length → d < k → x.length = l.length → x.take i = l.take i → laws_toIntS.l0 k l x (i : Int) = some l := by
  induction d with
  | zero =>
    intro k i x hi hk hx ht
    obtain ⟨k, rfl⟩ := succ_of hk
    simp only [laws_toIntS.l0]
    rw [if_neg (by omega)]
    rw [List.take_of_length_le (by omega), List.take_of_length_le (by omega)] at ht
    rw [ht]
  | succ d ih =>
    intro k i x hi hk hx ht
    obtain ⟨k, rfl⟩ := succ_of hk
    have hlt : i < l.length := by omega
    simp only [laws_toIntS.l0]
    rw [if_pos (by omega), if_pos (by omega), if_pos (by omega), rd_at l i hlt, wrap_up hlt (by omega), Int.toNat_natCast]
    refine ih k (i + 1) _ (by omega) (by omega) (by simpa using hx) ?_
    rw [List.take_succ_eq_append_getElem hlt, List.take_succ_eq_append_getElem (by rw [List.length_set]; omega), List.take_set_of_le (Nat.le_refl _), ht]
    simp
theorem toS (l : List Int) (hl : l.length ≤ 1048576) (k : Nat) (hk : l.length < k) : laws_toIntS.f k l = some l := by
  unfold laws_toIntS.f
  rw [if_pos (by omega), if_pos (by simp; omega)]
  exact toS_loop l hl l.length k 0 _ (by omega) hk (by simp) (by simp)
theorem toSS_loop (l : List (List Int)) (hl : l.length ≤ 1048576) (h2 : ∀ r ∈ l, r.length ≤ 1048576) (d : Nat) : ∀ (k i : Nat) (x : List (List Int)), i + d = l.length → d + 1048577 < k → x.length = l.length → x.take i = l.take i → laws_toIntSS.l0 k l x (i : Int) = some l := by
  induction d with
  | zero =>
    intro k i x hi hk hx ht
    obtain ⟨k, rfl⟩ := succ_of hk
    simp only [laws_toIntSS.l0]
    rw [if_neg (by omega)]
    rw [List.take_of_length_le (by omega), List.take_of_length_le (by omega)] at ht
    rw [ht]
  | succ d ih =>
    intro k i x hi hk hx ht
    obtain ⟨k, rfl⟩ := succ_of hk
    have hlt : i < l.length := by omega
    simp only [laws_toIntSS.l0]
    rw [if_pos (by omega), if_pos (by omega), rdL_at l i hlt, toS l[i] (h2 _ (List.getElem_mem hlt)) k (by have := h2 _ (List.getElem_mem hlt); omega)]
    simp only [Option.bind_some]
    rw [if_pos (by omega), wrap_up hlt (by omega), Int.toNat_natCast]
    refine ih k (i + 1) _ (by omega) (by omega) (by simpa using hx) ?_
    rw [List.take_succ_eq_append_getElem hlt, List.take_succ_eq_append_getElem (by rw [List.length_set]; omega), List.take_set_of_le (Nat.le_refl _), ht]
    simp
theorem l1In_eq (a lo hi : Int) : spec_l1In.f a lo hi = some (inB a lo hi) := by
  unfold spec_l1In.f inB
  by_cases h1 : lo ≤ a
  · simp [h1]
  · simp [h1]
theorem l1All_loop (lo hi : Int) (l : List Int) (hn : l.length ≤ 1000000000) (d : Nat) : ∀ (k i : Nat), i + d = l.length → d < k → spec_l1All.l0 k lo hi l (l.length : Int) (i : Int) = some ((l.drop i).all fun x => inB x lo hi) := by
  induction d with
  | zero =>
    intro k i hi hk
    obtain ⟨k, rfl⟩ := succ_of hk
    unfold spec_l1All.l0
    rw [if_neg (by omega), List.drop_of_length_le (by omega)]
    rfl
  | succ d ih =>
    intro k i hi' hk
    obtain ⟨k, rfl⟩ := succ_of hk
    have hlt : i < l.length := by omega
    unfold spec_l1All.l0
    rw [if_pos (by omega), if_pos (by omega), if_pos (by omega), rd_at l i hlt, l1In_eq, List.drop_eq_getElem_cons hlt]
    simp only [Option.bind_some, List.all_cons]
    cases hx : inB l[i] lo hi with
    | true =>
      rw [if_pos rfl, wrap_up hlt (by omega), ih k (i + 1) (by omega) (by omega), Bool.true_and]
    | false => rw [if_neg (by decide), Bool.false_and]
theorem l1All_eq (lo hi : Int) (l : List Int) (hn : l.length ≤ 1000000000) (k : Nat) (hk : l.length < k) : spec_l1All.f k l lo hi = some (l.all fun x => inB x lo hi) := by
  have := l1All_loop lo hi l hn l.length k 0 (by omega) hk
  simpa [spec_l1All.f] using this
theorem okRow_eq (n : Int) (row : List Int) : okRow n row = (decide (row.length ≤ 5) && row.all fun x => inB x 0 (n - 1)) := by
  unfold okRow
  congr 1
  rw [List.not_any_eq_all_not]
  simp
theorem grGood_loop (l : List (List Int)) (hn : l.length ≤ 8) (d : Nat) : ∀ (k i : Nat), i + d = l.length → d + 7 < k → spec_grGood.l0 k (l.length : Int) l (l.length : Int) (i : Int) = some ((l.drop i).all (okRow l.length)) := by
  induction d with
  | zero =>
    intro k i hi hk
    obtain ⟨k, rfl⟩ := succ_of hk
    unfold spec_grGood.l0
    rw [if_neg (by omega), List.drop_of_length_le (by omega)]
    rfl
  | succ d ih =>
    intro k i hi hk
    obtain ⟨k, rfl⟩ := succ_of hk
    have hlt : i < l.length := by omega
    unfold spec_grGood.l0
    rw [if_pos (by omega), if_pos (by omega), if_pos (by omega), rdL_at l i hlt, List.drop_eq_getElem_cons hlt, List.all_cons, okRow_eq]
    by_cases h5 : l[i].length ≤ 5
    · rw [if_neg (by omega), wrap_id (by omega) (by omega), l1All_eq _ _ _ (by omega) k (by omega), decide_eq_true h5, Bool.true_and]
      simp only [Option.bind_some]
      cases hx : l[i].all fun x => inB x 0 ((l.length : Int) - 1) with
      | true => rw [if_pos rfl, wrap_up hlt (by omega), ih k (i + 1) (by omega) (by omega), Bool.true_and]
      | false => rw [if_neg (by decide), Bool.false_and]
    · rw [if_pos (by omega), decide_eq_false h5, Bool.false_and, Bool.false_and]
theorem grGood_eq (l : List (List Int)) (k : Nat) (hk : 20 ≤ k) : spec_grGood.f k l = some (isGraphB l) := by
  unfold spec_grGood.f
  rw [l1In_eq]
  simp only [Option.bind_some]
  by_cases hn : 1 ≤ l.length ∧ l.length ≤ 8
  · rw [show inB (l.length : Int) 1 8 = true from by simp [inB]; omega, if_pos rfl]
    have := grGood_loop l hn.2 l.length k 0 (by omega) (by omega)
    rw [List.drop_zero] at this
    rw [show (0 : Int) = ((0 : Nat) : Int) from rfl, this]
    simp [isGraphB, hn.1, hn.2]
  · rw [show inB (l.length : Int) 1 8 = false from by simp [inB]; omega, if_neg (by decide)]
    unfold isGraphB
    rw [decide_eq_false hn, Bool.false_and]
/-- There are a graph and a place of it. -/
def placeB (l : List (List Int)) (p : Int) : Bool := isGraphB l && inB p 0 ((l.length : Int) - 1)
theorem hasB_one (l : List (List Int)) (p : Int) : hasB l [p] = placeB l p := by simp [hasB, placeB]
theorem grPlace_eq (l : List (List Int)) (p : Int) (k : Nat) (hk : 20 ≤ k) : spec_grPlace.f k l p = some (placeB l p) := by
  unfold spec_grPlace.f placeB
  rw [grGood_eq l k hk]
  simp only [Option.bind_some]
  cases hg : isGraphB l with
  | false => rfl
  | true =>
    have := graph_len hg
    rw [if_pos rfl, wrap_id (by omega) (by omega), l1In_eq]
    rfl
theorem place_is {l : List (List Int)} {p : Int} (h : placeB l p = true) : isGraphB l = true ∧ 1 ≤ l.length ∧ l.length ≤ 8 ∧ 0 ≤ p ∧ p < l.length := by
  unfold placeB at h
  simp only [Bool.and_eq_true] at h
  have h1 := graph_len h.1
  have h2 := h.2
  simp only [inB, decide_eq_true_eq] at h2
  exact ⟨h.1, h1.1, h1.2, h2.1, by omega⟩
theorem graph_row {l : List (List Int)} (h : isGraphB l = true) {r : List Int} (hr : r ∈ l) : r.length ≤ 5 ∧ ∀ q ∈ r, 0 ≤ q ∧ q < l.length := by
  unfold isGraphB at h
  simp only [Bool.and_eq_true, List.all_eq_true] at h
  have h2 := h.2 r hr
  rw [okRow_eq] at h2
  simp only [Bool.and_eq_true, decide_eq_true_eq, List.all_eq_true] at h2
  exact ⟨h2.1, fun q hq => by have := h2.2 q hq; simp only [inB, decide_eq_true_eq] at this; omega⟩
end Go.Proofs.Ytnbnalbomflafaa.KA
/-! ## Kt -/
namespace Go.Proofs.Ytnbnalbomflafaa.KA
open Go.RowKit Go.Proofs.YtnbnalbomflafaaW.PrintWords Go.Proofs.YtnbnalbomflafaaW.PrintLast Go.Proofs.YtnbnalbomflafaaW.PrintMore
open Go.Proofs.Ytnbnalbomflafaa.GA
open Go.Shelf Go.Lib
set_option linter.unusedVariables false
set_option linter.unusedSimpArgs false
theorem pred122 (ad : Addr) (n c : Nat) (B B2 i m : Nat) (A1 : Option Addr) (c1 : Nat) (w : World) (hB : B < w.heap.size) (hB2 : B2 < w.heap.size) (hcell : w.cell? ⟨B, 0, none⟩ = some (.slice (some ad) n c)) (hp : w.cell? ⟨B2, 0, none⟩ = some (.int .i64 (i : Int)))
    (hrow : w.cell? (ad.add i) = some (.slice A1 m c1)) (hi : i < n) (h1 : m ≤ 100) :
    PredAt Try.prog 122 #[.pointer (some ⟨B, 0, none⟩), .pointer (some ⟨B2, 0, none⟩)] (Value.int .i64) (fun q => !inB q 0 ((m : Int) - 1)) w := fun W x hb => by
  have hc : W.cell? ⟨B, 0, none⟩ = some (.slice (some ad) n c) := (hb.cell (p := ⟨B, 0, none⟩) hB).trans hcell
  have hc2 : W.cell? ⟨B2, 0, none⟩ = some (.int .i64 (i : Int)) := (hb.cell (p := ⟨B2, 0, none⟩) hB2).trans hp
  have hc3 : W.cell? (ad.add i) = some (.slice A1 m c1) := (hb.cell (World.block_lt_of_cell? w _ hrow)).trans hrow
  have HI := in_eq x 0 ((m : Int) - 1)
  have hi1 : (0 : Int) ≤ (i : Int) := by omega
  have hi2 : (i : Int) < (n : Int) := by omega
  show Calls Try.prog 122 #[.int .i64 x, .pointer (some ⟨B, 0, none⟩), .pointer (some ⟨B2, 0, none⟩)] W _
  obtain ⟨b, hbb⟩ : ∃ b, b = inB x 0 ((m : Int) - 1) := ⟨_, rfl⟩
  rw [← hbb] at HI
  replace HI := Aside0.mk HI
  replace hbb := Aside0.mk hbb
  clear hcell hp hrow
  cases b
  all_goals go_enter Try.func122, Try.ntmps122
  all_goals go_wp2_with (go_at_call 77; (with_reducible refine (impl_in.calls x 0 ((m : Int) - 1) _ _ HI.out).mono ?_); rintro e w' ⟨rfl, ⟨nd, rfl⟩⟩)
  all_goals (go_ret; exact ⟨by rw [← hbb.out]; rfl, nd, rfl⟩)
theorem enters122 : ∀ args w, (callFunc 122 args).run Try.prog w = .ok (.enter 122 args) w := enters_of Try.func122 (by kernel_rfl) rfl
def okStack (n : Nat) (row : List Int) : Bool := decide (row.length ≤ 12) && !(row.any fun q => !inB q 0 ((n : Int) - 1))
/-- Each list is fine for the exits of its place. -/
def okStacks : List (List Int) → List (List Int) → Bool
  | e :: l, r :: s => okStack e.length r && okStacks l s
  | _, _ => true
def stacksB (l : List (List Int)) (a : Int) (s : List (List Int)) : Bool := placeB l a && decide (s.length = l.length) && decide ((s.getD a.toNat []).length = 0) && okStacks l s
def impl_areStacks.f (l0_0 : List (List Int)) (a1 : Int) (l2_0 : List (List Int)) : Option Bool := some (stacksB l0_0 a1 l2_0)
theorem at_row' {w : World} {ad : Addr} {l : List (List Int)} (h : Kd.C (Kd.slice 3 (Kd.int .i64)) w (some ad) l.length l) (i : Nat) (hi : i < l.length) :
    ∃ A1 c1, w.cell? (ad.add i) = some (.slice A1 l[i].length c1) ∧ l[i].length ≤ c1 ∧ Kd.C (Kd.int .i64) w A1 l[i].length l[i] := by
  obtain ⟨ad', A1, c1, e, hx, hl, hc⟩ := at_row h i hi
  injection e with e
  subst e
  exact ⟨A1, c1, hx, hl, hc⟩
theorem box3 (W : World) (v : Value) : (W.alloc (.cells #[v] 3)).cell? ⟨W.heap.size, 0, none⟩ = some v := (blk_cell (blk_new W (.cells #[v] 3)) 0).trans rfl
theorem okStacks_drop (l s : List (List Int)) (i : Nat) (h1 : i < l.length) (h2 : i < s.length) : okStacks (l.drop i) (s.drop i) = (okStack l[i].length s[i] && okStacks (l.drop (i + 1)) (s.drop (i + 1))) := by
  rw [List.drop_eq_getElem_cons h1, List.drop_eq_getElem_cons h2]
  rfl
set_option maxHeartbeats 4000000 in
set_option maxRecDepth 100000 in
theorem impl_areStacks.walk (A0 : Option Addr) (c0 : Nat) (l : List (List Int)) (a1 : Int) (A2 : Option Addr) (c2 : Nat) (s : List (List Int)) (w : World) (hr0 : Kd.C (Kd.slice 3 (Kd.int .i64)) w A0 l.length l) (hc0 : l.length ≤ c0) (hr2 : Kd.C (Kd.slice 3 (Kd.int .i64)) w A2 s.length s) :
    Calls Try.prog 98 #[.agg #[.slice A0 l.length c0], .int .i64 a1, .agg #[.slice A2 s.length c2]] w fun e w' => e = .returned (.bool (stacksB l a1 s)) ∧ Below w.heap.size w w' := by
  have hu30 := Try.underlying30
  have hu59 := Try.underlying59
  have W0 := below_alloc (below_alloc (Below.refl w.heap.size w) (.cells #[.slice A0 l.length c0] 30)) (.cells #[.slice A2 s.length c2] 59)
  have W1 := below_alloc W0 (.cells #[.int .i64 a1] 3)
  have HR0 := Aside0.mk (Kd.C_below hr0 W1)
  have HR1 := Kd.C_of_reads (enc := Value.int .i64) (h1 := fun _ => rfl) (d := (0 : Int)) (w := ((w.alloc (.cells #[.slice A0 l.length c0] 30)).alloc (.cells #[.slice A2 s.length c2] 59)).alloc (.cells #[.int .i64 a1] 3)) (A := some ⟨w.heap.size + 2, 0, none⟩) (n := 1) (xs := [a1]) ⟨rfl, by decide, fun _ => ⟨_, rfl, fun j hj => by
    obtain rfl : j = 0 := by omega
    have h := (blk_cell (blk_new ((w.alloc (.cells #[.slice A0 l.length c0] 30)).alloc (.cells #[.slice A2 s.length c2] 59)) (.cells #[.int .i64 a1] 3)) 0)
    simpa [Addr.add] using h⟩⟩
  replace HR1 := Aside0.mk HR1
  replace W0 := Aside0.mk W0
  replace W1 := Aside0.mk W1
  cases hp : placeB l a1 with
  | false =>
    have h0 : stacksB l a1 s = false := by unfold stacksB; rw [hp]; rfl
    rw [h0]
    have hp2 := hasB_one l a1
    rw [hp] at hp2
    replace hp2 := Aside0.mk hp2
    clear hr0 hr2 h0 hp
    go_enter Try.func98, Try.ntmps98
    go_wp2_with (go_at_call 76; refine (impl_has.walk A0 c0 l _ 1 [a1] _ HR0.out HR1.out).mono ?_; rw [hp2.out]; rintro e w1 ⟨rfl, hB⟩; have HB := Aside0.mk hB; clear hB)
    go_ret
    exact ⟨rfl, below_then W1.out (by simp; omega) HB.out⟩
  | true =>
    obtain ⟨hg, hl1, hl8, ha0, hal⟩ := place_is hp
    obtain ⟨a, rfl⟩ := Int.eq_ofNat_of_zero_le ha0
    obtain ⟨ad0, _, _, rfl, _, _, _⟩ := at_row hr0 a (by omega)
    have hp2 := hasB_one l (a : Int)
    rw [hp] at hp2
    replace hp2 := Aside0.mk hp2
    have b0 : (((w.alloc (.cells #[.slice (some ad0) l.length c0] 30)).alloc (.cells #[.slice A2 s.length c2] 59)).alloc (.cells #[.int .i64 (a : Int)] 3)).cell? ⟨w.heap.size, 0, none⟩ = some (.slice (some ad0) l.length c0) := by
      rw [World.cell?_alloc_lt _ _ _ (by simp; omega), World.cell?_alloc_lt _ _ _ (by simp)]
      exact (blk_cell (blk_new w (.cells #[.slice (some ad0) l.length c0] 30)) 0).trans rfl
    have b1 : (((w.alloc (.cells #[.slice (some ad0) l.length c0] 30)).alloc (.cells #[.slice A2 s.length c2] 59)).alloc (.cells #[.int .i64 (a : Int)] 3)).cell? ⟨w.heap.size + 1, 0, none⟩ = some (.slice A2 s.length c2) := by
      rw [World.cell?_alloc_lt _ _ _ (by simp)]
      have h := (blk_cell (blk_new (w.alloc (.cells #[.slice (some ad0) l.length c0] 30)) (.cells #[.slice A2 s.length c2] 59)) 0)
      rw [show (w.alloc (.cells #[.slice (some ad0) l.length c0] 30)).heap.size = w.heap.size + 1 by simp] at h
      exact h.trans rfl
    replace b0 := Aside0.mk b0
    replace b1 := Aside0.mk b1
    by_cases hsl : s.length = l.length
    · obtain ⟨ad2, A3, c3, rfl, hx3, hl3, hC3⟩ := at_row hr2 a (by omega)
      have hx3 := W1.out.cell (World.block_lt_of_cell? w _ hx3) |>.trans hx3
      have hgd : s.getD ((a : Int)).toNat [] = s[a] := by rw [Int.toNat_natCast, List.getD_eq_getElem?_getD, List.getElem?_eq_getElem (by omega)]; rfl
      have e1 : ((s.length : Int) != (l.length : Int)) = false := by simp; omega
      have e2 : (s.length != l.length) = false := by simpa using hsl
      have i1 : (0 : Int) ≤ (a : Int) := by omega
      have i2 : (a : Int) < (s.length : Int) := by omega
      by_cases hz : s[a].length = 0
      · have hr : stacksB l (a : Int) s = okStacks l s := by unfold stacksB; rw [hp, decide_eq_true hsl, hgd, decide_eq_true hz]; rfl
        rw [hr]
        obtain ⟨r, hr⟩ : ∃ r, r = okStacks l s := ⟨_, rfl⟩
        rw [← hr]
        replace hr := Aside0.mk hr
        have e3 : ((s[a].length : Int) != 0) = false := by rw [bne_eq_false_iff_eq]; omega
        have e4 : (s[a].length != 0) = false := by simpa using hz
        generalize s[a] = row0 at *
        replace hz := Aside0.mk hz
        replace hsl := Aside0.mk hsl
        replace hgd := Aside0.mk hgd
        have HS := Aside0.mk hr2
        have HL := Aside0.mk hr0
        clear hp hr2 hr0
        go_enter Try.func98, Try.ntmps98
        go_wp2_with (go_at_call 76; refine (impl_has.walk (some ad0) c0 l _ 1 [(a : Int)] _ HR0.out HR1.out).mono ?_; rw [hp2.out]; rintro e w1 ⟨rfl, hB⟩; have HB := Aside0.mk hB; have k0 := (hB.cell (p := ⟨w.heap.size, 0, none⟩) (by simp; omega)).trans b0.out; have k1 := (hB.cell (p := ⟨w.heap.size + 1, 0, none⟩) (by simp)).trans b1.out; have k2 := (hB.cell (World.block_lt_of_cell? _ _ hx3)).trans hx3; have KB := Aside0.mk (below_then W1.out (by simp; omega) hB); have kz := hB.size; simp at kz; clear hB)
        clear k2
        go_loopg [35] s.length (fun kq v35 wr => ∃ i : Nat, v35 = .int .i64 (i : Int) ∧ Aside0 (i + kq = s.length ∧ okStacks (l.drop i) (s.drop i) = r) ∧ Aside0 (wr.cell? ⟨w.heap.size, 0, none⟩ = some (.slice (some ad0) l.length c0) ∧ w.heap.size < wr.heap.size) ∧ Aside0 (Below w.heap.size w wr))
        case atStart => exact ⟨0, rfl, ⟨by omega, by rw [List.drop_zero, List.drop_zero]; exact hr.out.symm⟩, ⟨k0, by omega⟩, KB⟩
        case round =>
          clear k0 k1 KB hr
          obtain ⟨i, rfl, HA, HC, HB⟩ := hrel
          by_cases hlt : i < s.length
          · obtain ⟨q1, rfl⟩ : ∃ m, gk = m + 1 := ⟨gk - 1, by have := HA.out.1; omega⟩
            have hil : i < l.length := by have := hsl.out; omega
            have h2 := HA.out.2
            rw [okStacks_drop l s i hil hlt] at h2
            replace h2 := Aside0.mk h2
            obtain ⟨A5, c5, hx5, hl5, hC5⟩ := at_row' HL.out i (by have := hsl.out; omega)
            obtain ⟨A6, c6, hx6, hl6, hC6⟩ := at_row' HS.out i hlt
            replace hx6 := (HB.out.cell (World.block_lt_of_cell? w _ hx6)).trans hx6
            replace hx5 := (HB.out.cell (World.block_lt_of_cell? w _ hx5)).trans hx5
            have hC6r := Kd.C_alloc (Kd.C_below hC6 HB.out) (.cells #[.int .i64 (i : Int)] 3)
            have h100 : l[i].length ≤ 100 := by have := (graph_row hg (List.getElem_mem hil)).1; omega
            generalize l[i] = lrow at *
            generalize s[i] = srow at *
            have hi1 : (0 : Int) ≤ (i : Int) := by omega
            have hi2 : (i : Int) < (s.length : Int) := by omega
            have HP := pred122 ad0 l.length c0 w.heap.size wr.heap.size i lrow.length A5 c5 (wr.alloc (.cells #[.int .i64 (i : Int)] 3)) (by simp; have := HC.out.2; omega) (by simp) ((World.cell?_alloc_lt _ _ _ (by have := HC.out.2; omega)).trans HC.out.1) (box3 _ _)
              ((World.cell?_alloc_lt _ _ _ (World.block_lt_of_cell? wr _ hx5)).trans hx5) (by have := hsl.out; omega) h100
            replace HP := Aside0.mk HP
            replace hx5 := Aside0.mk hx5
            replace hC5 := Aside0.mk hC5
            replace hC6 := Aside0.mk hC6
            replace hC6r := Aside0.mk hC6r
            obtain ⟨b, hb⟩ : ∃ b, b = srow.any (fun q => !inB q 0 ((lrow.length : Int) - 1)) := ⟨_, rfl⟩
            replace hb := Aside0.mk hb
            have HB2 := Aside0.mk (below_alloc HB.out (.cells #[.int .i64 (i : Int)] 3))
            have HC2 := Aside0.mk ((World.cell?_alloc_lt wr (.cells #[.int .i64 (i : Int)] 3) ⟨w.heap.size, 0, none⟩ (by have := HC.out.2; omega)).trans HC.out.1)
            by_cases h12 : srow.length ≤ 12
            · have h5' : decide (12 < (srow.length : Int)) = false := decide_eq_false (by omega)
              have h5'' : decide (12 < srow.length) = false := decide_eq_false (by omega)
              have h6 : okStack lrow.length srow = !b := by unfold okStack; rw [hb.out, decide_eq_true h12, Bool.true_and]
              replace h6 := Aside0.mk h6
              cases b with
              | true =>
                go_wp2_with (go_at_call 108; refine (contains_calls _ 122 _ enters122 A6 c6 srow _ HP.out hC6r.out).mono ?_; rw [← hb.out]; rintro e w' ⟨rfl, ⟨nd2, rfl⟩⟩)
                go_ret
                exact ⟨by have := h2.out; rw [h6.out] at this; simp at this; rw [← this]; rfl, pw_below_drewN HB2.out _⟩
              | false =>
                go_wp2_with (go_at_call 108; refine (contains_calls _ 122 _ enters122 A6 c6 srow _ HP.out hC6r.out).mono ?_; rw [← hb.out]; rintro e w' ⟨rfl, ⟨nd2, rfl⟩⟩)
                go_roundg q1
                case measure => omega
                case rel => exact ⟨i + 1, by go_num, ⟨by have := HA.out.1; omega, by have := h2.out; rw [h6.out] at this; simpa using this⟩, ⟨HC2.out, Nat.lt_of_lt_of_le HC.out.2 (by simp)⟩, ⟨pw_below_drewN HB2.out _⟩⟩
            · have h5' : decide (12 < (srow.length : Int)) = true := decide_eq_true (by omega)
              have h5'' : decide (12 < srow.length) = true := decide_eq_true (by omega)
              have h6 : okStack lrow.length srow = false := by unfold okStack; rw [decide_eq_false h12, Bool.false_and]
              replace h6 := Aside0.mk h6
              go_wp2_with (fail)
              go_ret
              exact ⟨by have := h2.out; rw [h6.out] at this; simp at this; rw [← this]; rfl, HB2.out⟩
          · have h2 := HA.out.2
            rw [List.drop_of_length_le (by have := hsl.out; omega), List.drop_of_length_le (by omega)] at h2
            replace h2 := Aside0.mk h2
            go_wp2_with (fail)
            go_ret
            exact ⟨by rw [← h2.out]; rfl, HB.out⟩
      · have h0 : stacksB l (a : Int) s = false := by unfold stacksB; rw [hgd, decide_eq_false hz]; simp
        rw [h0]
        have e3 : ((s[a].length : Int) != 0) = true := by rw [bne_iff_ne]; omega
        have e4 : (s[a].length != 0) = true := by simpa using hz
        generalize s[a] = row0 at *
        clear hr0 hr2 h0 hp hsl hz hgd
        go_enter Try.func98, Try.ntmps98
        go_wp2_with (go_at_call 76; refine (impl_has.walk (some ad0) c0 l _ 1 [(a : Int)] _ HR0.out HR1.out).mono ?_; rw [hp2.out]; rintro e w1 ⟨rfl, hB⟩; have HB := Aside0.mk hB; have k0 := (hB.cell (p := ⟨w.heap.size, 0, none⟩) (by simp; omega)).trans b0.out; have k1 := (hB.cell (p := ⟨w.heap.size + 1, 0, none⟩) (by simp)).trans b1.out; have k2 := (hB.cell (World.block_lt_of_cell? _ _ hx3)).trans hx3; clear hB)
        go_ret
        exact ⟨rfl, below_then W1.out (by simp; omega) HB.out⟩
    · have h0 : stacksB l (a : Int) s = false := by unfold stacksB; rw [decide_eq_false hsl]; simp
      rw [h0]
      have e1 : ((s.length : Int) != (l.length : Int)) = true := by simp; omega
      have e2 : (s.length != l.length) = true := by simpa using hsl
      clear hr0 hr2 h0 hp hsl
      go_enter Try.func98, Try.ntmps98
      go_wp2_with (go_at_call 76; refine (impl_has.walk (some ad0) c0 l _ 1 [(a : Int)] _ HR0.out HR1.out).mono ?_; rw [hp2.out]; rintro e w1 ⟨rfl, hB⟩; have HB := Aside0.mk hB; have k0 := (hB.cell (p := ⟨w.heap.size, 0, none⟩) (by simp; omega)).trans b0.out; have k1 := (hB.cell (p := ⟨w.heap.size + 1, 0, none⟩) (by simp)).trans b1.out; clear hB)
      go_ret
      exact ⟨rfl, below_then W1.out (by simp; omega) HB.out⟩
theorem impl_areStacks.calls (A0_0 : Option Addr) (c0_0 : Nat) (l0_0 : List (List Int)) (a1 : Int) (A2_0 : Option Addr) (c2_0 : Nat) (l2_0 : List (List Int)) (r : Bool) (w : World) (hr0_0 : Kd.C (Kd.slice 3 (Kd.int .i64)) w A0_0 l0_0.length l0_0) (hc0_0 : l0_0.length ≤ c0_0) (hr2_0 : Kd.C (Kd.slice 3 (Kd.int .i64)) w A2_0 l2_0.length l2_0) (hc2_0 : l2_0.length ≤ c2_0) (h : impl_areStacks.f l0_0 a1 l2_0 = some r) :
    Calls Try.prog 98 #[.agg #[.slice A0_0 l0_0.length c0_0], .int .i64 a1, .agg #[.slice A2_0 l2_0.length c2_0]] w fun e w' => e = .returned (.bool r) ∧ Below w.heap.size w w' := by
  obtain rfl := Option.some.inj h
  exact impl_areStacks.walk A0_0 c0_0 l0_0 a1 A2_0 c2_0 l2_0 w hr0_0 hc0_0 hr2_0
end Go.Proofs.Ytnbnalbomflafaa.KA
/-! ## GR0 -/
namespace Go.Proofs.Ytnbnalbomflafaa.GR
open Go.RowKit Go.Proofs.YtnbnalbomflafaaW.PrintWords Go.Proofs.YtnbnalbomflafaaW.PrintLast Go.Proofs.YtnbnalbomflafaaW.PrintMore
open Go.Proofs.Ytnbnalbomflafaa.GA Go.Proofs.Ytnbnalbomflafaa.GB Go.Proofs.Ytnbnalbomflafaa.GD Go.Proofs.Ytnbnalbomflafaa.KA
attribute [local go_sem] max2_int min2_int max_two min_two max_three min_three max_four min_four   -- for this text's walks alone
set_option linter.unusedVariables false
set_option linter.unusedSimpArgs false
def errW : Option Int → Value
  | none => .nilIface
  | some c => .iface 0 (.int .i64 c)
theorem errW_none : errW none = .nilIface := rfl
theorem errW_some (c : Int) : errW (some c) = .iface 0 (.int .i64 c) := rfl
theorem info3 : (Try.prog.info? 3).map (fun i => (i.zero, i.size, i.bytes)) = some (some (.int .i64 0), 1, 8) := by kernel_rfl
theorem info37 : (Try.prog.info? 37).map (fun i => (i.zero, i.size, i.bytes)) = some (some (.slice none 0 0), 1, 24) := by kernel_rfl
def rd_L1 (xs : List (List Int)) (i : Int) : (List Int) := xs.getD i.toNat ([] : List Int)
theorem at_L1 {w : World} {A : Option Addr} {n : Nat} {xs : List (List Int)} (h : Kd.C (Kd.slice 3 (Kd.int .i64)) w A n xs) (i : Int) (h0 : 0 ≤ i) (h1 : i < n) : ∃ ad A0 c0, A = some ad ∧ w.cell? (ad.add i.toNat) = some (.slice A0 (rd_L1 xs i).length c0) ∧ (rd_L1 xs i).length ≤ c0 ∧ (Kd.int .i64).C w A0 (rd_L1 xs i).length (rd_L1 xs i) := by
  obtain ⟨ad, c, e, _, hK, hc0⟩ := Kd.C_get h ([] : List Int) i h0 h1
  have hc : ∀ j u, c[j]? = some u → w.cell? (ad.add (i.toNat * 1 + j)) = some u := hc0
  obtain ⟨A0, c0, rfl, l0, g0⟩ := hK
  exact ⟨ad, A0, c0, e, by have hq := hc 0 _ rfl; rwa [Nat.mul_one, Nat.add_zero] at hq, l0, g0⟩
end Go.Proofs.Ytnbnalbomflafaa.GR
/-! ## GR1 -/
namespace Go.Proofs.Ytnbnalbomflafaa.GR
open Go.RowKit Go.Proofs.YtnbnalbomflafaaW.PrintWords Go.Proofs.YtnbnalbomflafaaW.PrintLast Go.Proofs.YtnbnalbomflafaaW.PrintMore
open Go.Proofs.Ytnbnalbomflafaa.GA Go.Proofs.Ytnbnalbomflafaa.GB Go.Proofs.Ytnbnalbomflafaa.GD Go.Proofs.Ytnbnalbomflafaa.KA
attribute [local go_sem] max2_int min2_int max_two min_two max_three min_three max_four min_four   -- for this text's walks alone
set_option linter.unusedVariables false
set_option linter.unusedSimpArgs false
mutual
def impl_isWalk.j0 : Nat → Bool → List (List Int) → List Int → Int → Option (Bool)
  | 0, _, _, _, _ => none
  | k + 1, x21, x261000, x262000, x262001 => if x21 = true then (some false) else (impl_isWalk.l0 k x262000 (x262000.length : Int) 0 x261000)
def impl_isWalk.l0 : Nat → List Int → Int → Int → List (List Int) → Option (Bool)
  | 0, _, _, _, _ => none
  | k + 1, x23, x24, x25, x261000 => if x25 < x24 then (if 0 ≤ x25 then (if x25 < (x23.length : Int) then (if x25 < (x261000.length : Int) then ((impl_in.f (rd x23 x25) 0 (mx (wrap64 (((rd_L1 x261000 x25).length : Int) - 1)) 0)).bind fun t268 => (if t268 = true then (impl_isWalk.l0 k x23 x24 (wrap64 (x25 + 1)) x261000) else (some false))) else (none)) else (none)) else (none)) else (some true)
end
end Go.Proofs.Ytnbnalbomflafaa.GR
/-! ## GR2 -/
namespace Go.Proofs.Ytnbnalbomflafaa.GR
open Go.RowKit Go.Proofs.YtnbnalbomflafaaW.PrintWords Go.Proofs.YtnbnalbomflafaaW.PrintLast Go.Proofs.YtnbnalbomflafaaW.PrintMore
open Go.Proofs.Ytnbnalbomflafaa.GA Go.Proofs.Ytnbnalbomflafaa.GB Go.Proofs.Ytnbnalbomflafaa.GD Go.Proofs.Ytnbnalbomflafaa.KA
attribute [local go_sem] max2_int min2_int max_two min_two max_three min_three max_four min_four   -- for this text's walks alone
set_option linter.unusedVariables false
set_option linter.unusedSimpArgs false
mutual
def impl_RotorStacks.j0 : Nat → Int → List Int → Int → Bool → List (List Int) → Option ((List (List Int)) × Bool)
  | 0, _, _, _, _, _ => none
  | k + 1, x1, x2, x3, x30, x272000 => if x30 = true then (some (([] : List (List Int)), false)) else (impl_RotorStacks.l0 k x1 x2 x3 x272000 (x272000.length : Int) 0 ([] : List (List Int)))
def impl_RotorStacks.l0 : Nat → Int → List Int → Int → List (List Int) → Int → Int → List (List Int) → Option ((List (List Int)) × Bool)
  | 0, _, _, _, _, _, _, _ => none
  | k + 1, x1, x2, x3, x34, x35, x36, x280000 => if x36 < x35 then (if 0 ≤ x36 then (if x36 < (x34.length : Int) then (impl_RotorStacks.l1 k x1 x2 x3 x36 (rd_L1 x34 x36) (([] : List Int)) 1 x34 x35 x36 x280000) else (none)) else (none)) else (some (x280000, true))
def impl_RotorStacks.l1 : Nat → Int → List Int → Int → Int → List Int → List Int → Int → List (List Int) → Int → Int → List (List Int) → Option ((List (List Int)) × Bool)
  | 0, _, _, _, _, _, _, _, _, _, _, _ => none
  | k + 1, x1, x2, x3, x11, x12, x13, x14, x34, x35, x36, x280000 => if x14 ≤ x3 then (if x11 = x1 then (if x280000.length < 5864062014805 then (impl_RotorStacks.l0 k x1 x2 x3 x34 x35 (wrap64 (x36 + 1)) (x280000 ++ [x13])) else (none)) else (if (x12.length : Int) > 0 then (if 0 ≤ x11 then (if x11 < (x2.length : Int) then (if (x12.length : Int) = 0 then (none) else (if x13.length < 17592186044416 then (impl_RotorStacks.l1 k x1 x2 x3 x11 x12 (x13 ++ [Int.tmod (wrap64 ((rd x2 x11) + x14)) (x12.length : Int)]) (wrap64 (x14 + 1)) x34 x35 x36 x280000) else (none))) else (none)) else (none)) else (if x280000.length < 5864062014805 then (impl_RotorStacks.l0 k x1 x2 x3 x34 x35 (wrap64 (x36 + 1)) (x280000 ++ [x13])) else (none)))) else (if x280000.length < 5864062014805 then (impl_RotorStacks.l0 k x1 x2 x3 x34 x35 (wrap64 (x36 + 1)) (x280000 ++ [x13])) else (none))
end
def spec_l1Own.f (l0 : List Int) : Option (List Int) := (some (([] : List Int) : List Int)).bind fun y335 => (if y335.length + l0.length < 17592186044416 then (some (y335 ++ l0)) else (none))
set_option maxHeartbeats 8000000 in
set_option maxRecDepth 100000 in
theorem spec_l1Own.calls (A0 : Option Addr) (c0 : Nat) (l0 : List Int) (r : List Int) (w : World) (hr0 : Kd.C (Kd.int .i64) w A0 l0.length l0) (hc0 : l0.length ≤ c0) (h : spec_l1Own.f l0 = some r) :
    Calls Try.prog 113 #[.slice A0 l0.length c0] w fun e w' => ∃ v0_ : Value, e = .returned (v0_) ∧ Kd.R (Kd.int .i64) 3 w' w.heap.size (fun _ => True) v0_ r ∧ Below w.heap.size w w' := by
  have HR0 := Aside0.mk hr0
  have HC0 := Aside0.mk hc0
  clear hr0 hc0
  have HB := Aside0.mk (Below.refl w.heap.size w)
  have H : ((some (([] : List Int) : List Int)).bind fun y335 => (if y335.length + l0.length < 17592186044416 then (some (y335 ++ l0)) else (none))) = some r := h
  clear h
  obtain ⟨y335, hy335⟩ : ∃ y_ : List Int, y_ = (([] : List Int)) := ⟨_, rfl⟩
  replace H : (if y335.length + l0.length < 17592186044416 then (some (y335 ++ l0)) else (none)) = some r := by first | (rw [hy335]; with_reducible exact H) | (have H2_ := (Option.bind_some _ _).symm.trans H; rw [hy335]; with_reducible exact H2_) | (have H2_ := (Option.bind_some _ _).symm.trans H; with_reducible exact H2_) | with_reducible exact H | (rw [hy335]; exact H) | exact H
  have Ny335 := Aside0.mk hy335
  clear hy335
  by_cases c2 : y335.length + l0.length < 17592186044416
  · rw [if_pos c2] at H
    have LMc2 := Aside0.mk c2
    clear c2
    obtain ⟨y338, hy338⟩ : ∃ y_ : List Int, y_ = (y335 ++ l0) := ⟨_, rfl⟩
    replace H : (some y338) = some r := by first | (rw [hy338]; with_reducible exact H) | (have H2_ := (Option.bind_some _ _).symm.trans H; rw [hy338]; with_reducible exact H2_) | (have H2_ := (Option.bind_some _ _).symm.trans H; with_reducible exact H2_) | with_reducible exact H | (rw [hy338]; exact H) | exact H
    have Ny338 := Aside0.mk hy338
    clear hy338
    obtain rfl := Option.some.inj H
    go_enter Try.func113, Try.ntmps113
    go_wp2_with (first | ((with_reducible refine gate_dst (N := 3) rfl ?_); refine Kd.R_lit (Kd.int .i64) _ 3 ?hg (N := 3) ?hd (xs := ([] : List Int)) (inner := []) (ok := fun _ => True) (okp := fun _ => True) ?hr ?hp (fun _ hk => hk) trivial (Below.refl _ _) (Nat.le_refl _) (by simp) ?_; (case hd => rfl); (case hg => rfl); (case hr => first | (go_simp; done) | (go_simp; rfl)); (case hp => exact (Reps.none _ _)); intro v336 w3 ho4 hb hg_ hnew_; clear hg_ hnew_; (first | rw [← Ny335.out] at ho4 | (simp only [Int.reduceToNat] at ho4; rw [← Ny335.out] at ho4)); have n0_ := Aside0.mk (Kd.R_lower ho4 (below_size (by repeat (first | (with_reducible first | exact HB.out | apply below_alloc | apply pw_below_drewN | apply below_drew1) | exact HB.out)))); have n1_ := Aside0.mk (below_step (by repeat (first | (with_reducible first | exact HB.out | apply below_alloc | apply pw_below_drewN | apply below_drew1) | exact HB.out)) hb); clear HB; have HO337 := n0_; have HB := n1_; clear n0_ n1_; clear hb ho4) | ((with_reducible refine gate_builtin (b := .append) (xs := #[.tmp 3, .tmp 4]) rfl ?_); at_builtin; refine Kd.R_append_rows (Kd.int .i64) (w0 := w) w.heap.size rfl (.tmp 3) (.tmp 4) 37 3 (.int .i64 0) 8 rfl Try.underlying37 info3 rfl (by decide) (by omega) v336 y335 l0 _ _ _ (fun _ => True) (fun _ => False) rfl rfl ?aO ?aR (fun _ _ h => h) (fun _ h => h.elim) ?aF ?aB ?aS ?aL ?_; (case aR => repeat (first | exact (Kd.C_below HR0.out HB.out) | (with_reducible refine Kd.C_alloc ?_ _) | (with_reducible refine Kd.C_drewN ?_ _) | (with_reducible refine Kd.C_drew ?_))); (case aB => exact (by repeat (first | (with_reducible first | exact HB.out | apply below_alloc | apply pw_below_drewN | apply below_drew1) | exact HB.out))); (case aF => exact (fun _ _ => trivial)); (case aO => exact (by (with_reducible repeat (first | apply Kd.R_alloc | apply Kd.R_drewN | apply Kd.R_drew)); exact HO337.out)); (case aS => exact (below_size (by repeat (first | (with_reducible first | exact HB.out | apply below_alloc | apply pw_below_drewN | apply below_drew1) | exact HB.out)))); (case aL => have := LMc2.out; omega); intro v339 w5 ho hb hg hat; rw [← Ny338.out] at ho; have n0_ := Aside0.mk (hb); have n1_ := Aside0.mk (ho); clear HB; clear HO337; have HB := n0_; have HO340 := n1_; clear n0_ n1_; clear ho hb hg hat))
    go_ret
    exact ⟨_, by first | rfl | (simp [errW_none, errW_some] <;> rfl) | (simp [*, errW_none, errW_some] <;> rfl), by (with_reducible repeat (first | apply Kd.R_alloc | apply Kd.R_drewN | apply Kd.R_drew)); exact HO340.out, by repeat (first | (with_reducible first | exact HB.out | apply below_alloc | apply pw_below_drewN | apply below_drew1) | exact HB.out)⟩
  · rw [if_neg c2] at H
    exact absurd H (by simp)
def spec_skNext.f (l0_0 : List (List Int)) (l1_0 : List (List Int)) (a2 : Int) : Option (Int) := if 0 ≤ a2 then (if a2 < (l1_0.length : Int) then (if ((rd_L1 l1_0 a2).length : Int) = 0 then (some (-1)) else (if a2 < (l0_0.length : Int) then (if 0 < ((rd_L1 l1_0 a2).length : Int) then (if 0 ≤ (rd (rd_L1 l1_0 a2) 0) then (if (rd (rd_L1 l1_0 a2) 0) < ((rd_L1 l0_0 a2).length : Int) then (some (rd (rd_L1 l0_0 a2) (rd (rd_L1 l1_0 a2) 0))) else (none)) else (none)) else (none)) else (none))) else (none)) else (none)
set_option maxHeartbeats 8000000 in
set_option maxRecDepth 100000 in
theorem spec_skNext.calls (A0_0 : Option Addr) (c0_0 : Nat) (l0_0 : List (List Int)) (A1_0 : Option Addr) (c1_0 : Nat) (l1_0 : List (List Int)) (a2 : Int) (r : Int) (w : World) (hr0_0 : Kd.C (Kd.slice 3 (Kd.int .i64)) w A0_0 l0_0.length l0_0) (hc0_0 : l0_0.length ≤ c0_0) (hr1_0 : Kd.C (Kd.slice 3 (Kd.int .i64)) w A1_0 l1_0.length l1_0) (hc1_0 : l1_0.length ≤ c1_0) (h : spec_skNext.f l0_0 l1_0 a2 = some r) :
    Calls Try.prog 129 #[.agg #[.slice A0_0 l0_0.length c0_0], .agg #[.slice A1_0 l1_0.length c1_0], .int .i64 a2] w fun e w' => e = .returned (.int .i64 r) ∧ Below w.heap.size w w' := by
  have hu30 := Try.underlying30
  have hu59 := Try.underlying59
  have HR0_0 := Aside0.mk hr0_0
  have HC0_0 := Aside0.mk hc0_0
  clear hr0_0 hc0_0
  have HR1_0 := Aside0.mk hr1_0
  have HC1_0 := Aside0.mk hc1_0
  clear hr1_0 hc1_0
  have HB := Aside0.mk (Below.refl w.heap.size w)
  have H : (if 0 ≤ a2 then (if a2 < (l1_0.length : Int) then (if ((rd_L1 l1_0 a2).length : Int) = 0 then (some (-1)) else (if a2 < (l0_0.length : Int) then (if 0 < ((rd_L1 l1_0 a2).length : Int) then (if 0 ≤ (rd (rd_L1 l1_0 a2) 0) then (if (rd (rd_L1 l1_0 a2) 0) < ((rd_L1 l0_0 a2).length : Int) then (some (rd (rd_L1 l0_0 a2) (rd (rd_L1 l1_0 a2) 0))) else (none)) else (none)) else (none)) else (none))) else (none)) else (none)) = some r := h
  clear h
  by_cases c4 : 0 ≤ a2
  · rw [if_pos c4] at H
    have c4b0 : decide (0 ≤ a2) = true := decide_eq_true c4
    clear c4
    by_cases c5 : a2 < (l1_0.length : Int)
    · rw [if_pos c5] at H
      have c5b0 : decide (a2 < (l1_0.length : Int)) = true := decide_eq_true c5
      clear c5
      by_cases c6 : ((rd_L1 l1_0 a2).length : Int) = 0
      · rw [if_pos c6] at H
        have c6b0 : (((rd_L1 l1_0 a2).length : Int) == 0) = true := beq_iff_eq.mpr c6
        have c6b1 : (((rd_L1 l1_0 a2).length : Int) != 0) = false := bne_eq_false_iff_eq.mpr c6
        clear c6
        obtain rfl := Option.some.inj H
        go_enter Try.func129, Try.ntmps129
        go_wp2_with (first | ((with_reducible refine gate_dst (N := 3) rfl ?_); refine box_event ?hg (N := 3) ?hd (cs := #[.slice A0_0 l0_0.length c0_0]) (t := 30) ?hr ?_; (case hd => rfl); (case hg => rfl); (case hr => first | (go_simp; done) | (go_simp; rfl)); intro gb341 hg w7 hbox hb; have n0_ := Aside0.mk (below_step (by repeat (first | (with_reducible first | exact HB.out | apply below_alloc | apply pw_below_drewN | apply below_drew1) | exact HB.out)) hb); have n1_ := Aside0.mk (hbox); have n2_ := Aside0.mk ((by rw [hg]; exact (below_size (by repeat (first | (with_reducible first | exact HB.out | apply below_alloc | apply pw_below_drewN | apply below_drew1) | exact HB.out))) : w.heap.size ≤ gb341)); have n3_ := Aside0.mk ((by rw [hg]; exact (below_size (by repeat (first | (with_reducible first | exact HB.out | apply below_alloc | apply pw_below_drewN | apply below_drew1) | exact HB.out))) : w.heap.size ≤ gb341)); clear HB; have HB := n0_; have BK341 := n1_; have GW341 := n2_; have GE341 := n3_; clear n0_ n1_ n2_ n3_; clear hb hbox hg) | ((with_reducible refine gate_dst (N := 4) rfl ?_); refine box_event ?hg (N := 4) ?hd (cs := #[.slice A1_0 l1_0.length c1_0]) (t := 59) ?hr ?_; (case hd => rfl); (case hg => rfl); (case hr => first | (go_simp; done) | (go_simp; rfl)); intro gb342 hg w8 hbox hb; have n0_ := Aside0.mk (blk_below (g := gb341) (o := .cells #[.slice A0_0 l0_0.length c0_0] 30 (0, 0)) (by (with_reducible repeat (first | refine blk_drewN ?_ _ | refine blk_drew ?_ | refine blk_alloc ?_ _)); exact BK341.out) hb); have n1_ := Aside0.mk (below_step (by repeat (first | (with_reducible first | exact HB.out | apply below_alloc | apply pw_below_drewN | apply below_drew1 | refine below_set ?_ GE341.out) | exact HB.out)) hb); have n2_ := Aside0.mk (hbox); have n3_ := Aside0.mk ((by rw [hg]; exact (below_size (by repeat (first | (with_reducible first | exact HB.out | apply below_alloc | apply pw_below_drewN | apply below_drew1 | refine below_set ?_ GE341.out) | exact HB.out))) : w.heap.size ≤ gb342)); have n4_ := Aside0.mk ((by rw [hg]; exact (below_size (by repeat (first | (with_reducible first | exact HB.out | apply below_alloc | apply pw_below_drewN | apply below_drew1 | refine below_set ?_ GE341.out) | exact HB.out))) : w.heap.size ≤ gb342)); have n5_ := Aside0.mk ((by rw [hg]; exact Nat.ne_of_lt (blk_lt (g := gb341) (o := .cells #[.slice A0_0 l0_0.length c0_0] 30 (0, 0)) (by (with_reducible repeat (first | refine blk_drewN ?_ _ | refine blk_drew ?_ | refine blk_alloc ?_ _)); exact BK341.out)) : gb341 ≠ gb342)); have n6_ := Aside0.mk ((by rw [hg]; exact Nat.ne_of_gt (blk_lt (g := gb341) (o := .cells #[.slice A0_0 l0_0.length c0_0] 30 (0, 0)) (by (with_reducible repeat (first | refine blk_drewN ?_ _ | refine blk_drew ?_ | refine blk_alloc ?_ _)); exact BK341.out)) : gb342 ≠ gb341)); clear BK341; clear HB; have BK341 := n0_; have HB := n1_; have BK342 := n2_; have GW342 := n3_; have GE342 := n4_; have NB341_342 := n5_; have NB342_341 := n6_; clear n0_ n1_ n2_ n3_ n4_ n5_ n6_; clear hb hbox hg; have hnb9 := NB342_341.out; have hnc9 := NB341_342.out; have hcz10_0 : w8.cell? ⟨gb342, 0, none⟩ = some (.slice A1_0 l1_0.length c1_0) := (blk_cell BK342.out 0).trans rfl; have hfz10_0 := blk_frozen BK342.out 0; have p343 : 0 ≤ (a2 : Int) := of_decide_eq_true (by first | (with_reducible assumption) | assumption); have q343 : a2 < (l1_0.length : Int) := of_decide_eq_true (by first | (with_reducible assumption) | assumption); obtain ⟨ad343, A343_0, c343_0, e343, hx343_0, hl343_0, hi343_0⟩ := at_L1 HR1_0.out a2 p343 q343; cases e343; replace hx343_0 := (HB.out.cell (World.block_lt_of_cell? w _ hx343_0)).trans hx343_0; have HR343_0 := Aside0.mk hi343_0; have HC343_0 := Aside0.mk hl343_0; clear hi343_0 hl343_0; replace p343 := eq_true p343; replace q343 := eq_true q343))
        repeat (go_quiet (first | ((with_reducible refine gate_dst (N := 3) rfl ?_); refine box_event ?hg (N := 3) ?hd (cs := #[.slice A0_0 l0_0.length c0_0]) (t := 30) ?hr ?_; (case hd => rfl); (case hg => rfl); (case hr => first | (go_simp; done) | (go_simp; rfl)); intro gb341 hg w7 hbox hb; have n0_ := Aside0.mk (below_step (by repeat (first | (with_reducible first | exact HB.out | apply below_alloc | apply pw_below_drewN | apply below_drew1) | exact HB.out)) hb); have n1_ := Aside0.mk (hbox); have n2_ := Aside0.mk ((by rw [hg]; exact (below_size (by repeat (first | (with_reducible first | exact HB.out | apply below_alloc | apply pw_below_drewN | apply below_drew1) | exact HB.out))) : w.heap.size ≤ gb341)); have n3_ := Aside0.mk ((by rw [hg]; exact (below_size (by repeat (first | (with_reducible first | exact HB.out | apply below_alloc | apply pw_below_drewN | apply below_drew1) | exact HB.out))) : w.heap.size ≤ gb341)); clear HB; have HB := n0_; have BK341 := n1_; have GW341 := n2_; have GE341 := n3_; clear n0_ n1_ n2_ n3_; clear hb hbox hg) | ((with_reducible refine gate_dst (N := 4) rfl ?_); refine box_event ?hg (N := 4) ?hd (cs := #[.slice A1_0 l1_0.length c1_0]) (t := 59) ?hr ?_; (case hd => rfl); (case hg => rfl); (case hr => first | (go_simp; done) | (go_simp; rfl)); intro gb342 hg w8 hbox hb; have n0_ := Aside0.mk (blk_below (g := gb341) (o := .cells #[.slice A0_0 l0_0.length c0_0] 30 (0, 0)) (by (with_reducible repeat (first | refine blk_drewN ?_ _ | refine blk_drew ?_ | refine blk_alloc ?_ _)); exact BK341.out) hb); have n1_ := Aside0.mk (below_step (by repeat (first | (with_reducible first | exact HB.out | apply below_alloc | apply pw_below_drewN | apply below_drew1 | refine below_set ?_ GE341.out) | exact HB.out)) hb); have n2_ := Aside0.mk (hbox); have n3_ := Aside0.mk ((by rw [hg]; exact (below_size (by repeat (first | (with_reducible first | exact HB.out | apply below_alloc | apply pw_below_drewN | apply below_drew1 | refine below_set ?_ GE341.out) | exact HB.out))) : w.heap.size ≤ gb342)); have n4_ := Aside0.mk ((by rw [hg]; exact (below_size (by repeat (first | (with_reducible first | exact HB.out | apply below_alloc | apply pw_below_drewN | apply below_drew1 | refine below_set ?_ GE341.out) | exact HB.out))) : w.heap.size ≤ gb342)); have n5_ := Aside0.mk ((by rw [hg]; exact Nat.ne_of_lt (blk_lt (g := gb341) (o := .cells #[.slice A0_0 l0_0.length c0_0] 30 (0, 0)) (by (with_reducible repeat (first | refine blk_drewN ?_ _ | refine blk_drew ?_ | refine blk_alloc ?_ _)); exact BK341.out)) : gb341 ≠ gb342)); have n6_ := Aside0.mk ((by rw [hg]; exact Nat.ne_of_gt (blk_lt (g := gb341) (o := .cells #[.slice A0_0 l0_0.length c0_0] 30 (0, 0)) (by (with_reducible repeat (first | refine blk_drewN ?_ _ | refine blk_drew ?_ | refine blk_alloc ?_ _)); exact BK341.out)) : gb342 ≠ gb341)); clear BK341; clear HB; have BK341 := n0_; have HB := n1_; have BK342 := n2_; have GW342 := n3_; have GE342 := n4_; have NB341_342 := n5_; have NB342_341 := n6_; clear n0_ n1_ n2_ n3_ n4_ n5_ n6_; clear hb hbox hg; have hnb9 := NB342_341.out; have hnc9 := NB341_342.out; have hcz10_0 : w8.cell? ⟨gb342, 0, none⟩ = some (.slice A1_0 l1_0.length c1_0) := (blk_cell BK342.out 0).trans rfl; have hfz10_0 := blk_frozen BK342.out 0; have p343 : 0 ≤ (a2 : Int) := of_decide_eq_true (by first | (with_reducible assumption) | assumption); have q343 : a2 < (l1_0.length : Int) := of_decide_eq_true (by first | (with_reducible assumption) | assumption); obtain ⟨ad343, A343_0, c343_0, e343, hx343_0, hl343_0, hi343_0⟩ := at_L1 HR1_0.out a2 p343 q343; cases e343; replace hx343_0 := (HB.out.cell (World.block_lt_of_cell? w _ hx343_0)).trans hx343_0; have HR343_0 := Aside0.mk hi343_0; have HC343_0 := Aside0.mk hl343_0; clear hi343_0 hl343_0; replace p343 := eq_true p343; replace q343 := eq_true q343)); try go_wp2_with (first | ((with_reducible refine gate_dst (N := 3) rfl ?_); refine box_event ?hg (N := 3) ?hd (cs := #[.slice A0_0 l0_0.length c0_0]) (t := 30) ?hr ?_; (case hd => rfl); (case hg => rfl); (case hr => first | (go_simp; done) | (go_simp; rfl)); intro gb341 hg w7 hbox hb; have n0_ := Aside0.mk (below_step (by repeat (first | (with_reducible first | exact HB.out | apply below_alloc | apply pw_below_drewN | apply below_drew1) | exact HB.out)) hb); have n1_ := Aside0.mk (hbox); have n2_ := Aside0.mk ((by rw [hg]; exact (below_size (by repeat (first | (with_reducible first | exact HB.out | apply below_alloc | apply pw_below_drewN | apply below_drew1) | exact HB.out))) : w.heap.size ≤ gb341)); have n3_ := Aside0.mk ((by rw [hg]; exact (below_size (by repeat (first | (with_reducible first | exact HB.out | apply below_alloc | apply pw_below_drewN | apply below_drew1) | exact HB.out))) : w.heap.size ≤ gb341)); clear HB; have HB := n0_; have BK341 := n1_; have GW341 := n2_; have GE341 := n3_; clear n0_ n1_ n2_ n3_; clear hb hbox hg) | ((with_reducible refine gate_dst (N := 4) rfl ?_); refine box_event ?hg (N := 4) ?hd (cs := #[.slice A1_0 l1_0.length c1_0]) (t := 59) ?hr ?_; (case hd => rfl); (case hg => rfl); (case hr => first | (go_simp; done) | (go_simp; rfl)); intro gb342 hg w8 hbox hb; have n0_ := Aside0.mk (blk_below (g := gb341) (o := .cells #[.slice A0_0 l0_0.length c0_0] 30 (0, 0)) (by (with_reducible repeat (first | refine blk_drewN ?_ _ | refine blk_drew ?_ | refine blk_alloc ?_ _)); exact BK341.out) hb); have n1_ := Aside0.mk (below_step (by repeat (first | (with_reducible first | exact HB.out | apply below_alloc | apply pw_below_drewN | apply below_drew1 | refine below_set ?_ GE341.out) | exact HB.out)) hb); have n2_ := Aside0.mk (hbox); have n3_ := Aside0.mk ((by rw [hg]; exact (below_size (by repeat (first | (with_reducible first | exact HB.out | apply below_alloc | apply pw_below_drewN | apply below_drew1 | refine below_set ?_ GE341.out) | exact HB.out))) : w.heap.size ≤ gb342)); have n4_ := Aside0.mk ((by rw [hg]; exact (below_size (by repeat (first | (with_reducible first | exact HB.out | apply below_alloc | apply pw_below_drewN | apply below_drew1 | refine below_set ?_ GE341.out) | exact HB.out))) : w.heap.size ≤ gb342)); have n5_ := Aside0.mk ((by rw [hg]; exact Nat.ne_of_lt (blk_lt (g := gb341) (o := .cells #[.slice A0_0 l0_0.length c0_0] 30 (0, 0)) (by (with_reducible repeat (first | refine blk_drewN ?_ _ | refine blk_drew ?_ | refine blk_alloc ?_ _)); exact BK341.out)) : gb341 ≠ gb342)); have n6_ := Aside0.mk ((by rw [hg]; exact Nat.ne_of_gt (blk_lt (g := gb341) (o := .cells #[.slice A0_0 l0_0.length c0_0] 30 (0, 0)) (by (with_reducible repeat (first | refine blk_drewN ?_ _ | refine blk_drew ?_ | refine blk_alloc ?_ _)); exact BK341.out)) : gb342 ≠ gb341)); clear BK341; clear HB; have BK341 := n0_; have HB := n1_; have BK342 := n2_; have GW342 := n3_; have GE342 := n4_; have NB341_342 := n5_; have NB342_341 := n6_; clear n0_ n1_ n2_ n3_ n4_ n5_ n6_; clear hb hbox hg; have hnb9 := NB342_341.out; have hnc9 := NB341_342.out; have hcz10_0 : w8.cell? ⟨gb342, 0, none⟩ = some (.slice A1_0 l1_0.length c1_0) := (blk_cell BK342.out 0).trans rfl; have hfz10_0 := blk_frozen BK342.out 0; have p343 : 0 ≤ (a2 : Int) := of_decide_eq_true (by first | (with_reducible assumption) | assumption); have q343 : a2 < (l1_0.length : Int) := of_decide_eq_true (by first | (with_reducible assumption) | assumption); obtain ⟨ad343, A343_0, c343_0, e343, hx343_0, hl343_0, hi343_0⟩ := at_L1 HR1_0.out a2 p343 q343; cases e343; replace hx343_0 := (HB.out.cell (World.block_lt_of_cell? w _ hx343_0)).trans hx343_0; have HR343_0 := Aside0.mk hi343_0; have HC343_0 := Aside0.mk hl343_0; clear hi343_0 hl343_0; replace p343 := eq_true p343; replace q343 := eq_true q343)))
        go_ret
        exact ⟨by first | rfl | (simp [errW_none, errW_some] <;> rfl) | (simp [*, errW_none, errW_some] <;> rfl), by repeat (first | (with_reducible first | exact HB.out | apply below_alloc | apply pw_below_drewN | apply below_drew1 | refine below_set ?_ GE341.out | refine below_set ?_ GE342.out) | exact HB.out)⟩
      · rw [if_neg c6] at H
        have c6b0 : (((rd_L1 l1_0 a2).length : Int) == 0) = false := beq_eq_false_iff_ne.mpr c6
        have c6b1 : (((rd_L1 l1_0 a2).length : Int) != 0) = true := bne_iff_ne.mpr c6
        have c6b2 : ¬ ((rd_L1 l1_0 a2) = []) := fun h_ => c6 (by rw [h_]; rfl)
        by_cases c11 : a2 < (l0_0.length : Int)
        · rw [if_pos c11] at H
          have c11b0 : decide (a2 < (l0_0.length : Int)) = true := decide_eq_true c11
          clear c11
          by_cases c12 : 0 < ((rd_L1 l1_0 a2).length : Int)
          · rw [if_pos c12] at H
            have c12b0 : decide (0 < ((rd_L1 l1_0 a2).length : Int)) = true := decide_eq_true c12
            have c12b1 : decide (0 < (rd_L1 l1_0 a2).length) = true := decide_eq_true (by omega)
            clear c12
            by_cases c13 : 0 ≤ (rd (rd_L1 l1_0 a2) 0)
            · rw [if_pos c13] at H
              have c13b0 : decide (0 ≤ (rd (rd_L1 l1_0 a2) 0)) = true := decide_eq_true c13
              clear c13
              by_cases c14 : (rd (rd_L1 l1_0 a2) 0) < ((rd_L1 l0_0 a2).length : Int)
              · rw [if_pos c14] at H
                have c14b0 : decide ((rd (rd_L1 l1_0 a2) 0) < ((rd_L1 l0_0 a2).length : Int)) = true := decide_eq_true c14
                clear c14
                obtain rfl := Option.some.inj H
                go_enter Try.func129, Try.ntmps129
                go_wp2_with (first | ((with_reducible refine gate_dst (N := 3) rfl ?_); refine box_event ?hg (N := 3) ?hd (cs := #[.slice A0_0 l0_0.length c0_0]) (t := 30) ?hr ?_; (case hd => rfl); (case hg => rfl); (case hr => first | (go_simp; done) | (go_simp; rfl)); intro gb341 hg w15 hbox hb; have n0_ := Aside0.mk (below_step (by repeat (first | (with_reducible first | exact HB.out | apply below_alloc | apply pw_below_drewN | apply below_drew1) | exact HB.out)) hb); have n1_ := Aside0.mk (hbox); have n2_ := Aside0.mk ((by rw [hg]; exact (below_size (by repeat (first | (with_reducible first | exact HB.out | apply below_alloc | apply pw_below_drewN | apply below_drew1) | exact HB.out))) : w.heap.size ≤ gb341)); have n3_ := Aside0.mk ((by rw [hg]; exact (below_size (by repeat (first | (with_reducible first | exact HB.out | apply below_alloc | apply pw_below_drewN | apply below_drew1) | exact HB.out))) : w.heap.size ≤ gb341)); clear HB; have HB := n0_; have BK341 := n1_; have GW341 := n2_; have GE341 := n3_; clear n0_ n1_ n2_ n3_; clear hb hbox hg) | ((with_reducible refine gate_dst (N := 4) rfl ?_); refine box_event ?hg (N := 4) ?hd (cs := #[.slice A1_0 l1_0.length c1_0]) (t := 59) ?hr ?_; (case hd => rfl); (case hg => rfl); (case hr => first | (go_simp; done) | (go_simp; rfl)); intro gb342 hg w16 hbox hb; have n0_ := Aside0.mk (blk_below (g := gb341) (o := .cells #[.slice A0_0 l0_0.length c0_0] 30 (0, 0)) (by (with_reducible repeat (first | refine blk_drewN ?_ _ | refine blk_drew ?_ | refine blk_alloc ?_ _)); exact BK341.out) hb); have n1_ := Aside0.mk (below_step (by repeat (first | (with_reducible first | exact HB.out | apply below_alloc | apply pw_below_drewN | apply below_drew1 | refine below_set ?_ GE341.out) | exact HB.out)) hb); have n2_ := Aside0.mk (hbox); have n3_ := Aside0.mk ((by rw [hg]; exact (below_size (by repeat (first | (with_reducible first | exact HB.out | apply below_alloc | apply pw_below_drewN | apply below_drew1 | refine below_set ?_ GE341.out) | exact HB.out))) : w.heap.size ≤ gb342)); have n4_ := Aside0.mk ((by rw [hg]; exact (below_size (by repeat (first | (with_reducible first | exact HB.out | apply below_alloc | apply pw_below_drewN | apply below_drew1 | refine below_set ?_ GE341.out) | exact HB.out))) : w.heap.size ≤ gb342)); have n5_ := Aside0.mk ((by rw [hg]; exact Nat.ne_of_lt (blk_lt (g := gb341) (o := .cells #[.slice A0_0 l0_0.length c0_0] 30 (0, 0)) (by (with_reducible repeat (first | refine blk_drewN ?_ _ | refine blk_drew ?_ | refine blk_alloc ?_ _)); exact BK341.out)) : gb341 ≠ gb342)); have n6_ := Aside0.mk ((by rw [hg]; exact Nat.ne_of_gt (blk_lt (g := gb341) (o := .cells #[.slice A0_0 l0_0.length c0_0] 30 (0, 0)) (by (with_reducible repeat (first | refine blk_drewN ?_ _ | refine blk_drew ?_ | refine blk_alloc ?_ _)); exact BK341.out)) : gb342 ≠ gb341)); clear BK341; clear HB; have BK341 := n0_; have HB := n1_; have BK342 := n2_; have GW342 := n3_; have GE342 := n4_; have NB341_342 := n5_; have NB342_341 := n6_; clear n0_ n1_ n2_ n3_ n4_ n5_ n6_; clear hb hbox hg; have hnb17 := NB342_341.out; have hnc17 := NB341_342.out; have hcz18_0 : w16.cell? ⟨gb342, 0, none⟩ = some (.slice A1_0 l1_0.length c1_0) := (blk_cell BK342.out 0).trans rfl; have hfz18_0 := blk_frozen BK342.out 0; have p343 : 0 ≤ (a2 : Int) := of_decide_eq_true (by first | (with_reducible assumption) | assumption); have q343 : a2 < (l1_0.length : Int) := of_decide_eq_true (by first | (with_reducible assumption) | assumption); obtain ⟨ad343, A343_0, c343_0, e343, hx343_0, hl343_0, hi343_0⟩ := at_L1 HR1_0.out a2 p343 q343; cases e343; replace hx343_0 := (HB.out.cell (World.block_lt_of_cell? w _ hx343_0)).trans hx343_0; have HR343_0 := Aside0.mk hi343_0; have HC343_0 := Aside0.mk hl343_0; clear hi343_0 hl343_0; replace p343 := eq_true p343; replace q343 := eq_true q343; have hcz19_0 : w16.cell? ⟨gb341, 0, none⟩ = some (.slice A0_0 l0_0.length c0_0) := (blk_cell BK341.out 0).trans rfl; have hfz19_0 := blk_frozen BK341.out 0; have p344 : 0 ≤ (a2 : Int) := of_decide_eq_true (by first | (with_reducible assumption) | assumption); have q344 : a2 < (l0_0.length : Int) := of_decide_eq_true (by first | (with_reducible assumption) | assumption); obtain ⟨ad344, A344_0, c344_0, e344, hx344_0, hl344_0, hi344_0⟩ := at_L1 HR0_0.out a2 p344 q344; cases e344; replace hx344_0 := (HB.out.cell (World.block_lt_of_cell? w _ hx344_0)).trans hx344_0; have HR344_0 := Aside0.mk hi344_0; have HC344_0 := Aside0.mk hl344_0; clear hi344_0 hl344_0; replace p344 := eq_true p344; replace q344 := eq_true q344; have p345 : 0 ≤ (a2 : Int) := of_decide_eq_true (by first | (with_reducible assumption) | assumption); have q345 : a2 < (l1_0.length : Int) := of_decide_eq_true (by first | (with_reducible assumption) | assumption); obtain ⟨ad345, A345_0, c345_0, e345, hx345_0, hl345_0, hi345_0⟩ := at_L1 HR1_0.out a2 p345 q345; obtain rfl : ad343 = ad345 := (by injection e345); replace hx345_0 := (HB.out.cell (World.block_lt_of_cell? w _ hx345_0)).trans hx345_0; have HR345_0 := Aside0.mk hi345_0; have HC345_0 := Aside0.mk hl345_0; clear hi345_0 hl345_0; replace p345 := eq_true p345; replace q345 := eq_true q345; have ea_ := Option.some.inj (hx343_0.symm.trans hx345_0); injection ea_ with ea_ en_ ec_; subst ea_; subst ec_; clear en_; have p346 : 0 ≤ (0 : Int) := (by omega); have q346 : 0 < ((rd_L1 l1_0 a2).length : Int) := of_decide_eq_true (by first | (with_reducible assumption) | assumption); obtain ⟨ad346, e346, hx346_0⟩ := Kd.at_int HR345_0.out 0 p346 q346; cases e346; have qi346 : (0 < (rd_L1 l1_0 a2).length) = True := eq_true (by omega); (try rw [show ((0 : Int)).toNat = 0 from rfl] at hx346_0); (try rw [Addr.add_zero'] at hx346_0); replace hx346_0 := (HB.out.cell (World.block_lt_of_cell? w _ hx346_0)).trans hx346_0; replace p346 := eq_true p346; replace q346 := eq_true q346; have p347 : 0 ≤ ((rd (rd_L1 l1_0 a2) 0) : Int) := of_decide_eq_true (by first | (with_reducible assumption) | assumption); have q347 : (rd (rd_L1 l1_0 a2) 0) < ((rd_L1 l0_0 a2).length : Int) := of_decide_eq_true (by first | (with_reducible assumption) | assumption); obtain ⟨ad347, e347, hx347_0⟩ := Kd.at_int HR344_0.out (rd (rd_L1 l1_0 a2) 0) p347 q347; cases e347; replace hx347_0 := (HB.out.cell (World.block_lt_of_cell? w _ hx347_0)).trans hx347_0; replace p347 := eq_true p347; replace q347 := eq_true q347))
                repeat (go_quiet (first | ((with_reducible refine gate_dst (N := 3) rfl ?_); refine box_event ?hg (N := 3) ?hd (cs := #[.slice A0_0 l0_0.length c0_0]) (t := 30) ?hr ?_; (case hd => rfl); (case hg => rfl); (case hr => first | (go_simp; done) | (go_simp; rfl)); intro gb341 hg w15 hbox hb; have n0_ := Aside0.mk (below_step (by repeat (first | (with_reducible first | exact HB.out | apply below_alloc | apply pw_below_drewN | apply below_drew1) | exact HB.out)) hb); have n1_ := Aside0.mk (hbox); have n2_ := Aside0.mk ((by rw [hg]; exact (below_size (by repeat (first | (with_reducible first | exact HB.out | apply below_alloc | apply pw_below_drewN | apply below_drew1) | exact HB.out))) : w.heap.size ≤ gb341)); have n3_ := Aside0.mk ((by rw [hg]; exact (below_size (by repeat (first | (with_reducible first | exact HB.out | apply below_alloc | apply pw_below_drewN | apply below_drew1) | exact HB.out))) : w.heap.size ≤ gb341)); clear HB; have HB := n0_; have BK341 := n1_; have GW341 := n2_; have GE341 := n3_; clear n0_ n1_ n2_ n3_; clear hb hbox hg) | ((with_reducible refine gate_dst (N := 4) rfl ?_); refine box_event ?hg (N := 4) ?hd (cs := #[.slice A1_0 l1_0.length c1_0]) (t := 59) ?hr ?_; (case hd => rfl); (case hg => rfl); (case hr => first | (go_simp; done) | (go_simp; rfl)); intro gb342 hg w16 hbox hb; have n0_ := Aside0.mk (blk_below (g := gb341) (o := .cells #[.slice A0_0 l0_0.length c0_0] 30 (0, 0)) (by (with_reducible repeat (first | refine blk_drewN ?_ _ | refine blk_drew ?_ | refine blk_alloc ?_ _)); exact BK341.out) hb); have n1_ := Aside0.mk (below_step (by repeat (first | (with_reducible first | exact HB.out | apply below_alloc | apply pw_below_drewN | apply below_drew1 | refine below_set ?_ GE341.out) | exact HB.out)) hb); have n2_ := Aside0.mk (hbox); have n3_ := Aside0.mk ((by rw [hg]; exact (below_size (by repeat (first | (with_reducible first | exact HB.out | apply below_alloc | apply pw_below_drewN | apply below_drew1 | refine below_set ?_ GE341.out) | exact HB.out))) : w.heap.size ≤ gb342)); have n4_ := Aside0.mk ((by rw [hg]; exact (below_size (by repeat (first | (with_reducible first | exact HB.out | apply below_alloc | apply pw_below_drewN | apply below_drew1 | refine below_set ?_ GE341.out) | exact HB.out))) : w.heap.size ≤ gb342)); have n5_ := Aside0.mk ((by rw [hg]; exact Nat.ne_of_lt (blk_lt (g := gb341) (o := .cells #[.slice A0_0 l0_0.length c0_0] 30 (0, 0)) (by (with_reducible repeat (first | refine blk_drewN ?_ _ | refine blk_drew ?_ | refine blk_alloc ?_ _)); exact BK341.out)) : gb341 ≠ gb342)); have n6_ := Aside0.mk ((by rw [hg]; exact Nat.ne_of_gt (blk_lt (g := gb341) (o := .cells #[.slice A0_0 l0_0.length c0_0] 30 (0, 0)) (by (with_reducible repeat (first | refine blk_drewN ?_ _ | refine blk_drew ?_ | refine blk_alloc ?_ _)); exact BK341.out)) : gb342 ≠ gb341)); clear BK341; clear HB; have BK341 := n0_; have HB := n1_; have BK342 := n2_; have GW342 := n3_; have GE342 := n4_; have NB341_342 := n5_; have NB342_341 := n6_; clear n0_ n1_ n2_ n3_ n4_ n5_ n6_; clear hb hbox hg; have hnb17 := NB342_341.out; have hnc17 := NB341_342.out; have hcz18_0 : w16.cell? ⟨gb342, 0, none⟩ = some (.slice A1_0 l1_0.length c1_0) := (blk_cell BK342.out 0).trans rfl; have hfz18_0 := blk_frozen BK342.out 0; have p343 : 0 ≤ (a2 : Int) := of_decide_eq_true (by first | (with_reducible assumption) | assumption); have q343 : a2 < (l1_0.length : Int) := of_decide_eq_true (by first | (with_reducible assumption) | assumption); obtain ⟨ad343, A343_0, c343_0, e343, hx343_0, hl343_0, hi343_0⟩ := at_L1 HR1_0.out a2 p343 q343; cases e343; replace hx343_0 := (HB.out.cell (World.block_lt_of_cell? w _ hx343_0)).trans hx343_0; have HR343_0 := Aside0.mk hi343_0; have HC343_0 := Aside0.mk hl343_0; clear hi343_0 hl343_0; replace p343 := eq_true p343; replace q343 := eq_true q343; have hcz19_0 : w16.cell? ⟨gb341, 0, none⟩ = some (.slice A0_0 l0_0.length c0_0) := (blk_cell BK341.out 0).trans rfl; have hfz19_0 := blk_frozen BK341.out 0; have p344 : 0 ≤ (a2 : Int) := of_decide_eq_true (by first | (with_reducible assumption) | assumption); have q344 : a2 < (l0_0.length : Int) := of_decide_eq_true (by first | (with_reducible assumption) | assumption); obtain ⟨ad344, A344_0, c344_0, e344, hx344_0, hl344_0, hi344_0⟩ := at_L1 HR0_0.out a2 p344 q344; cases e344; replace hx344_0 := (HB.out.cell (World.block_lt_of_cell? w _ hx344_0)).trans hx344_0; have HR344_0 := Aside0.mk hi344_0; have HC344_0 := Aside0.mk hl344_0; clear hi344_0 hl344_0; replace p344 := eq_true p344; replace q344 := eq_true q344; have p345 : 0 ≤ (a2 : Int) := of_decide_eq_true (by first | (with_reducible assumption) | assumption); have q345 : a2 < (l1_0.length : Int) := of_decide_eq_true (by first | (with_reducible assumption) | assumption); obtain ⟨ad345, A345_0, c345_0, e345, hx345_0, hl345_0, hi345_0⟩ := at_L1 HR1_0.out a2 p345 q345; obtain rfl : ad343 = ad345 := (by injection e345); replace hx345_0 := (HB.out.cell (World.block_lt_of_cell? w _ hx345_0)).trans hx345_0; have HR345_0 := Aside0.mk hi345_0; have HC345_0 := Aside0.mk hl345_0; clear hi345_0 hl345_0; replace p345 := eq_true p345; replace q345 := eq_true q345; have ea_ := Option.some.inj (hx343_0.symm.trans hx345_0); injection ea_ with ea_ en_ ec_; subst ea_; subst ec_; clear en_; have p346 : 0 ≤ (0 : Int) := (by omega); have q346 : 0 < ((rd_L1 l1_0 a2).length : Int) := of_decide_eq_true (by first | (with_reducible assumption) | assumption); obtain ⟨ad346, e346, hx346_0⟩ := Kd.at_int HR345_0.out 0 p346 q346; cases e346; have qi346 : (0 < (rd_L1 l1_0 a2).length) = True := eq_true (by omega); (try rw [show ((0 : Int)).toNat = 0 from rfl] at hx346_0); (try rw [Addr.add_zero'] at hx346_0); replace hx346_0 := (HB.out.cell (World.block_lt_of_cell? w _ hx346_0)).trans hx346_0; replace p346 := eq_true p346; replace q346 := eq_true q346; have p347 : 0 ≤ ((rd (rd_L1 l1_0 a2) 0) : Int) := of_decide_eq_true (by first | (with_reducible assumption) | assumption); have q347 : (rd (rd_L1 l1_0 a2) 0) < ((rd_L1 l0_0 a2).length : Int) := of_decide_eq_true (by first | (with_reducible assumption) | assumption); obtain ⟨ad347, e347, hx347_0⟩ := Kd.at_int HR344_0.out (rd (rd_L1 l1_0 a2) 0) p347 q347; cases e347; replace hx347_0 := (HB.out.cell (World.block_lt_of_cell? w _ hx347_0)).trans hx347_0; replace p347 := eq_true p347; replace q347 := eq_true q347)); try go_wp2_with (first | ((with_reducible refine gate_dst (N := 3) rfl ?_); refine box_event ?hg (N := 3) ?hd (cs := #[.slice A0_0 l0_0.length c0_0]) (t := 30) ?hr ?_; (case hd => rfl); (case hg => rfl); (case hr => first | (go_simp; done) | (go_simp; rfl)); intro gb341 hg w15 hbox hb; have n0_ := Aside0.mk (below_step (by repeat (first | (with_reducible first | exact HB.out | apply below_alloc | apply pw_below_drewN | apply below_drew1) | exact HB.out)) hb); have n1_ := Aside0.mk (hbox); have n2_ := Aside0.mk ((by rw [hg]; exact (below_size (by repeat (first | (with_reducible first | exact HB.out | apply below_alloc | apply pw_below_drewN | apply below_drew1) | exact HB.out))) : w.heap.size ≤ gb341)); have n3_ := Aside0.mk ((by rw [hg]; exact (below_size (by repeat (first | (with_reducible first | exact HB.out | apply below_alloc | apply pw_below_drewN | apply below_drew1) | exact HB.out))) : w.heap.size ≤ gb341)); clear HB; have HB := n0_; have BK341 := n1_; have GW341 := n2_; have GE341 := n3_; clear n0_ n1_ n2_ n3_; clear hb hbox hg) | ((with_reducible refine gate_dst (N := 4) rfl ?_); refine box_event ?hg (N := 4) ?hd (cs := #[.slice A1_0 l1_0.length c1_0]) (t := 59) ?hr ?_; (case hd => rfl); (case hg => rfl); (case hr => first | (go_simp; done) | (go_simp; rfl)); intro gb342 hg w16 hbox hb; have n0_ := Aside0.mk (blk_below (g := gb341) (o := .cells #[.slice A0_0 l0_0.length c0_0] 30 (0, 0)) (by (with_reducible repeat (first | refine blk_drewN ?_ _ | refine blk_drew ?_ | refine blk_alloc ?_ _)); exact BK341.out) hb); have n1_ := Aside0.mk (below_step (by repeat (first | (with_reducible first | exact HB.out | apply below_alloc | apply pw_below_drewN | apply below_drew1 | refine below_set ?_ GE341.out) | exact HB.out)) hb); have n2_ := Aside0.mk (hbox); have n3_ := Aside0.mk ((by rw [hg]; exact (below_size (by repeat (first | (with_reducible first | exact HB.out | apply below_alloc | apply pw_below_drewN | apply below_drew1 | refine below_set ?_ GE341.out) | exact HB.out))) : w.heap.size ≤ gb342)); have n4_ := Aside0.mk ((by rw [hg]; exact (below_size (by repeat (first | (with_reducible first | exact HB.out | apply below_alloc | apply pw_below_drewN | apply below_drew1 | refine below_set ?_ GE341.out) | exact HB.out))) : w.heap.size ≤ gb342)); have n5_ := Aside0.mk ((by rw [hg]; exact Nat.ne_of_lt (blk_lt (g := gb341) (o := .cells #[.slice A0_0 l0_0.length c0_0] 30 (0, 0)) (by (with_reducible repeat (first | refine blk_drewN ?_ _ | refine blk_drew ?_ | refine blk_alloc ?_ _)); exact BK341.out)) : gb341 ≠ gb342)); have n6_ := Aside0.mk ((by rw [hg]; exact Nat.ne_of_gt (blk_lt (g := gb341) (o := .cells #[.slice A0_0 l0_0.length c0_0] 30 (0, 0)) (by (with_reducible repeat (first | refine blk_drewN ?_ _ | refine blk_drew ?_ | refine blk_alloc ?_ _)); exact BK341.out)) : gb342 ≠ gb341)); clear BK341; clear HB; have BK341 := n0_; have HB := n1_; have BK342 := n2_; have GW342 := n3_; have GE342 := n4_; have NB341_342 := n5_; have NB342_341 := n6_; clear n0_ n1_ n2_ n3_ n4_ n5_ n6_; clear hb hbox hg; have hnb17 := NB342_341.out; have hnc17 := NB341_342.out; have hcz18_0 : w16.cell? ⟨gb342, 0, none⟩ = some (.slice A1_0 l1_0.length c1_0) := (blk_cell BK342.out 0).trans rfl; have hfz18_0 := blk_frozen BK342.out 0; have p343 : 0 ≤ (a2 : Int) := of_decide_eq_true (by first | (with_reducible assumption) | assumption); have q343 : a2 < (l1_0.length : Int) := of_decide_eq_true (by first | (with_reducible assumption) | assumption); obtain ⟨ad343, A343_0, c343_0, e343, hx343_0, hl343_0, hi343_0⟩ := at_L1 HR1_0.out a2 p343 q343; cases e343; replace hx343_0 := (HB.out.cell (World.block_lt_of_cell? w _ hx343_0)).trans hx343_0; have HR343_0 := Aside0.mk hi343_0; have HC343_0 := Aside0.mk hl343_0; clear hi343_0 hl343_0; replace p343 := eq_true p343; replace q343 := eq_true q343; have hcz19_0 : w16.cell? ⟨gb341, 0, none⟩ = some (.slice A0_0 l0_0.length c0_0) := (blk_cell BK341.out 0).trans rfl; have hfz19_0 := blk_frozen BK341.out 0; have p344 : 0 ≤ (a2 : Int) := of_decide_eq_true (by first | (with_reducible assumption) | assumption); have q344 : a2 < (l0_0.length : Int) := of_decide_eq_true (by first | (with_reducible assumption) | assumption); obtain ⟨ad344, A344_0, c344_0, e344, hx344_0, hl344_0, hi344_0⟩ := at_L1 HR0_0.out a2 p344 q344; cases e344; replace hx344_0 := (HB.out.cell (World.block_lt_of_cell? w _ hx344_0)).trans hx344_0; have HR344_0 := Aside0.mk hi344_0; have HC344_0 := Aside0.mk hl344_0; clear hi344_0 hl344_0; replace p344 := eq_true p344; replace q344 := eq_true q344; have p345 : 0 ≤ (a2 : Int) := of_decide_eq_true (by first | (with_reducible assumption) | assumption); have q345 : a2 < (l1_0.length : Int) := of_decide_eq_true (by first | (with_reducible assumption) | assumption); obtain ⟨ad345, A345_0, c345_0, e345, hx345_0, hl345_0, hi345_0⟩ := at_L1 HR1_0.out a2 p345 q345; obtain rfl : ad343 = ad345 := (by injection e345); replace hx345_0 := (HB.out.cell (World.block_lt_of_cell? w _ hx345_0)).trans hx345_0; have HR345_0 := Aside0.mk hi345_0; have HC345_0 := Aside0.mk hl345_0; clear hi345_0 hl345_0; replace p345 := eq_true p345; replace q345 := eq_true q345; have ea_ := Option.some.inj (hx343_0.symm.trans hx345_0); injection ea_ with ea_ en_ ec_; subst ea_; subst ec_; clear en_; have p346 : 0 ≤ (0 : Int) := (by omega); have q346 : 0 < ((rd_L1 l1_0 a2).length : Int) := of_decide_eq_true (by first | (with_reducible assumption) | assumption); obtain ⟨ad346, e346, hx346_0⟩ := Kd.at_int HR345_0.out 0 p346 q346; cases e346; have qi346 : (0 < (rd_L1 l1_0 a2).length) = True := eq_true (by omega); (try rw [show ((0 : Int)).toNat = 0 from rfl] at hx346_0); (try rw [Addr.add_zero'] at hx346_0); replace hx346_0 := (HB.out.cell (World.block_lt_of_cell? w _ hx346_0)).trans hx346_0; replace p346 := eq_true p346; replace q346 := eq_true q346; have p347 : 0 ≤ ((rd (rd_L1 l1_0 a2) 0) : Int) := of_decide_eq_true (by first | (with_reducible assumption) | assumption); have q347 : (rd (rd_L1 l1_0 a2) 0) < ((rd_L1 l0_0 a2).length : Int) := of_decide_eq_true (by first | (with_reducible assumption) | assumption); obtain ⟨ad347, e347, hx347_0⟩ := Kd.at_int HR344_0.out (rd (rd_L1 l1_0 a2) 0) p347 q347; cases e347; replace hx347_0 := (HB.out.cell (World.block_lt_of_cell? w _ hx347_0)).trans hx347_0; replace p347 := eq_true p347; replace q347 := eq_true q347)))
                go_ret
                exact ⟨by first | rfl | (simp [errW_none, errW_some] <;> rfl) | (simp [*, errW_none, errW_some] <;> rfl), by repeat (first | (with_reducible first | exact HB.out | apply below_alloc | apply pw_below_drewN | apply below_drew1 | refine below_set ?_ GE341.out | refine below_set ?_ GE342.out) | exact HB.out)⟩
              · rw [if_neg c14] at H
                exact absurd H (by simp)
            · rw [if_neg c13] at H
              exact absurd H (by simp)
          · rw [if_neg c12] at H
            exact absurd H (by simp)
        · rw [if_neg c11] at H
          exact absurd H (by simp)
    · rw [if_neg c5] at H
      exact absurd H (by simp)
  · rw [if_neg c4] at H
    exact absurd H (by simp)
end Go.Proofs.Ytnbnalbomflafaa.GR
/-! ## Ku -/
namespace Go.Proofs.Ytnbnalbomflafaa.KA
open Go.RowKit Go.Proofs.YtnbnalbomflafaaW.PrintWords Go.Proofs.YtnbnalbomflafaaW.PrintLast
open Go.Proofs.Ytnbnalbomflafaa.GA Go.Proofs.Ytnbnalbomflafaa.GD
set_option linter.unusedVariables false
set_option linter.unusedSimpArgs false
theorem rdGD (l : List (List Int)) (i : Int) : GD.rd_L1 l i = GA.rd_L1 l i := rfl
theorem okStack_eq (n : Nat) (row : List Int) : okStack n row = (decide (row.length ≤ 12) && row.all fun x => inB x 0 ((n : Int) - 1)) := by
  unfold okStack
  congr 1
  rw [List.not_any_eq_all_not]
  simp
theorem skGood_loop (l s : List (List Int)) (hn : l.length ≤ 8) (hsl : s.length = l.length) (h5 : ∀ r ∈ l, r.length ≤ 5) (d : Nat) : ∀ (k i : Nat), i + d = s.length → d + 15 < k → spec_skGood.l0 k s (s.length : Int) (i : Int) l = some (okStacks (l.drop i) (s.drop i)) := by
  induction d with
  | zero =>
    intro k i hi hk
    obtain ⟨k, rfl⟩ := succ_of hk
    unfold spec_skGood.l0
    rw [if_neg (by omega), List.drop_of_length_le (by omega), List.drop_of_length_le (by omega)]
    rfl
  | succ d ih =>
    intro k i hi hk
    obtain ⟨k, rfl⟩ := succ_of hk
    have hlt : i < s.length := by omega
    have hil : i < l.length := by omega
    have := h5 _ (List.getElem_mem hil)
    unfold spec_skGood.l0
    rw [if_pos (by omega), if_pos (by omega), if_pos (by omega), rdGD, rdGD, rdL_at s i hlt, rdL_at l i hil, okStacks_drop l s i hil hlt, okStack_eq]
    by_cases h12 : s[i].length ≤ 12
    · rw [if_neg (by omega), if_pos (by omega), wrap_id (by omega) (by omega), l1All_eq _ _ _ (by omega) k (by omega), decide_eq_true h12, Bool.true_and]
      simp only [Option.bind_some]
      cases hx : s[i].all fun x => inB x 0 ((l[i].length : Int) - 1) with
      | true => rw [if_pos rfl, wrap_up hlt (by omega), ih k (i + 1) (by omega) (by omega), Bool.true_and]
      | false => rw [if_neg (by decide), Bool.false_and]
    · rw [if_pos (by omega), decide_eq_false h12, Bool.false_and, Bool.false_and]
theorem skGood_eq (l : List (List Int)) (a : Int) (s : List (List Int)) (k : Nat) (hk : 100 ≤ k) : spec_skGood.f k l a s = some (stacksB l a s) := by
  obtain ⟨k, rfl⟩ := succ_of (show 0 < k by omega)
  unfold spec_skGood.f stacksB
  rw [grPlace_eq l a _ (by omega)]
  simp only [Option.bind_some]
  cases hp : placeB l a with
  | false => simp [spec_skGood.j0]
  | true =>
    obtain ⟨hg, h1, h8, ha0, hal⟩ := place_is hp
    obtain ⟨a, rfl⟩ := Int.eq_ofNat_of_zero_le ha0
    rw [if_pos rfl]
    by_cases hsl : s.length = l.length
    · have has : a < s.length := by omega
      rw [if_pos (by omega), if_pos ha0, if_pos (by omega), rdGD, rdL_at s a has, Int.toNat_natCast]
      rw [show s.getD a [] = s[a] by rw [List.getD_eq_getElem?_getD, List.getElem?_eq_getElem has]; rfl]
      simp only [spec_skGood.j0]
      by_cases hz : s[a].length = 0
      · have := skGood_loop l s h8 hsl (fun r hr => (graph_row hg hr).1) s.length k 0 (by omega) (by omega)
        rw [List.drop_zero, List.drop_zero] at this
        rw [show decide ((s[a].length : Int) > 0) = false from decide_eq_false (by omega), if_neg (by decide), show (0 : Int) = ((0 : Nat) : Int) from rfl, this]
        simp [hsl, hz]
      · rw [show decide ((s[a].length : Int) > 0) = true from decide_eq_true (by omega), if_pos rfl]
        simp [hz]
    · rw [if_neg (by omega)]
      simp [spec_skGood.j0, hsl]
end Go.Proofs.Ytnbnalbomflafaa.KA
/-! ## Rc -/
namespace Go.Proofs.Ytnbnalbomflafaa.RA
open Go.RowKit Go.Proofs.YtnbnalbomflafaaW.PrintWords Go.Proofs.YtnbnalbomflafaaW.PrintLast Go.Proofs.YtnbnalbomflafaaW.PrintMore
open Go.Proofs.Ytnbnalbomflafaa.GA
open Go.Proofs.Ytnbnalbomflafaa.GD hiding rd_L1 at_L1
open Go.Proofs.Ytnbnalbomflafaa.GR hiding rd_L1 at_L1
open Go.Proofs.Ytnbnalbomflafaa.KA (stacksB placeB skGood_eq succ_of wrap_up impl_areStacks.f okStacks)
set_option linter.unusedVariables false
set_option linter.unusedSimpArgs false
/-- The answers: lists. -/
def ResC (w : World) (R : List Int) (ok : Bool) (e : Ending) (w' : World) : Prop := ∃ v, e = .returned (.tuple #[v, .bool ok]) ∧ Below w.heap.size w w' ∧ Aside0 (ListC w' v R)
def ResD (w : World) (R : List Int) (ok : Bool) (e : Ending) (w' : World) : Prop := ∃ v, e = .returned (.tuple #[v, .bool ok]) ∧ Below w.heap.size w w' ∧ Aside0 (ListD w' w.heap.size v R)
theorem rdR (l : List (List Int)) (i : Int) : GR.rd_L1 l i = GA.rd_L1 l i := rfl
theorem stacks_len {l : List (List Int)} {a : Int} {s : List (List Int)} (h : stacksB l a s = true) : s.length = l.length ∧ l.length ≤ 8 := by
  unfold stacksB at h
  simp only [Bool.and_eq_true, decide_eq_true_eq] at h
  obtain ⟨⟨⟨h1, h2⟩, _⟩, _⟩ := h
  exact ⟨h2, (KA.place_is h1).2.2.1⟩
end Go.Proofs.Ytnbnalbomflafaa.RA
/-! ## Re -/
namespace Go.Proofs.Ytnbnalbomflafaa.RA
open Go.RowKit Go.Proofs.YtnbnalbomflafaaW.PrintWords Go.Proofs.YtnbnalbomflafaaW.PrintLast Go.Proofs.YtnbnalbomflafaaW.PrintMore
open Go.Proofs.Ytnbnalbomflafaa.GA
open Go.Proofs.Ytnbnalbomflafaa.GD hiding rd_L1 at_L1
open Go.Proofs.Ytnbnalbomflafaa.GR hiding rd_L1 at_L1
open Go.Proofs.Ytnbnalbomflafaa.KA
set_option linter.unusedVariables false
set_option linter.unusedSimpArgs false
def Rows12 (m : Nat) (r : List (List Int)) : Prop := r.length ≤ m ∧ ∀ x ∈ r, x.length ≤ 12
theorem rows12_snoc {m : Nat} {r : List (List Int)} (h : Rows12 m r) (x : List Int) (hx : x.length ≤ 12) : Rows12 (m + 1) (r ++ [x]) := by
  refine ⟨by have := h.1; simp; omega, fun y hy => ?_⟩
  rcases List.mem_append.1 hy with hy | hy
  · exact h.2 y hy
  · rw [List.mem_singleton.1 hy]; exact hx
end Go.Proofs.Ytnbnalbomflafaa.RA
/-! ## GR3 -/
namespace Go.Proofs.Ytnbnalbomflafaa.GR
open Go.RowKit Go.Proofs.YtnbnalbomflafaaW.PrintWords Go.Proofs.YtnbnalbomflafaaW.PrintLast Go.Proofs.YtnbnalbomflafaaW.PrintMore
open Go.Proofs.Ytnbnalbomflafaa.GA Go.Proofs.Ytnbnalbomflafaa.GB Go.Proofs.Ytnbnalbomflafaa.GD Go.Proofs.Ytnbnalbomflafaa.KA
attribute [local go_sem] max2_int min2_int max_two min_two max_three min_three max_four min_four   -- for this text's walks alone
set_option linter.unusedVariables false
set_option linter.unusedSimpArgs false
mutual
def spec_skCycle.j1 : Nat → Int → List Int → Int → Option (List Int)
  | 0, _, _, _ => none
  | k + 1, x2, x7, x8 => if x8 = x2 then (spec_skCycle.l1 k x7 0 x7 (x7.length : Int) 0) else (some ([] : List Int))
def spec_skCycle.l1 : Nat → List Int → Int → List Int → Int → Int → Option (List Int)
  | 0, _, _, _, _, _ => none
  | k + 1, x7, x10, x46, x47, x48 => if x48 < x47 then (if 0 ≤ x48 then (if x48 < (x46.length : Int) then (if 0 ≤ x10 then (if x10 < (x7.length : Int) then (if (rd x46 x48) < (rd x7 x10) then (spec_skCycle.l1 k x7 x48 x46 x47 (wrap64 (x48 + 1))) else (spec_skCycle.l1 k x7 x10 x46 x47 (wrap64 (x48 + 1)))) else (none)) else (none)) else (none)) else (none)) else (if 0 ≤ x10 then (if x10 ≤ (x7.length : Int) then ((spec_l1Own.f (x7.drop (x10 : Int).toNat)).bind fun t364 => ((some (x7.take (x10 : Int).toNat : List Int)).bind fun y367 => (if t364.length + y367.length < 17592186044416 then (some (t364 ++ y367)) else (none)))) else (none)) else (none))
def spec_skCycle.l0 : Nat → Int → List Int → Int → Int → List (List Int) → List (List Int) → Option (List Int)
  | 0, _, _, _, _, _, _ => none
  | k + 1, x2, x7, x8, x9, x349000, x350000 => if x9 < (x349000.length : Int) then (if x8 ≥ 0 then (if x8 = x2 then (spec_skCycle.j1 k x2 x7 x8) else (if x7.length < 17592186044416 then ((spec_skNext.f x349000 x350000 x8).bind fun t357 => (spec_skCycle.l0 k x2 (x7 ++ [x8]) t357 (wrap64 (x9 + 1)) x349000 x350000)) else (none))) else (spec_skCycle.j1 k x2 x7 x8)) else (spec_skCycle.j1 k x2 x7 x8)
end
def spec_skCycle.f (k : Nat) (l0_0 : List (List Int)) (l1_0 : List (List Int)) (a2 : Int) : Option (List Int) := (spec_skNext.f l0_0 l1_0 a2).bind fun t353 => (spec_skCycle.l0 k a2 (([a2] : List Int)) t353 0 l0_0 l1_0)
def spec_skCycle.T17 : Bool × List (List Nat × List Nat) := (true, [([], []), ([], []), ([0, 1], [0, 1]), ([2], [2]), ([], []), ([], []), ([4, 5], [4, 5]), ([3, 6, 3], [3, 6]), ([7, 7, 0, 1, 2, 3, 4, 5, 6, 7], [7])])
def spec_skCycle.B17 : List Nat := [0, 0, 3, 7, 0, 0, 48, 127, 255]
theorem spec_skCycle.tab17 : rtab .any (opsOf Try.f124 17) = spec_skCycle.T17 := by kernel_rfl
theorem spec_skCycle.bits17 : waitsOk spec_skCycle.T17.2 spec_skCycle.B17 = true := by kernel_rfl
set_option maxHeartbeats 8000000 in
set_option maxRecDepth 100000 in
theorem spec_skCycle.calls (k : Nat) (A0_0 : Option Addr) (c0_0 : Nat) (l0_0 : List (List Int)) (A1_0 : Option Addr) (c1_0 : Nat) (l1_0 : List (List Int)) (a2 : Int) (r : List Int) (w : World) (hr0_0 : Kd.C (Kd.slice 3 (Kd.int .i64)) w A0_0 l0_0.length l0_0) (hc0_0 : l0_0.length ≤ c0_0) (hr1_0 : Kd.C (Kd.slice 3 (Kd.int .i64)) w A1_0 l1_0.length l1_0) (hc1_0 : l1_0.length ≤ c1_0) (h : spec_skCycle.f k l0_0 l1_0 a2 = some r) :
    Calls Try.prog 124 #[.agg #[.slice A0_0 l0_0.length c0_0], .agg #[.slice A1_0 l1_0.length c1_0], .int .i64 a2] w fun e w' => ∃ v0_ : Value, e = .returned (v0_) ∧ Kd.R (Kd.int .i64) 3 w' w.heap.size (fun _ => True) v0_ r ∧ Below w.heap.size w w' := by
  have hu30 := Try.underlying30
  have hu59 := Try.underlying59
  have HR0_0 := Aside0.mk hr0_0
  have HC0_0 := Aside0.mk hc0_0
  clear hr0_0 hc0_0
  have HR1_0 := Aside0.mk hr1_0
  have HC1_0 := Aside0.mk hc1_0
  clear hr1_0 hc1_0
  have HB := Aside0.mk (Below.refl w.heap.size w)
  have H : ((spec_skNext.f l0_0 l1_0 a2).bind fun t353 => (spec_skCycle.l0 k a2 (([a2] : List Int)) t353 0 l0_0 l1_0)) = some r := h
  clear h
  obtain ⟨y350, hy350⟩ : ∃ y_ : List Int, y_ = (([a2] : List Int)) := ⟨_, rfl⟩
  replace H : ((spec_skNext.f l0_0 l1_0 a2).bind fun t353 => (spec_skCycle.l0 k a2 y350 t353 0 l0_0 l1_0)) = some r := by first | (rw [hy350]; with_reducible exact H) | (have H2_ := (Option.bind_some _ _).symm.trans H; rw [hy350]; with_reducible exact H2_) | (have H2_ := (Option.bind_some _ _).symm.trans H; with_reducible exact H2_) | with_reducible exact H | (rw [hy350]; exact H) | exact H
  have Ny350 := Aside0.mk hy350
  clear hy350
  replace H := Option.bind_eq_some_iff.mp H
  obtain ⟨t353, A40, H⟩ := H
  replace H : (spec_skCycle.l0 k a2 y350 t353 0 l0_0 l1_0) = some r := H
  have A4 := Aside0.mk A40
  clear A40
  have HC5 := Aside0.mk H
  clear H
  go_enter Try.func124, Try.ntmps124
  go_upto_block 0 with (first | ((with_reducible refine gate_dst (N := 3) rfl ?_); refine box_event ?hg (N := 3) ?hd (cs := #[.slice A0_0 l0_0.length c0_0]) (t := 30) ?hr ?_; (case hd => rfl); (case hg => rfl); (case hr => first | (go_simp; done) | (go_simp; rfl)); intro gb348 hg w6 hbox hb; have n0_ := Aside0.mk (below_step (by repeat (first | (with_reducible first | exact HB.out | apply below_alloc | apply pw_below_drewN | apply below_drew1) | exact HB.out)) hb); have n1_ := Aside0.mk (hbox); have n2_ := Aside0.mk ((by rw [hg]; exact (below_size (by repeat (first | (with_reducible first | exact HB.out | apply below_alloc | apply pw_below_drewN | apply below_drew1) | exact HB.out))) : w.heap.size ≤ gb348)); have n3_ := Aside0.mk ((by rw [hg]; exact (below_size (by repeat (first | (with_reducible first | exact HB.out | apply below_alloc | apply pw_below_drewN | apply below_drew1) | exact HB.out))) : w.heap.size ≤ gb348)); clear HB; have HB := n0_; have BK348 := n1_; have GW348 := n2_; have GE348 := n3_; clear n0_ n1_ n2_ n3_; clear hb hbox hg) | ((with_reducible refine gate_dst (N := 4) rfl ?_); refine box_event ?hg (N := 4) ?hd (cs := #[.slice A1_0 l1_0.length c1_0]) (t := 59) ?hr ?_; (case hd => rfl); (case hg => rfl); (case hr => first | (go_simp; done) | (go_simp; rfl)); intro gb349 hg w7 hbox hb; have n0_ := Aside0.mk (blk_below (g := gb348) (o := .cells #[.slice A0_0 l0_0.length c0_0] 30 (0, 0)) (by (with_reducible repeat (first | refine blk_drewN ?_ _ | refine blk_drew ?_ | refine blk_alloc ?_ _)); exact BK348.out) hb); have n1_ := Aside0.mk (below_step (by repeat (first | (with_reducible first | exact HB.out | apply below_alloc | apply pw_below_drewN | apply below_drew1 | refine below_set ?_ GE348.out) | exact HB.out)) hb); have n2_ := Aside0.mk (hbox); have n3_ := Aside0.mk ((by rw [hg]; exact (below_size (by repeat (first | (with_reducible first | exact HB.out | apply below_alloc | apply pw_below_drewN | apply below_drew1 | refine below_set ?_ GE348.out) | exact HB.out))) : w.heap.size ≤ gb349)); have n4_ := Aside0.mk ((by rw [hg]; exact (below_size (by repeat (first | (with_reducible first | exact HB.out | apply below_alloc | apply pw_below_drewN | apply below_drew1 | refine below_set ?_ GE348.out) | exact HB.out))) : w.heap.size ≤ gb349)); have n5_ := Aside0.mk ((by rw [hg]; exact Nat.ne_of_lt (blk_lt (g := gb348) (o := .cells #[.slice A0_0 l0_0.length c0_0] 30 (0, 0)) (by (with_reducible repeat (first | refine blk_drewN ?_ _ | refine blk_drew ?_ | refine blk_alloc ?_ _)); exact BK348.out)) : gb348 ≠ gb349)); have n6_ := Aside0.mk ((by rw [hg]; exact Nat.ne_of_gt (blk_lt (g := gb348) (o := .cells #[.slice A0_0 l0_0.length c0_0] 30 (0, 0)) (by (with_reducible repeat (first | refine blk_drewN ?_ _ | refine blk_drew ?_ | refine blk_alloc ?_ _)); exact BK348.out)) : gb349 ≠ gb348)); clear BK348; clear HB; have BK348 := n0_; have HB := n1_; have BK349 := n2_; have GW349 := n3_; have GE349 := n4_; have NB348_349 := n5_; have NB349_348 := n6_; clear n0_ n1_ n2_ n3_ n4_ n5_ n6_; clear hb hbox hg) | ((with_reducible refine gate_dst (N := 14) rfl ?_); refine Kd.R_lit (Kd.int .i64) _ 3 ?hg (N := 14) ?hd (xs := ([a2] : List Int)) (inner := [.int .i64 a2]) (ok := fun _ => True) (okp := fun _ => True) ?hr ?hp (fun _ hk => hk) trivial (Below.refl _ _) (Nat.le_refl _) (by simp) ?_; (case hd => rfl); (case hg => rfl); (case hr => first | (go_simp; done) | (go_simp; rfl)); (case hp => exact (Reps.one (show Kd.M (Kd.int .i64) _ _ _ a2 [.int .i64 a2] from rfl) (Reps.none _ _))); intro v351 w8 ho9 hb hg_ hnew_; clear hg_ hnew_; (first | rw [← Ny350.out] at ho9 | (simp only [Int.reduceToNat] at ho9; rw [← Ny350.out] at ho9)); have n0_ := Aside0.mk (Kd.R_lower ho9 (below_size (by repeat (first | (with_reducible first | exact HB.out | apply below_alloc | apply pw_below_drewN | apply below_drew1 | refine below_set ?_ GE348.out | refine below_set ?_ GE349.out) | exact HB.out)))); have n1_ := Aside0.mk (blk_below (g := gb348) (o := .cells #[.slice A0_0 l0_0.length c0_0] 30 (0, 0)) (by (with_reducible repeat (first | refine blk_drewN ?_ _ | refine blk_drew ?_ | refine blk_alloc ?_ _)); exact BK348.out) hb); have n2_ := Aside0.mk (blk_below (g := gb349) (o := .cells #[.slice A1_0 l1_0.length c1_0] 59 (0, 0)) (by (with_reducible repeat (first | refine blk_drewN ?_ _ | refine blk_drew ?_ | refine blk_alloc ?_ _)); exact BK349.out) hb); have n3_ := Aside0.mk (below_step (by repeat (first | (with_reducible first | exact HB.out | apply below_alloc | apply pw_below_drewN | apply below_drew1 | refine below_set ?_ GE348.out | refine below_set ?_ GE349.out) | exact HB.out)) hb); clear BK348; clear BK349; clear HB; have HO352 := n0_; have BK348 := n1_; have BK349 := n2_; have HB := n3_; clear n0_ n1_ n2_ n3_; clear hb ho9; have hnb10 := NB348_349.out; have hnc10 := NB349_348.out; have hcz11_0 : w8.cell? ⟨gb348, 0, none⟩ = some (.slice A0_0 l0_0.length c0_0) := (blk_cell BK348.out 0).trans rfl; have hfz11_0 := blk_frozen BK348.out 0; have hcz12_0 : w8.cell? ⟨gb349, 0, none⟩ = some (.slice A1_0 l1_0.length c1_0) := (blk_cell BK349.out 0).trans rfl; have hfz12_0 := blk_frozen BK349.out 0) | ((with_reducible refine gate_callee (f := 129) rfl ?_); refine goesL_ (some 18) rfl rfl Try.func129 (by kernel_rfl) rfl #[.agg #[.slice A0_0 l0_0.length c0_0], .agg #[.slice A1_0 l1_0.length c1_0], .int .i64 a2] rfl (by (try simp only [List.map_toArray, List.map_cons, List.map_nil]); first | done | rfl | (simp only [List.length_drop, List.length_take]; rfl)) ?_; (with_reducible refine (spec_skNext.calls _ _ l0_0 _ _ l1_0 a2 t353 _ ?side1 ?side2 ?side3 ?side4 A4.out).mono ?_); (case side1 => repeat (first | exact (Kd.C_below HR0_0.out HB.out) | (with_reducible refine Kd.C_alloc ?_ _) | (with_reducible refine Kd.C_drewN ?_ _) | (with_reducible refine Kd.C_drew ?_))); (case side2 => exact HC0_0.out); (case side3 => repeat (first | exact (Kd.C_below HR1_0.out HB.out) | (with_reducible refine Kd.C_alloc ?_ _) | (with_reducible refine Kd.C_drewN ?_ _) | (with_reducible refine Kd.C_drew ?_))); (case side4 => exact HC1_0.out); rintro e w13 ⟨rfl, hb⟩; refine ⟨_, rfl, ?_⟩; have n0_ := Aside0.mk (Kd.R_below (by (with_reducible repeat (first | apply Kd.R_alloc | apply Kd.R_drewN | apply Kd.R_drew)); exact HO352.out) hb); have n1_ := Aside0.mk (blk_below (g := gb348) (o := .cells #[.slice A0_0 l0_0.length c0_0] 30 (0, 0)) (by (with_reducible repeat (first | refine blk_drewN ?_ _ | refine blk_drew ?_ | refine blk_alloc ?_ _)); exact BK348.out) hb); have n2_ := Aside0.mk (blk_below (g := gb349) (o := .cells #[.slice A1_0 l1_0.length c1_0] 59 (0, 0)) (by (with_reducible repeat (first | refine blk_drewN ?_ _ | refine blk_drew ?_ | refine blk_alloc ?_ _)); exact BK349.out) hb); have n3_ := Aside0.mk (below_step (by repeat (first | (with_reducible first | exact HB.out | apply below_alloc | apply pw_below_drewN | apply below_drew1 | refine below_set ?_ GE348.out | refine below_set ?_ GE349.out) | exact HB.out)) hb); clear HO352; clear BK348; clear BK349; clear HB; have HO352 := n0_; have BK348 := n1_; have BK349 := n2_; have HB := n3_; clear n0_ n1_ n2_ n3_; (try clear hb); (try clear hb2); (try clear hk); (try clear hi)))
  (try simp only [Act.put, List.setIfInBounds_toArray, List.set_cons_zero, List.set_cons_succ])
  go_cut [7, 8] (fun v7 v8 wc => ∃ (kq : Nat) (x7_4 : List Int) (x8_4 : Int), v8 = .int .i64 x8_4 ∧ Aside0 (spec_skCycle.j1 kq a2 x7_4 x8_4 = some r) ∧ Aside0 (kq ≤ k) ∧ Aside0 (Kd.R (Kd.int .i64) 3 wc w.heap.size (fun _ => True) v7 x7_4) ∧ Aside0 (wc.heap[gb348]? = some (.cells #[(.slice A0_0 l0_0.length c0_0)] 30 (0, 0))) ∧ Aside0 (wc.heap[gb349]? = some (.cells #[(.slice A1_0 l1_0.length c1_0)] 59 (0, 0))) ∧ Aside0 (Below w.heap.size w wc))
  case first =>
    have H := HC5.out
    clear HC5
    have H' := Aside0.mk H
    clear H
    go_wp2
    go_loopg [7, 8, 9] k (fun kq v7 v8 v9 w' => ∃ (x7_1 : List Int) (x8_1 : Int) (x9_1 : Int), v8 = .int .i64 x8_1 ∧ v9 = .int .i64 x9_1 ∧ Aside0 (spec_skCycle.l0 kq a2 x7_1 x8_1 x9_1 l0_0 l1_0 = some r) ∧ Aside0 (kq ≤ k) ∧ Aside0 (Kd.R (Kd.int .i64) 3 w' w.heap.size (fun _ => True) v7 x7_1) ∧ Aside0 (w'.heap[gb348]? = some (.cells #[(.slice A0_0 l0_0.length c0_0)] 30 (0, 0))) ∧ Aside0 (w'.heap[gb349]? = some (.cells #[(.slice A1_0 l1_0.length c1_0)] 59 (0, 0))) ∧ Aside0 (Below w.heap.size w w'))
    case atStart => exact ⟨(y350), (t353), (0), (by first | rfl | (simp; done) | (simp [*]; done)), (by first | rfl | (simp; done) | (simp [*]; done)), H', ⟨Nat.le_refl _⟩, ⟨by (with_reducible repeat (first | apply Kd.R_alloc | apply Kd.R_drewN | apply Kd.R_drew)); exact HO352.out⟩, ⟨by (with_reducible repeat (first | refine blk_drewN ?_ _ | refine blk_drew ?_ | refine blk_alloc ?_ _)); exact BK348.out⟩, ⟨by (with_reducible repeat (first | refine blk_drewN ?_ _ | refine blk_drew ?_ | refine blk_alloc ?_ _)); exact BK349.out⟩, ⟨by repeat (first | (with_reducible first | exact HB.out | apply below_alloc | apply pw_below_drewN | apply below_drew1 | refine below_set ?_ GE348.out | refine below_set ?_ GE349.out) | exact HB.out)⟩⟩
    case round =>
      clear H'
      try clear c1
      try clear p2
      try clear c10
      try clear c12
      try clear hcz11_0
      try clear hcz12_0
      try clear hfz11_0
      try clear hfz12_0
      obtain ⟨x7_1, x8_1, x9_1, rfl, rfl, HA, HK1, HO_7, BK348, BK349, HB⟩ := hrel
      cases gk with
      | zero => exact absurd HA.out (by simp [spec_skCycle.l0])
      | succ k1 =>
        have H := HA.out
        clear HA
        simp only [spec_skCycle.l0] at H
        by_cases c14 : x9_1 < (l0_0.length : Int)
        · rw [if_pos c14] at H
          have c14b0 : decide (x9_1 < (l0_0.length : Int)) = true := decide_eq_true c14
          clear c14
          (first | rw [c14b0] | (simp only [i64_w, i32_w]; rw [c14b0]) | skip)
          by_cases c15 : x8_1 ≥ 0
          · rw [if_pos c15] at H
            have c15b0 : decide (0 ≤ x8_1) = true := decide_eq_true c15
            clear c15
            by_cases c16 : x8_1 = a2
            · rw [if_pos c16] at H
              have c16b0 : (x8_1 == a2) = true := beq_iff_eq.mpr c16
              have c16b1 : (x8_1 != a2) = false := bne_eq_false_iff_eq.mpr c16
              clear c16
              have H' := Aside0.mk H
              clear H
              have hnb17 := NB348_349.out
              have hnc17 := NB349_348.out
              have hcz18_0 : wr.cell? ⟨gb348, 0, none⟩ = some (.slice A0_0 l0_0.length c0_0) := (blk_cell BK348.out 0).trans rfl
              have hfz18_0 := blk_frozen BK348.out 0
              go_wp2
              go_meet
              case rel => exact ⟨_, (x7_1), (x8_1), (by first | rfl | (simp; done) | (simp [*]; done)), H', ⟨by have := HK1.out; first | omega | exact Nat.le_refl _⟩, ⟨by (with_reducible repeat (first | apply Kd.R_alloc | apply Kd.R_drewN | apply Kd.R_drew)); exact HO_7.out⟩, ⟨by (with_reducible repeat (first | refine blk_drewN ?_ _ | refine blk_drew ?_ | refine blk_alloc ?_ _)); exact BK348.out⟩, ⟨by (with_reducible repeat (first | refine blk_drewN ?_ _ | refine blk_drew ?_ | refine blk_alloc ?_ _)); exact BK349.out⟩, ⟨by repeat (first | (with_reducible first | exact HB.out | apply below_alloc | apply pw_below_drewN | apply below_drew1 | refine below_set ?_ GE348.out | refine below_set ?_ GE349.out) | exact HB.out)⟩⟩
            · rw [if_neg c16] at H
              have c16b0 : (x8_1 == a2) = false := beq_eq_false_iff_ne.mpr c16
              have c16b1 : (x8_1 != a2) = true := bne_iff_ne.mpr c16
              by_cases c19 : x7_1.length < 17592186044416
              · rw [if_pos c19] at H
                have LMc19 := Aside0.mk c19
                clear c19
                obtain ⟨y354, hy354⟩ : ∃ y_ : List Int, y_ = (x7_1 ++ [x8_1]) := ⟨_, rfl⟩
                replace H : ((spec_skNext.f l0_0 l1_0 x8_1).bind fun t357 => (spec_skCycle.l0 k1 a2 y354 t357 (wrap64 (x9_1 + 1)) l0_0 l1_0)) = some r := by first | (rw [hy354]; with_reducible exact H) | (have H2_ := (Option.bind_some _ _).symm.trans H; rw [hy354]; with_reducible exact H2_) | (have H2_ := (Option.bind_some _ _).symm.trans H; with_reducible exact H2_) | with_reducible exact H | (rw [hy354]; exact H) | exact H
                have Ny354 := Aside0.mk hy354
                clear hy354
                replace H := Option.bind_eq_some_iff.mp H
                obtain ⟨t357, A200, H⟩ := H
                replace H : (spec_skCycle.l0 k1 a2 y354 t357 (wrap64 (x9_1 + 1)) l0_0 l1_0) = some r := H
                have A20 := Aside0.mk A200
                clear A200
                have H' := Aside0.mk H
                clear H
                have hnb21 := NB348_349.out
                have hnc21 := NB349_348.out
                have hcz22_0 : wr.cell? ⟨gb348, 0, none⟩ = some (.slice A0_0 l0_0.length c0_0) := (blk_cell BK348.out 0).trans rfl
                have hfz22_0 := blk_frozen BK348.out 0
                go_wp2_with (first | ((with_reducible refine gate_builtin (b := .append) (xs := #[.tmp 35, .tmp 37]) rfl ?_); at_builtin; refine Kd.R_append (Kd.int .i64) (w0 := w) w.heap.size rfl (.tmp 35) (.tmp 37) 37 3 (.int .i64 0) 8 rfl Try.underlying37 info3 rfl (by decide) (by omega) u7 x7_1 x8_1 [.int .i64 x8_1] (fun _ => True) (fun _ => False) rfl rfl ?aP (fun _ hk => hk.elim) ?aF ?aO ?aB ?aS ?aL ?_; (case aP => exact rfl); (case aB => exact (by repeat (first | (with_reducible first | exact HB.out | apply below_alloc | apply pw_below_drewN | apply below_drew1 | refine below_set ?_ GE348.out | refine below_set ?_ GE349.out) | exact HB.out))); (case aF => exact (fun _ _ => trivial)); (case aO => exact (by (with_reducible repeat (first | apply Kd.R_alloc | apply Kd.R_drewN | apply Kd.R_drew)); exact HO_7.out)); (case aS => exact (below_size (by repeat (first | (with_reducible first | exact HB.out | apply below_alloc | apply pw_below_drewN | apply below_drew1 | refine below_set ?_ GE348.out | refine below_set ?_ GE349.out) | exact HB.out)))); (case aL => have := LMc19.out; omega); intro v355 w23 ho hb hg hat; rw [← Ny354.out] at ho; have n0_ := Aside0.mk (blk_grown (g := gb348) (o := .cells #[.slice A0_0 l0_0.length c0_0] 30 (0, 0)) (by (with_reducible repeat (first | refine blk_drewN ?_ _ | refine blk_drew ?_ | refine blk_alloc ?_ _)); exact BK348.out) hg (Kd.R_ne HO_7.out BK348.out (by decide))); have n1_ := Aside0.mk (blk_grown (g := gb349) (o := .cells #[.slice A1_0 l1_0.length c1_0] 59 (0, 0)) (by (with_reducible repeat (first | refine blk_drewN ?_ _ | refine blk_drew ?_ | refine blk_alloc ?_ _)); exact BK349.out) hg (Kd.R_ne HO_7.out BK349.out (by decide))); have n2_ := Aside0.mk (hb); have n3_ := Aside0.mk (ho); clear BK348; clear BK349; clear HB; clear HO_7; have BK348 := n0_; have BK349 := n1_; have HB := n2_; have HO356 := n3_; clear n0_ n1_ n2_ n3_; clear ho hb hg hat; have hcz24_0 : w23.cell? ⟨gb348, 0, none⟩ = some (.slice A0_0 l0_0.length c0_0) := (blk_cell BK348.out 0).trans rfl; have hfz24_0 := blk_frozen BK348.out 0; have hcz25_0 : w23.cell? ⟨gb349, 0, none⟩ = some (.slice A1_0 l1_0.length c1_0) := (blk_cell BK349.out 0).trans rfl; have hfz25_0 := blk_frozen BK349.out 0) | ((with_reducible refine gate_callee (f := 129) rfl ?_); refine goesL_ (some 42) rfl rfl Try.func129 (by kernel_rfl) rfl #[.agg #[.slice A0_0 l0_0.length c0_0], .agg #[.slice A1_0 l1_0.length c1_0], .int .i64 x8_1] rfl (by (try simp only [List.map_toArray, List.map_cons, List.map_nil]); first | done | rfl | (simp only [List.length_drop, List.length_take]; rfl)) ?_; (with_reducible refine (spec_skNext.calls _ _ l0_0 _ _ l1_0 x8_1 t357 _ ?side1 ?side2 ?side3 ?side4 A20.out).mono ?_); (case side1 => repeat (first | exact (Kd.C_below HR0_0.out HB.out) | (with_reducible refine Kd.C_alloc ?_ _) | (with_reducible refine Kd.C_drewN ?_ _) | (with_reducible refine Kd.C_drew ?_))); (case side2 => exact HC0_0.out); (case side3 => repeat (first | exact (Kd.C_below HR1_0.out HB.out) | (with_reducible refine Kd.C_alloc ?_ _) | (with_reducible refine Kd.C_drewN ?_ _) | (with_reducible refine Kd.C_drew ?_))); (case side4 => exact HC1_0.out); rintro e w26 ⟨rfl, hb⟩; refine ⟨_, rfl, ?_⟩; have n0_ := Aside0.mk (Kd.R_below (by (with_reducible repeat (first | apply Kd.R_alloc | apply Kd.R_drewN | apply Kd.R_drew)); exact HO356.out) hb); have n1_ := Aside0.mk (blk_below (g := gb348) (o := .cells #[.slice A0_0 l0_0.length c0_0] 30 (0, 0)) (by (with_reducible repeat (first | refine blk_drewN ?_ _ | refine blk_drew ?_ | refine blk_alloc ?_ _)); exact BK348.out) hb); have n2_ := Aside0.mk (blk_below (g := gb349) (o := .cells #[.slice A1_0 l1_0.length c1_0] 59 (0, 0)) (by (with_reducible repeat (first | refine blk_drewN ?_ _ | refine blk_drew ?_ | refine blk_alloc ?_ _)); exact BK349.out) hb); have n3_ := Aside0.mk (below_step (by repeat (first | (with_reducible first | exact HB.out | apply below_alloc | apply pw_below_drewN | apply below_drew1 | refine below_set ?_ GE348.out | refine below_set ?_ GE349.out) | exact HB.out)) hb); clear HO356; clear BK348; clear BK349; clear HB; have HO356 := n0_; have BK348 := n1_; have BK349 := n2_; have HB := n3_; clear n0_ n1_ n2_ n3_; (try clear hb); (try clear hb2); (try clear hk); (try clear hi)))
                go_roundg k1
                case measure => have := HK1.out; omega
                case rel => exact ⟨(y354), (t357), (wrap64 (x9_1 + 1)), (by first | rfl | (simp; done) | (simp [*]; done)), (by first | rfl | (simp; done) | (simp [*]; done)), H', ⟨by have := HK1.out; omega⟩, ⟨by (with_reducible repeat (first | apply Kd.R_alloc | apply Kd.R_drewN | apply Kd.R_drew)); exact HO356.out⟩, ⟨by (with_reducible repeat (first | refine blk_drewN ?_ _ | refine blk_drew ?_ | refine blk_alloc ?_ _)); exact BK348.out⟩, ⟨by (with_reducible repeat (first | refine blk_drewN ?_ _ | refine blk_drew ?_ | refine blk_alloc ?_ _)); exact BK349.out⟩, ⟨by repeat (first | (with_reducible first | exact HB.out | apply below_alloc | apply pw_below_drewN | apply below_drew1 | refine below_set ?_ GE348.out | refine below_set ?_ GE349.out) | exact HB.out)⟩⟩
              · rw [if_neg c19] at H
                exact absurd H (by simp)
          · rw [if_neg c15] at H
            have c15b0 : decide (0 ≤ x8_1) = false := decide_eq_false c15
            clear c15
            have H' := Aside0.mk H
            clear H
            have hnb27 := NB348_349.out
            have hnc27 := NB349_348.out
            have hcz28_0 : wr.cell? ⟨gb348, 0, none⟩ = some (.slice A0_0 l0_0.length c0_0) := (blk_cell BK348.out 0).trans rfl
            have hfz28_0 := blk_frozen BK348.out 0
            go_wp2
            go_meet
            case rel => exact ⟨_, (x7_1), (x8_1), (by first | rfl | (simp; done) | (simp [*]; done)), H', ⟨by have := HK1.out; first | omega | exact Nat.le_refl _⟩, ⟨by (with_reducible repeat (first | apply Kd.R_alloc | apply Kd.R_drewN | apply Kd.R_drew)); exact HO_7.out⟩, ⟨by (with_reducible repeat (first | refine blk_drewN ?_ _ | refine blk_drew ?_ | refine blk_alloc ?_ _)); exact BK348.out⟩, ⟨by (with_reducible repeat (first | refine blk_drewN ?_ _ | refine blk_drew ?_ | refine blk_alloc ?_ _)); exact BK349.out⟩, ⟨by repeat (first | (with_reducible first | exact HB.out | apply below_alloc | apply pw_below_drewN | apply below_drew1 | refine below_set ?_ GE348.out | refine below_set ?_ GE349.out) | exact HB.out)⟩⟩
        · rw [if_neg c14] at H
          have c14b0 : decide (x9_1 < (l0_0.length : Int)) = false := decide_eq_false c14
          clear c14
          (first | rw [c14b0] | (simp only [i64_w, i32_w]; rw [c14b0]) | skip)
          have H' := Aside0.mk H
          clear H
          have hnb29 := NB348_349.out
          have hnc29 := NB349_348.out
          have hcz30_0 : wr.cell? ⟨gb348, 0, none⟩ = some (.slice A0_0 l0_0.length c0_0) := (blk_cell BK348.out 0).trans rfl
          have hfz30_0 := blk_frozen BK348.out 0
          go_wp2
          go_meet
          case rel => exact ⟨_, (x7_1), (x8_1), (by first | rfl | (simp; done) | (simp [*]; done)), H', ⟨by have := HK1.out; first | omega | exact Nat.le_refl _⟩, ⟨by (with_reducible repeat (first | apply Kd.R_alloc | apply Kd.R_drewN | apply Kd.R_drew)); exact HO_7.out⟩, ⟨by (with_reducible repeat (first | refine blk_drewN ?_ _ | refine blk_drew ?_ | refine blk_alloc ?_ _)); exact BK348.out⟩, ⟨by (with_reducible repeat (first | refine blk_drewN ?_ _ | refine blk_drew ?_ | refine blk_alloc ?_ _)); exact BK349.out⟩, ⟨by repeat (first | (with_reducible first | exact HB.out | apply below_alloc | apply pw_below_drewN | apply below_drew1 | refine below_set ?_ GE348.out | refine below_set ?_ GE349.out) | exact HB.out)⟩⟩
  case rest =>
    clear HC5
    try clear c1
    try clear c2
    try clear p2
    try clear p6
    try clear c10
    try clear c12
    try clear c14
    try clear c14b0
    try clear c15
    try clear c15b0
    try clear c16
    try clear c16b0
    try clear c16b1
    try clear c17
    try clear c19
    try clear c21
    try clear c27
    try clear c29
    try clear hcz11_0
    try clear hcz12_0
    try clear hcz18_0
    try clear hcz22_0
    try clear hcz24_0
    try clear hcz25_0
    try clear hcz28_0
    try clear hcz30_0
    try clear hfz11_0
    try clear hfz12_0
    try clear hfz18_0
    try clear hfz22_0
    try clear hfz24_0
    try clear hfz25_0
    try clear hfz28_0
    try clear hfz30_0
    try clear p2
    obtain ⟨kq, x7_4, x8_4, rfl, HA, HJ4, HO_7, BK348, BK349, HB⟩ := hcut
    cases kq with
    | zero => exact absurd HA.out (by simp [spec_skCycle.j1])
    | succ kj4 =>
      have H := HA.out
      clear HA
      simp only [spec_skCycle.j1] at H
      by_cases c31 : x8_4 = a2
      · rw [if_pos c31] at H
        have c31b0 : (x8_4 == a2) = true := beq_iff_eq.mpr c31
        have c31b1 : (x8_4 != a2) = false := bne_eq_false_iff_eq.mpr c31
        clear c31
        have H' := Aside0.mk H
        clear H
        obtain ⟨Ao32, co32, eo32⟩ := Kd.R_slice HO_7.out
        subst eo32
        go_wp2
        go_loopg [10, 48] kj4 (fun kq v10 v48 w' => ∃ (x10_2 : Int) (x48_2 : Int), v10 = .int .i64 x10_2 ∧ v48 = .int .i64 x48_2 ∧ Aside0 (spec_skCycle.l1 kq x7_4 x10_2 x7_4 (x7_4.length : Int) x48_2 = some r) ∧ Aside0 (kq ≤ kj4) ∧ Aside0 (Kd.R (Kd.int .i64) 3 w' w.heap.size (fun _ => True) (.slice Ao32 x7_4.length co32) x7_4) ∧ Aside0 (Kd.R (Kd.int .i64) 3 w' w.heap.size (fun _ => True) (.slice Ao32 x7_4.length co32) x7_4) ∧ Aside0 (w'.heap[gb348]? = some (.cells #[(.slice A0_0 l0_0.length c0_0)] 30 (0, 0))) ∧ Aside0 (w'.heap[gb349]? = some (.cells #[(.slice A1_0 l1_0.length c1_0)] 59 (0, 0))) ∧ Aside0 (Below w.heap.size w w'))
        case atStart => exact ⟨(0), (0), (by first | rfl | (simp; done) | (simp [*]; done)), (by first | rfl | (simp; done) | (simp [*]; done)), H', ⟨Nat.le_refl _⟩, ⟨by (with_reducible repeat (first | apply Kd.R_alloc | apply Kd.R_drewN | apply Kd.R_drew)); exact HO_7.out⟩, ⟨by (with_reducible repeat (first | apply Kd.R_alloc | apply Kd.R_drewN | apply Kd.R_drew)); exact HO_7.out⟩, ⟨by (with_reducible repeat (first | refine blk_drewN ?_ _ | refine blk_drew ?_ | refine blk_alloc ?_ _)); exact BK348.out⟩, ⟨by (with_reducible repeat (first | refine blk_drewN ?_ _ | refine blk_drew ?_ | refine blk_alloc ?_ _)); exact BK349.out⟩, ⟨by repeat (first | (with_reducible first | exact HB.out | apply below_alloc | apply pw_below_drewN | apply below_drew1 | refine below_set ?_ GE348.out | refine below_set ?_ GE349.out) | exact HB.out)⟩⟩
        case round =>
          clear H'
          try clear c1
          try clear c2
          try clear p2
          try clear c3
          try clear p6
          try clear c10
          try clear c12
          try clear c14
          try clear c14b0
          try clear c15
          try clear c15b0
          try clear c16
          try clear c16b0
          try clear c16b1
          try clear c17
          try clear c19
          try clear c21
          try clear c27
          try clear c29
          try clear c31
          try clear c31b0
          try clear c31b1
          try clear hcz11_0
          try clear hcz12_0
          try clear hcz18_0
          try clear hcz22_0
          try clear hcz24_0
          try clear hcz25_0
          try clear hcz28_0
          try clear hcz30_0
          try clear hfz11_0
          try clear hfz12_0
          try clear hfz18_0
          try clear hfz22_0
          try clear hfz24_0
          try clear hfz25_0
          try clear hfz28_0
          try clear hfz30_0
          try clear p2
          try clear p6
          obtain ⟨x10_2, x48_2, rfl, rfl, HA, HK2, HO_7, HO_46, BK348, BK349, HB⟩ := hrel
          cases gk with
          | zero => exact absurd HA.out (by simp [spec_skCycle.l1])
          | succ k2 =>
            have H := HA.out
            clear HA
            simp only [spec_skCycle.l1] at H
            by_cases c33 : x48_2 < (x7_4.length : Int)
            · rw [if_pos c33] at H
              have c33b0 : decide (x48_2 < (x7_4.length : Int)) = true := decide_eq_true c33
              clear c33
              by_cases c34 : 0 ≤ x48_2
              · rw [if_pos c34] at H
                have c34b0 : decide (0 ≤ x48_2) = true := decide_eq_true c34
                clear c34
                by_cases c35 : x48_2 < (x7_4.length : Int)
                · rw [if_pos c35] at H
                  have c35b0 : decide (x48_2 < (x7_4.length : Int)) = true := decide_eq_true c35
                  clear c35
                  by_cases c36 : 0 ≤ x10_2
                  · rw [if_pos c36] at H
                    have c36b0 : decide (0 ≤ x10_2) = true := decide_eq_true c36
                    clear c36
                    by_cases c37 : x10_2 < (x7_4.length : Int)
                    · rw [if_pos c37] at H
                      have c37b0 : decide (x10_2 < (x7_4.length : Int)) = true := decide_eq_true c37
                      clear c37
                      by_cases c38 : (rd x7_4 x48_2) < (rd x7_4 x10_2)
                      · rw [if_pos c38] at H
                        have c38b0 : decide ((rd x7_4 x48_2) < (rd x7_4 x10_2)) = true := decide_eq_true c38
                        clear c38
                        have H' := Aside0.mk H
                        clear H
                        have p358 : 0 ≤ (x48_2 : Int) := of_decide_eq_true (by first | (with_reducible assumption) | assumption)
                        have q358 : x48_2 < (x7_4.length : Int) := of_decide_eq_true (by first | (with_reducible assumption) | assumption)
                        obtain ⟨ad358, e358, hx358_0⟩ := Kd.at_int (Kd.R_reads' HO_46.out).2.2 x48_2 p358 q358
                        cases e358
                        replace p358 := eq_true p358
                        replace q358 := eq_true q358
                        have p359 : 0 ≤ (x10_2 : Int) := of_decide_eq_true (by first | (with_reducible assumption) | assumption)
                        have q359 : x10_2 < (x7_4.length : Int) := of_decide_eq_true (by first | (with_reducible assumption) | assumption)
                        obtain ⟨ad359, e359, hx359_0⟩ := Kd.at_int (Kd.R_reads' HO_7.out).2.2 x10_2 p359 q359
                        obtain rfl : ad358 = ad359 := (by injection e359)
                        replace p359 := eq_true p359
                        replace q359 := eq_true q359
                        go_wp2
                        go_roundg k2
                        case measure => have := HJ4.out; have := HK2.out; omega
                        case rel => exact ⟨(x48_2), (wrap64 (x48_2 + 1)), (by first | rfl | (simp; done) | (simp [*]; done)), (by first | rfl | (simp; done) | (simp [*]; done)), H', ⟨by have := HJ4.out; have := HK2.out; omega⟩, ⟨by (with_reducible repeat (first | apply Kd.R_alloc | apply Kd.R_drewN | apply Kd.R_drew)); exact HO_7.out⟩, ⟨by (with_reducible repeat (first | apply Kd.R_alloc | apply Kd.R_drewN | apply Kd.R_drew)); exact HO_46.out⟩, ⟨by (with_reducible repeat (first | refine blk_drewN ?_ _ | refine blk_drew ?_ | refine blk_alloc ?_ _)); exact BK348.out⟩, ⟨by (with_reducible repeat (first | refine blk_drewN ?_ _ | refine blk_drew ?_ | refine blk_alloc ?_ _)); exact BK349.out⟩, ⟨by repeat (first | (with_reducible first | exact HB.out | apply below_alloc | apply pw_below_drewN | apply below_drew1 | refine below_set ?_ GE348.out | refine below_set ?_ GE349.out) | exact HB.out)⟩⟩
                      · rw [if_neg c38] at H
                        have c38b0 : decide ((rd x7_4 x48_2) < (rd x7_4 x10_2)) = false := decide_eq_false c38
                        clear c38
                        have H' := Aside0.mk H
                        clear H
                        have p358 : 0 ≤ (x48_2 : Int) := of_decide_eq_true (by first | (with_reducible assumption) | assumption)
                        have q358 : x48_2 < (x7_4.length : Int) := of_decide_eq_true (by first | (with_reducible assumption) | assumption)
                        obtain ⟨ad358, e358, hx358_0⟩ := Kd.at_int (Kd.R_reads' HO_46.out).2.2 x48_2 p358 q358
                        cases e358
                        replace p358 := eq_true p358
                        replace q358 := eq_true q358
                        have p359 : 0 ≤ (x10_2 : Int) := of_decide_eq_true (by first | (with_reducible assumption) | assumption)
                        have q359 : x10_2 < (x7_4.length : Int) := of_decide_eq_true (by first | (with_reducible assumption) | assumption)
                        obtain ⟨ad359, e359, hx359_0⟩ := Kd.at_int (Kd.R_reads' HO_7.out).2.2 x10_2 p359 q359
                        obtain rfl : ad358 = ad359 := (by injection e359)
                        replace p359 := eq_true p359
                        replace q359 := eq_true q359
                        go_wp2
                        go_roundg k2
                        case measure => have := HJ4.out; have := HK2.out; omega
                        case rel => exact ⟨(x10_2), (wrap64 (x48_2 + 1)), (by first | rfl | (simp; done) | (simp [*]; done)), (by first | rfl | (simp; done) | (simp [*]; done)), H', ⟨by have := HJ4.out; have := HK2.out; omega⟩, ⟨by (with_reducible repeat (first | apply Kd.R_alloc | apply Kd.R_drewN | apply Kd.R_drew)); exact HO_7.out⟩, ⟨by (with_reducible repeat (first | apply Kd.R_alloc | apply Kd.R_drewN | apply Kd.R_drew)); exact HO_46.out⟩, ⟨by (with_reducible repeat (first | refine blk_drewN ?_ _ | refine blk_drew ?_ | refine blk_alloc ?_ _)); exact BK348.out⟩, ⟨by (with_reducible repeat (first | refine blk_drewN ?_ _ | refine blk_drew ?_ | refine blk_alloc ?_ _)); exact BK349.out⟩, ⟨by repeat (first | (with_reducible first | exact HB.out | apply below_alloc | apply pw_below_drewN | apply below_drew1 | refine below_set ?_ GE348.out | refine below_set ?_ GE349.out) | exact HB.out)⟩⟩
                    · rw [if_neg c37] at H
                      exact absurd H (by simp)
                  · rw [if_neg c36] at H
                    exact absurd H (by simp)
                · rw [if_neg c35] at H
                  exact absurd H (by simp)
              · rw [if_neg c34] at H
                exact absurd H (by simp)
            · rw [if_neg c33] at H
              have c33b0 : decide (x48_2 < (x7_4.length : Int)) = false := decide_eq_false c33
              clear c33
              by_cases c39 : 0 ≤ x10_2
              · rw [if_pos c39] at H
                have c39b0 := eq_true c39
                have c39b1 : decide (0 ≤ x10_2) = true := decide_eq_true c39
                clear c39
                by_cases c40 : x10_2 ≤ (x7_4.length : Int)
                · rw [if_pos c40] at H
                  have c40b0 := eq_true c40
                  have c40b1 : decide (x10_2 ≤ (x7_4.length : Int)) = true := decide_eq_true c40
                  clear c40
                  obtain ⟨y360, hy360⟩ : ∃ y_ : List Int, y_ = (x7_4.drop (x10_2 : Int).toNat) := ⟨_, rfl⟩
                  replace H : ((spec_l1Own.f y360).bind fun t364 => ((some (x7_4.take (x10_2 : Int).toNat : List Int)).bind fun y367 => (if t364.length + y367.length < 17592186044416 then (some (t364 ++ y367)) else (none)))) = some r := by first | (rw [hy360]; with_reducible exact H) | (have H2_ := (Option.bind_some _ _).symm.trans H; rw [hy360]; with_reducible exact H2_) | (have H2_ := (Option.bind_some _ _).symm.trans H; with_reducible exact H2_) | with_reducible exact H | (rw [hy360]; exact H) | exact H
                  have Ny360 := Aside0.mk hy360
                  clear hy360
                  replace H := Option.bind_eq_some_iff.mp H
                  obtain ⟨t364, A410, H⟩ := H
                  replace H : ((some (x7_4.take (x10_2 : Int).toNat : List Int)).bind fun y367 => (if t364.length + y367.length < 17592186044416 then (some (t364 ++ y367)) else (none))) = some r := H
                  have A41 := Aside0.mk A410
                  clear A410
                  have c42b0 := eq_true (of_decide_eq_true (by first | (with_reducible assumption) | assumption) : 0 ≤ x10_2)
                  have c43b0 := eq_true (of_decide_eq_true (by first | (with_reducible assumption) | assumption) : x10_2 ≤ (x7_4.length : Int))
                  obtain ⟨y367, hy367⟩ : ∃ y_ : List Int, y_ = (x7_4.take (x10_2 : Int).toNat) := ⟨_, rfl⟩
                  replace H : (if t364.length + y367.length < 17592186044416 then (some (t364 ++ y367)) else (none)) = some r := by first | (rw [hy367]; with_reducible exact H) | (have H2_ := (Option.bind_some _ _).symm.trans H; rw [hy367]; with_reducible exact H2_) | (have H2_ := (Option.bind_some _ _).symm.trans H; with_reducible exact H2_) | with_reducible exact H | (rw [hy367]; exact H) | exact H
                  have Ny367 := Aside0.mk hy367
                  clear hy367
                  by_cases c44 : t364.length + y367.length < 17592186044416
                  · rw [if_pos c44] at H
                    have LMc44 := Aside0.mk c44
                    clear c44
                    obtain ⟨y371, hy371⟩ : ∃ y_ : List Int, y_ = (t364 ++ y367) := ⟨_, rfl⟩
                    replace H : (some y371) = some r := by first | (rw [hy371]; with_reducible exact H) | (have H2_ := (Option.bind_some _ _).symm.trans H; rw [hy371]; with_reducible exact H2_) | (have H2_ := (Option.bind_some _ _).symm.trans H; with_reducible exact H2_) | with_reducible exact H | (rw [hy371]; exact H) | exact H
                    have Ny371 := Aside0.mk hy371
                    clear hy371
                    obtain rfl := Option.some.inj H
                    try go_wp2
                    have n0_ := Aside0.mk (Kd.R_drew HO_7.out)
                    have n1_ := Aside0.mk (Kd.R_drew HO_46.out)
                    have n2_ := Aside0.mk (blk_drew BK348.out)
                    have n3_ := Aside0.mk (blk_drew BK349.out)
                    have n4_ := Aside0.mk (below_drew1 HB.out)
                    clear HO_7
                    clear HO_46
                    clear BK348
                    clear BK349
                    clear HB
                    have HO_7 := n0_
                    have HO_46 := n1_
                    have BK348 := n2_
                    have BK349 := n3_
                    have HB := n4_
                    clear n0_ n1_ n2_ n3_ n4_
                    have q46 : (x10_2 : Int) ≤ ((x7_4.length : Int) : Int) := of_decide_eq_true (by first | (with_reducible assumption) | assumption)
                    obtain ⟨i046, hi046, _, hsz46, _⟩ := info_parts info3
                    have hroom46 : x7_4.length ≤ co32 := (Kd.R_reads' HO_7.out).2.1
                    have hC46 : Kd.C (Kd.int .i64) _ Ao32 x7_4.length x7_4 := (Kd.R_reads' HO_7.out).2.2
                    have q046 : (0 : Int) ≤ (x10_2 : Int) := of_decide_eq_true (by first | (with_reducible assumption) | assumption)
                    have hcut46 := cut_from (P := Try.prog) 37 3 .i64 Try.underlying37 hi046 1 hsz46 Ao32 x7_4.length co32 x10_2 q046 q46
                    have hr46 := Kd.C_drop (m := (x10_2 : Int).toNat) (c := co32) hC46 (by omega) hroom46
                    obtain ⟨A46, hA46⟩ : ∃ A1, A1 = (if co32 = (x10_2 : Int).toNat then Ao32 else (Ao32 : Option Addr).map (·.add ((x10_2 : Int).toNat * 1))) := ⟨_, rfl⟩
                    obtain ⟨c46, hc46⟩ : ∃ c1, c1 = co32 - (x10_2 : Int).toNat := ⟨_, rfl⟩
                    have hy46 : y360.length = x7_4.length - (x10_2 : Int).toNat := (by rw [Ny360.out, List.length_drop] <;> omega)
                    rw [show (x7_4).drop (x10_2 : Int).toNat = y360 from Ny360.out.symm] at hr46
                    replace hr46 : Kd.C (Kd.int .i64) _ A46 y360.length y360 := (by rw [hA46]; exact hr46)
                    rw [← hy46, ← hA46, ← hc46] at hcut46
                    have HR363 := Aside0.mk hr46
                    have HC363 := Aside0.mk (show y360.length ≤ c46 from by rw [hy46, hc46]; exact Nat.sub_le_sub_right hroom46 _)
                    clear hr46 hC46 hroom46 hi046 hsz46 hc46
                    have KY46 := Aside0.mk hy46
                    have KA46 := Aside0.mk hA46
                    clear hy46 hA46
                    have KL46 := Aside0.mk (show (x10_2 : Int).toNat ≤ x7_4.length from by omega)
                    replace q46 := eq_true q46
                    have q47 : (x10_2 : Int) ≤ ((x7_4.length : Int) : Int) := of_decide_eq_true (by first | (with_reducible assumption) | assumption)
                    obtain ⟨i047, hi047, _, hsz47, _⟩ := info_parts info3
                    have hroom47 : x7_4.length ≤ co32 := (Kd.R_reads' HO_7.out).2.1
                    have hC47 : Kd.C (Kd.int .i64) _ Ao32 x7_4.length x7_4 := (Kd.R_reads' HO_7.out).2.2
                    have hcut47 := cut_to (P := Try.prog) 37 3 .i64 Try.underlying37 hi047 Ao32 x7_4.length co32 x10_2 (of_decide_eq_true (by first | (with_reducible assumption) | assumption)) q47 hroom47
                    have hr47 := Kd.C_take (m := (x10_2 : Int).toNat) hC47 (by omega)
                    have hy47 : y367.length = (x10_2 : Int).toNat := (by rw [Ny367.out, List.length_take]; omega)
                    rw [← Ny367.out] at hr47
                    rw [← hy47] at hcut47
                    have HR370 := Aside0.mk hr47
                    have HC370 := Aside0.mk (show y367.length ≤ co32 from by omega)
                    clear hr47 hC47 hroom47 hi047 hsz47
                    have KY47 := Aside0.mk hy47
                    clear hy47
                    have KL47 := Aside0.mk (show (x10_2 : Int).toNat ≤ x7_4.length from by omega)
                    replace q47 := eq_true q47
                    refine start_ (n := 9) (S := fun w' => True) (ds := []) #[false, false, false, false, false, false, false, false, false] (by kernel_rfl) rfl rfl trivial (fun hHeld => ?_); refine with_tabW spec_skCycle.tab17 spec_skCycle.bits17 (fun HT_ HW_ => ?_)
                    generalize wr.drew = w45 at HO_7 HO_46 BK348 BK349 HB HR363 HR370 hHeld ⊢
                    refine pure_ (i := 0) (N := some 61) (v := ?_) (a' := ?_) #[true, false, false, false, false, false, false, false, false] rfl rfl (any_of HT_.out (by kernel_rfl)) (fun _ _ _ h => h) (Or.inl ⟨by rfl, ?_⟩) ?_ ?_
                    rotate_left
                    · intro w'
                      go_simp
                      with_reducible rfl
                    rotate_left
                    · simp only [Act.put, List.setIfInBounds_toArray, List.set_cons_zero, List.set_cons_succ, i64_w, i32_w]
                      rfl
                    refine pure_ (i := 1) (N := some 62) (v := ?_) (a' := ?_) #[true, true, false, false, false, false, false, false, false] rfl rfl (any_of HT_.out (by kernel_rfl)) (fun _ _ _ h => h) (Or.inl ⟨by rfl, ?_⟩) ?_ ?_
                    rotate_left
                    · intro w'
                      go_simp
                      with_reducible rfl
                    rotate_left
                    · simp only [Act.put, List.setIfInBounds_toArray, List.set_cons_zero, List.set_cons_succ, i64_w, i32_w]
                      rfl
                    refine pure_ (i := 2) (N := some 63) (v := ?_) (a' := ?_) #[true, true, true, false, false, false, false, false, false] rfl rfl (any_of HT_.out (by kernel_rfl)) (fun _ _ _ h => h) (Or.inl ⟨by rfl, ?_⟩) ?_ ?_
                    rotate_left
                    · intro w'
                      go_simp
                      with_reducible rfl
                    rotate_left
                    · simp only [Act.put, List.setIfInBounds_toArray, List.set_cons_zero, List.set_cons_succ, i64_w, i32_w]
                      rfl
                    refine pure_ (i := 4) (N := some 65) (v := ?_) (a' := ?_) #[true, true, true, false, true, false, false, false, false] rfl rfl (any_of HT_.out (by kernel_rfl)) (fun _ _ _ h => h) (Or.inl ⟨by rfl, ?_⟩) ?_ ?_
                    rotate_left
                    · intro w'
                      go_simp
                      with_reducible rfl
                    rotate_left
                    · simp only [Act.put, List.setIfInBounds_toArray, List.set_cons_zero, List.set_cons_succ, i64_w, i32_w]
                      rfl
                    refine pure_ (i := 5) (N := some 66) (v := ?_) (a' := ?_) #[true, true, true, false, true, true, false, false, false] rfl rfl (any_of HT_.out (by kernel_rfl)) (fun _ _ _ h => h) (Or.inl ⟨by rfl, ?_⟩) ?_ ?_
                    rotate_left
                    · intro w'
                      go_simp
                      with_reducible rfl
                    rotate_left
                    · simp only [Act.put, List.setIfInBounds_toArray, List.set_cons_zero, List.set_cons_succ, i64_w, i32_w]
                      rfl
                    refine pure_ (i := 6) (N := some 67) (v := ?_) (a' := ?_) #[true, true, true, false, true, true, true, false, false] rfl rfl (any_of HT_.out (by kernel_rfl)) (fun _ _ _ h => h) (Or.inl ⟨by rfl, ?_⟩) ?_ ?_
                    rotate_left
                    · intro w'
                      go_simp
                      with_reducible rfl
                    rotate_left
                    · simp only [Act.put, List.setIfInBounds_toArray, List.set_cons_zero, List.set_cons_succ, i64_w, i32_w]
                      rfl
                    refine one_ (i := 3) (N := some 64) #[true, true, true, true, true, true, true, false, false] rfl rfl (one_of HT_.out (by kernel_rfl)) (by decide) (fun K hK => ?_)
                    refine goes_ Try.func113 (by kernel_rfl) rfl #[.slice A46 y360.length c46] (by rfl) rfl rfl (by (try simp only [List.map_toArray, List.map_cons, List.map_nil]); first | done | rfl | (simp only [List.length_drop, List.length_take]; rfl)) ?_
                    with_reducible refine (spec_l1Own.calls _ _ y360 t364 _ ?side1 ?side2 A41.out).mono ?_
                    (case side1 => repeat (first | exact (by repeat (first | (with_reducible exact HR363.out) | (with_reducible refine Kd.C_alloc ?_ _) | (with_reducible refine Kd.C_drewN ?_ _) | (with_reducible refine Kd.C_drew ?_) | exact HR363.out)) | (with_reducible refine Kd.C_alloc ?_ _) | (with_reducible refine Kd.C_drewN ?_ _) | (with_reducible refine Kd.C_drew ?_)))
                    (case side2 => exact HC363.out)
                    rintro e w48 ⟨v365, rfl, ho0, hb⟩
                    refine ⟨_, rfl, ?_⟩
                    have n0_ := Aside0.mk (Kd.R_elder' (by (with_reducible repeat (first | apply Kd.R_alloc | apply Kd.R_drewN | apply Kd.R_drew)); exact HO_7.out) (Kd.R_base ho0) hb)
                    have n1_ := Aside0.mk (Kd.R_elder' (by (with_reducible repeat (first | apply Kd.R_alloc | apply Kd.R_drewN | apply Kd.R_drew)); exact HO_46.out) (Kd.R_base ho0) hb)
                    have n2_ := Aside0.mk (Kd.R_lower (Kd.R_new' (Kd.R_new' ho0 (Kd.R_lt (by (with_reducible repeat (first | apply Kd.R_alloc | apply Kd.R_drewN | apply Kd.R_drew)); exact HO_7.out))) (Kd.R_lt (by (with_reducible repeat (first | apply Kd.R_alloc | apply Kd.R_drewN | apply Kd.R_drew)); exact HO_46.out))) (below_size (by repeat (first | (with_reducible first | exact HB.out | apply below_alloc | apply pw_below_drewN | apply below_drew1 | refine below_set ?_ GE348.out | refine below_set ?_ GE349.out) | exact HB.out))))
                    have n3_ := Aside0.mk (blk_below (g := gb348) (o := .cells #[.slice A0_0 l0_0.length c0_0] 30 (0, 0)) (by (with_reducible repeat (first | refine blk_drewN ?_ _ | refine blk_drew ?_ | refine blk_alloc ?_ _)); exact BK348.out) hb)
                    have n4_ := Aside0.mk (blk_below (g := gb349) (o := .cells #[.slice A1_0 l1_0.length c1_0] 59 (0, 0)) (by (with_reducible repeat (first | refine blk_drewN ?_ _ | refine blk_drew ?_ | refine blk_alloc ?_ _)); exact BK349.out) hb)
                    have n5_ := Aside0.mk (Kd.C_below (by repeat (first | (with_reducible exact HR363.out) | (with_reducible refine Kd.C_alloc ?_ _) | (with_reducible refine Kd.C_drewN ?_ _) | (with_reducible refine Kd.C_drew ?_) | exact HR363.out)) hb)
                    have n6_ := Aside0.mk (Kd.C_below (by repeat (first | (with_reducible exact HR370.out) | (with_reducible refine Kd.C_alloc ?_ _) | (with_reducible refine Kd.C_drewN ?_ _) | (with_reducible refine Kd.C_drew ?_) | exact HR370.out)) hb)
                    have n7_ := Aside0.mk (below_step (by repeat (first | (with_reducible first | exact HB.out | apply below_alloc | apply pw_below_drewN | apply below_drew1 | refine below_set ?_ GE348.out | refine below_set ?_ GE349.out) | exact HB.out)) hb)
                    clear HO_7
                    clear HO_46
                    clear BK348
                    clear BK349
                    clear HR363
                    clear HR370
                    clear HB
                    have HO_7 := n0_
                    have HO_46 := n1_
                    have HO366 := n2_
                    have BK348 := n3_
                    have BK349 := n4_
                    have HR363 := n5_
                    have HR370 := n6_
                    have HB := n7_
                    clear n0_ n1_ n2_ n3_ n4_ n5_ n6_ n7_
                    (try clear hb)
                    (try clear hb2)
                    (try clear hk)
                    (try clear hi)
                    (try clear ho0)
                    refine hK.out _ _ trivial (fun hHeld => ?_)
                    clear hK K
                    refine norm_ (a' := ?_) ?_ ?_
                    rotate_left
                    · show Act.put _ (some 64) _ = _
                      simp only [Act.put, List.setIfInBounds_toArray, List.set_cons_zero, List.set_cons_succ, i64_w, i32_w]
                      rfl
                    refine one_ (i := 7) (N := some 68) #[true, true, true, true, true, true, true, true, false] rfl rfl (one_of HT_.out (by kernel_rfl)) (by decide) (fun K hK => ?_)
                    refine Kd.R_append_rows_step (Kd.int .i64) (w0 := w) w.heap.size (by rfl) (.tmp 64) (.tmp 67) 37 3 (.int .i64 0) 8 rfl Try.underlying37 info3 rfl (by decide) (by omega) v365 t364 y367 _ _ _ (fun k_ => some k_ ≠ (.slice Ao32 x7_4.length co32 : Value).ownBlock ∧ some k_ ≠ (.slice Ao32 x7_4.length co32 : Value).ownBlock) (fun _ => False) rfl rfl ?aO ?aR (fun _ _ h => h) (fun _ h => h.elim) ?aF ?aB ?aS ?aL ?_
                    (case aR => repeat (first | exact (by repeat (first | (with_reducible exact HR370.out) | (with_reducible refine Kd.C_alloc ?_ _) | (with_reducible refine Kd.C_drewN ?_ _) | (with_reducible refine Kd.C_drew ?_) | exact HR370.out)) | (with_reducible refine Kd.C_alloc ?_ _) | (with_reducible refine Kd.C_drewN ?_ _) | (with_reducible refine Kd.C_drew ?_)))
                    (case aB => exact (by repeat (first | (with_reducible first | exact HB.out | apply below_alloc | apply pw_below_drewN | apply below_drew1 | refine below_set ?_ GE348.out | refine below_set ?_ GE349.out) | exact HB.out)))
                    (case aF => exact (fun k_ hk => ⟨Kd.fresh' (Kd.R_lt (by (with_reducible repeat (first | apply Kd.R_alloc | apply Kd.R_drewN | apply Kd.R_drew)); exact HO_7.out)) k_ hk, Kd.fresh' (Kd.R_lt (by (with_reducible repeat (first | apply Kd.R_alloc | apply Kd.R_drewN | apply Kd.R_drew)); exact HO_46.out)) k_ hk⟩))
                    (case aO => exact (by (with_reducible repeat (first | apply Kd.R_alloc | apply Kd.R_drewN | apply Kd.R_drew)); exact Kd.R_mono HO366.out (fun _ hk => ⟨hk.1.2, hk.2⟩)))
                    (case aS => exact (below_size (by repeat (first | (with_reducible first | exact HB.out | apply below_alloc | apply pw_below_drewN | apply below_drew1 | refine below_set ?_ GE348.out | refine below_set ?_ GE349.out) | exact HB.out))))
                    (case aL => have := LMc44.out; omega)
                    intro v372 w49 ho hb hg hat
                    rw [← Ny371.out] at ho
                    have n0_ := Aside0.mk (Kd.R_after (ok := (fun _ => True)) (by (with_reducible repeat (first | apply Kd.R_alloc | apply Kd.R_drewN | apply Kd.R_drew)); exact HO_7.out) hg hat)
                    have n1_ := Aside0.mk (Kd.R_after (ok := (fun _ => True)) (by (with_reducible repeat (first | apply Kd.R_alloc | apply Kd.R_drewN | apply Kd.R_drew)); exact HO_46.out) hg hat)
                    have n2_ := Aside0.mk (blk_grown (g := gb348) (o := .cells #[.slice A0_0 l0_0.length c0_0] 30 (0, 0)) (by (with_reducible repeat (first | refine blk_drewN ?_ _ | refine blk_drew ?_ | refine blk_alloc ?_ _)); exact BK348.out) hg (Kd.R_ne HO366.out BK348.out (by decide)))
                    have n3_ := Aside0.mk (blk_grown (g := gb349) (o := .cells #[.slice A1_0 l1_0.length c1_0] 59 (0, 0)) (by (with_reducible repeat (first | refine blk_drewN ?_ _ | refine blk_drew ?_ | refine blk_alloc ?_ _)); exact BK349.out) hg (Kd.R_ne HO366.out BK349.out (by decide)))
                    have n4_ := Aside0.mk (hb)
                    have n5_ := Aside0.mk ((show Kd.C (Kd.int .i64) w49 A46 y360.length y360 from by rw [Ny360.out, KA46.out]; exact Kd.C_drop (m := (x10_2 : Int).toNat) (c := co32) ((Kd.R_reads' (Kd.R_after (ok := (fun _ => True)) (by (with_reducible repeat (first | apply Kd.R_alloc | apply Kd.R_drewN | apply Kd.R_drew)); exact HO_7.out) hg hat)).2.2) KL46.out ((Kd.R_reads' (Kd.R_after (ok := (fun _ => True)) (by (with_reducible repeat (first | apply Kd.R_alloc | apply Kd.R_drewN | apply Kd.R_drew)); exact HO_7.out) hg hat)).2.1)))
                    have n6_ := Aside0.mk ((show Kd.C (Kd.int .i64) w49 Ao32 y367.length y367 from by rw [Ny367.out]; exact Kd.C_take (m := (x10_2 : Int).toNat) ((Kd.R_reads' (Kd.R_after (ok := (fun _ => True)) (by (with_reducible repeat (first | apply Kd.R_alloc | apply Kd.R_drewN | apply Kd.R_drew)); exact HO_7.out) hg hat)).2.2) KL47.out))
                    have n7_ := Aside0.mk (ho)
                    clear HO_7
                    clear HO_46
                    clear BK348
                    clear BK349
                    clear HB
                    clear HR363
                    clear HR370
                    clear HO366
                    have HO_7 := n0_
                    have HO_46 := n1_
                    have BK348 := n2_
                    have BK349 := n3_
                    have HB := n4_
                    have HR363 := n5_
                    have HR370 := n6_
                    have HO373 := n7_
                    clear n0_ n1_ n2_ n3_ n4_ n5_ n6_ n7_
                    clear ho hb hg hat
                    refine hK.out _ _ trivial (fun hHeld => ?_)
                    clear hK K
                    refine norm_ (a' := ?_) ?_ ?_
                    rotate_left
                    · show Act.put _ (some 68) _ = _
                      simp only [Act.put, List.setIfInBounds_toArray, List.set_cons_zero, List.set_cons_succ, i64_w, i32_w]
                      rfl
                    refine pure_ (i := 8) (N := some 6) (v := ?_) (a' := ?_) #[true, true, true, true, true, true, true, true, true] rfl rfl (any_of HT_.out (by kernel_rfl)) (fun _ _ _ h => h) (Or.inl ⟨by rfl, ?_⟩) ?_ ?_
                    rotate_left
                    · intro w'
                      go_simp
                      with_reducible rfl
                    rotate_left
                    · simp only [Act.put, List.setIfInBounds_toArray, List.set_cons_zero, List.set_cons_succ, i64_w, i32_w]
                      rfl
                    refine done_ (done_of HT_.out (by kernel_rfl)) ?_
                    try go_wp2
                    go_ret
                    exact ⟨_, by first | rfl | (simp [errW_none, errW_some] <;> rfl) | (simp [*, errW_none, errW_some] <;> rfl), by (with_reducible repeat (first | apply Kd.R_alloc | apply Kd.R_drewN | apply Kd.R_drew)); exact Kd.R_mono HO373.out (fun _ hk => trivial), by repeat (first | (with_reducible first | exact HB.out | apply below_alloc | apply pw_below_drewN | apply below_drew1 | refine below_set ?_ GE348.out | refine below_set ?_ GE349.out) | exact HB.out)⟩
                  · rw [if_neg c44] at H
                    exact absurd H (by simp)
                · rw [if_neg c40] at H
                  exact absurd H (by simp)
              · rw [if_neg c39] at H
                exact absurd H (by simp)
      · rw [if_neg c31] at H
        have c31b0 : (x8_4 == a2) = false := beq_eq_false_iff_ne.mpr c31
        have c31b1 : (x8_4 != a2) = true := bne_iff_ne.mpr c31
        obtain rfl := Option.some.inj H
        go_wp2
        go_ret
        exact ⟨_, by first | rfl | (simp [errW_none, errW_some] <;> rfl) | (simp [*, errW_none, errW_some] <;> rfl), by first | exact Kd.R_nil _ _ _ _ _ | exact Kd.N_nil _ _ _ _ _ | exact Kd.V_nil _ _ _ _ _ | exact Kd.Q_nil _ _ _ _ _ | exact Kd.S_nil _ _ _ _ _, by repeat (first | (with_reducible first | exact HB.out | apply below_alloc | apply pw_below_drewN | apply below_drew1 | refine below_set ?_ GE348.out | refine below_set ?_ GE349.out) | exact HB.out)⟩
def spec_skCycles.l0 : Nat → List (List Int) → Int → Int → List (List Int) → List (List Int) → Option ((List (List Int)))
  | 0, _, _, _, _, _ => none
  | k + 1, x5, x10, x11, x375000, x376000 => if x11 < x10 then ((spec_skCycle.f k x375000 x376000 x11).bind fun t376 => (if (t376.length : Int) > 0 then (if 0 < (t376.length : Int) then (if (rd t376 0) = x11 then (if x5.length < 5864062014805 then (spec_skCycles.l0 k (x5 ++ [t376]) x10 (wrap64 (x11 + 1)) x375000 x376000) else (none)) else (spec_skCycles.l0 k x5 x10 (wrap64 (x11 + 1)) x375000 x376000)) else (none)) else (spec_skCycles.l0 k x5 x10 (wrap64 (x11 + 1)) x375000 x376000))) else (some x5)
def spec_skCycles.f (k : Nat) (l0_0 : List (List Int)) (l1_0 : List (List Int)) : Option ((List (List Int))) := spec_skCycles.l0 k ([] : List (List Int)) (l0_0.length : Int) 0 l0_0 l1_0
set_option maxHeartbeats 8000000 in
set_option maxRecDepth 100000 in
theorem spec_skCycles.calls (k : Nat) (A0_0 : Option Addr) (c0_0 : Nat) (l0_0 : List (List Int)) (A1_0 : Option Addr) (c1_0 : Nat) (l1_0 : List (List Int)) (r : List (List Int)) (w : World) (hr0_0 : Kd.C (Kd.slice 3 (Kd.int .i64)) w A0_0 l0_0.length l0_0) (hc0_0 : l0_0.length ≤ c0_0) (hr1_0 : Kd.C (Kd.slice 3 (Kd.int .i64)) w A1_0 l1_0.length l1_0) (hc1_0 : l1_0.length ≤ c1_0) (h : spec_skCycles.f k l0_0 l1_0 = some r) :
    Calls Try.prog 103 #[.agg #[.slice A0_0 l0_0.length c0_0], .agg #[.slice A1_0 l1_0.length c1_0]] w fun e w' => ∃ v0_ : Value, e = .returned (v0_) ∧ Kd.S (Kd.slice 3 (Kd.int .i64)) 37 w' w.heap.size (fun _ => True) v0_ r ∧ Below w.heap.size w w' := by
  have hu30 := Try.underlying30
  have hu59 := Try.underlying59
  have HR0_0 := Aside0.mk hr0_0
  have HC0_0 := Aside0.mk hc0_0
  clear hr0_0 hc0_0
  have HR1_0 := Aside0.mk hr1_0
  have HC1_0 := Aside0.mk hc1_0
  clear hr1_0 hc1_0
  have HB := Aside0.mk (Below.refl w.heap.size w)
  have H : (spec_skCycles.l0 k ([] : List (List Int)) (l0_0.length : Int) 0 l0_0 l1_0) = some r := h
  clear h
  have H' := Aside0.mk H
  clear H
  go_enter Try.func103, Try.ntmps103
  go_wp2_with (first | ((with_reducible refine gate_dst (N := 2) rfl ?_); refine box_event ?hg (N := 2) ?hd (cs := #[.slice A0_0 l0_0.length c0_0]) (t := 30) ?hr ?_; (case hd => rfl); (case hg => rfl); (case hr => first | (go_simp; done) | (go_simp; rfl)); intro gb374 hg w3 hbox hb; have n0_ := Aside0.mk (below_step (by repeat (first | (with_reducible first | exact HB.out | apply below_alloc | apply pw_below_drewN | apply below_drew1) | exact HB.out)) hb); have n1_ := Aside0.mk (hbox); have n2_ := Aside0.mk ((by rw [hg]; exact (below_size (by repeat (first | (with_reducible first | exact HB.out | apply below_alloc | apply pw_below_drewN | apply below_drew1) | exact HB.out))) : w.heap.size ≤ gb374)); have n3_ := Aside0.mk ((by rw [hg]; exact (below_size (by repeat (first | (with_reducible first | exact HB.out | apply below_alloc | apply pw_below_drewN | apply below_drew1) | exact HB.out))) : w.heap.size ≤ gb374)); clear HB; have HB := n0_; have BK374 := n1_; have GW374 := n2_; have GE374 := n3_; clear n0_ n1_ n2_ n3_; clear hb hbox hg) | ((with_reducible refine gate_dst (N := 3) rfl ?_); refine box_event ?hg (N := 3) ?hd (cs := #[.slice A1_0 l1_0.length c1_0]) (t := 59) ?hr ?_; (case hd => rfl); (case hg => rfl); (case hr => first | (go_simp; done) | (go_simp; rfl)); intro gb375 hg w4 hbox hb; have n0_ := Aside0.mk (blk_below (g := gb374) (o := .cells #[.slice A0_0 l0_0.length c0_0] 30 (0, 0)) (by (with_reducible repeat (first | refine blk_drewN ?_ _ | refine blk_drew ?_ | refine blk_alloc ?_ _)); exact BK374.out) hb); have n1_ := Aside0.mk (below_step (by repeat (first | (with_reducible first | exact HB.out | apply below_alloc | apply pw_below_drewN | apply below_drew1 | refine below_set ?_ GE374.out) | exact HB.out)) hb); have n2_ := Aside0.mk (hbox); have n3_ := Aside0.mk ((by rw [hg]; exact (below_size (by repeat (first | (with_reducible first | exact HB.out | apply below_alloc | apply pw_below_drewN | apply below_drew1 | refine below_set ?_ GE374.out) | exact HB.out))) : w.heap.size ≤ gb375)); have n4_ := Aside0.mk ((by rw [hg]; exact (below_size (by repeat (first | (with_reducible first | exact HB.out | apply below_alloc | apply pw_below_drewN | apply below_drew1 | refine below_set ?_ GE374.out) | exact HB.out))) : w.heap.size ≤ gb375)); have n5_ := Aside0.mk ((by rw [hg]; exact Nat.ne_of_lt (blk_lt (g := gb374) (o := .cells #[.slice A0_0 l0_0.length c0_0] 30 (0, 0)) (by (with_reducible repeat (first | refine blk_drewN ?_ _ | refine blk_drew ?_ | refine blk_alloc ?_ _)); exact BK374.out)) : gb374 ≠ gb375)); have n6_ := Aside0.mk ((by rw [hg]; exact Nat.ne_of_gt (blk_lt (g := gb374) (o := .cells #[.slice A0_0 l0_0.length c0_0] 30 (0, 0)) (by (with_reducible repeat (first | refine blk_drewN ?_ _ | refine blk_drew ?_ | refine blk_alloc ?_ _)); exact BK374.out)) : gb375 ≠ gb374)); clear BK374; clear HB; have BK374 := n0_; have HB := n1_; have BK375 := n2_; have GW375 := n3_; have GE375 := n4_; have NB374_375 := n5_; have NB375_374 := n6_; clear n0_ n1_ n2_ n3_ n4_ n5_ n6_; clear hb hbox hg; have hnb5 := NB374_375.out; have hnc5 := NB375_374.out; have hcz6_0 : w4.cell? ⟨gb374, 0, none⟩ = some (.slice A0_0 l0_0.length c0_0) := (blk_cell BK374.out 0).trans rfl; have hfz6_0 := blk_frozen BK374.out 0))
  go_loopg [5, 11] k (fun kq v5 v11 w' => ∃ (x5_1 : List (List Int)) (x11_1 : Int), v11 = .int .i64 x11_1 ∧ Aside0 (spec_skCycles.l0 kq x5_1 (l0_0.length : Int) x11_1 l0_0 l1_0 = some r) ∧ Aside0 (kq ≤ k) ∧ Aside0 (Kd.S (Kd.slice 3 (Kd.int .i64)) 37 w' w.heap.size (fun _ => True) v5 x5_1) ∧ Aside0 (w'.heap[gb374]? = some (.cells #[(.slice A0_0 l0_0.length c0_0)] 30 (0, 0))) ∧ Aside0 (w'.heap[gb375]? = some (.cells #[(.slice A1_0 l1_0.length c1_0)] 59 (0, 0))) ∧ Aside0 (Below w.heap.size w w'))
  case atStart => exact ⟨(([] : List (List Int))), (0), (by first | rfl | (simp; done) | (simp [*]; done)), H', ⟨Nat.le_refl _⟩, ⟨by first | exact Kd.S_nil _ _ _ _ _ | exact Kd.N_nil _ _ _ _ _ | exact Kd.V_nil _ _ _ _ _ | exact Kd.Q_nil _ _ _ _ _ | exact Kd.R_nil _ _ _ _ _⟩, ⟨by (with_reducible repeat (first | refine blk_drewN ?_ _ | refine blk_drew ?_ | refine blk_alloc ?_ _)); exact BK374.out⟩, ⟨by (with_reducible repeat (first | refine blk_drewN ?_ _ | refine blk_drew ?_ | refine blk_alloc ?_ _)); exact BK375.out⟩, ⟨by repeat (first | (with_reducible first | exact HB.out | apply below_alloc | apply pw_below_drewN | apply below_drew1 | refine below_set ?_ GE374.out | refine below_set ?_ GE375.out) | exact HB.out)⟩⟩
  case round =>
    clear H'
    try clear c1
    try clear p2
    try clear c5
    try clear hcz6_0
    try clear hfz6_0
    obtain ⟨x5_1, x11_1, rfl, HA, HK1, HO_5, BK374, BK375, HB⟩ := hrel
    cases gk with
    | zero => exact absurd HA.out (by simp [spec_skCycles.l0])
    | succ k1 =>
      have H := HA.out
      clear HA
      simp only [spec_skCycles.l0] at H
      by_cases c7 : x11_1 < (l0_0.length : Int)
      · rw [if_pos c7] at H
        have c7b0 : decide (x11_1 < (l0_0.length : Int)) = true := decide_eq_true c7
        clear c7
        replace H := Option.bind_eq_some_iff.mp H
        obtain ⟨t376, A80, H⟩ := H
        replace H : (if (t376.length : Int) > 0 then (if 0 < (t376.length : Int) then (if (rd t376 0) = x11_1 then (if x5_1.length < 5864062014805 then (spec_skCycles.l0 k1 (x5_1 ++ [t376]) (l0_0.length : Int) (wrap64 (x11_1 + 1)) l0_0 l1_0) else (none)) else (spec_skCycles.l0 k1 x5_1 (l0_0.length : Int) (wrap64 (x11_1 + 1)) l0_0 l1_0)) else (none)) else (spec_skCycles.l0 k1 x5_1 (l0_0.length : Int) (wrap64 (x11_1 + 1)) l0_0 l1_0)) = some r := H
        have A8 := Aside0.mk A80
        clear A80
        by_cases c9 : (t376.length : Int) > 0
        · rw [if_pos c9] at H
          have c9b0 : decide (0 < (t376.length : Int)) = true := decide_eq_true c9
          have c9b1 : decide (0 < t376.length) = true := decide_eq_true (by omega)
          clear c9
          by_cases c10 : 0 < (t376.length : Int)
          · rw [if_pos c10] at H
            have c10b0 : decide (0 < (t376.length : Int)) = true := decide_eq_true c10
            have c10b1 : decide (0 < t376.length) = true := decide_eq_true (by omega)
            clear c10
            by_cases c11 : (rd t376 0) = x11_1
            · rw [if_pos c11] at H
              have c11b0 : ((rd t376 0) == x11_1) = true := beq_iff_eq.mpr c11
              have c11b1 : ((rd t376 0) != x11_1) = false := bne_eq_false_iff_eq.mpr c11
              clear c11
              by_cases c12 : x5_1.length < 5864062014805
              · rw [if_pos c12] at H
                have LMc12 := Aside0.mk c12
                clear c12
                obtain ⟨y380, hy380⟩ : ∃ y_ : List (List Int), y_ = (x5_1 ++ [t376]) := ⟨_, rfl⟩
                replace H : (spec_skCycles.l0 k1 y380 (l0_0.length : Int) (wrap64 (x11_1 + 1)) l0_0 l1_0) = some r := by first | (rw [hy380]; with_reducible exact H) | (have H2_ := (Option.bind_some _ _).symm.trans H; rw [hy380]; with_reducible exact H2_) | (have H2_ := (Option.bind_some _ _).symm.trans H; with_reducible exact H2_) | with_reducible exact H | (rw [hy380]; exact H) | exact H
                have Ny380 := Aside0.mk hy380
                clear hy380
                have H' := Aside0.mk H
                clear H
                have hnb13 := NB374_375.out
                have hnc13 := NB375_374.out
                have hcz14_0 : wr.cell? ⟨gb374, 0, none⟩ = some (.slice A0_0 l0_0.length c0_0) := (blk_cell BK374.out 0).trans rfl
                have hfz14_0 := blk_frozen BK374.out 0
                have hcz15_0 : wr.cell? ⟨gb375, 0, none⟩ = some (.slice A1_0 l1_0.length c1_0) := (blk_cell BK375.out 0).trans rfl
                have hfz15_0 := blk_frozen BK375.out 0
                go_wp2_with (first | ((with_reducible refine gate_callee (f := 124) rfl ?_); refine goesL_ (some 17) rfl rfl Try.func124 (by kernel_rfl) rfl #[.agg #[.slice A0_0 l0_0.length c0_0], .agg #[.slice A1_0 l1_0.length c1_0], .int .i64 x11_1] rfl (by (try simp only [List.map_toArray, List.map_cons, List.map_nil]); first | done | rfl | (simp only [List.length_drop, List.length_take]; rfl)) ?_; (with_reducible refine (spec_skCycle.calls k1 _ _ l0_0 _ _ l1_0 x11_1 t376 _ ?side1 ?side2 ?side3 ?side4 A8.out).mono ?_); (case side1 => repeat (first | exact (Kd.C_below HR0_0.out HB.out) | (with_reducible refine Kd.C_alloc ?_ _) | (with_reducible refine Kd.C_drewN ?_ _) | (with_reducible refine Kd.C_drew ?_))); (case side2 => exact HC0_0.out); (case side3 => repeat (first | exact (Kd.C_below HR1_0.out HB.out) | (with_reducible refine Kd.C_alloc ?_ _) | (with_reducible refine Kd.C_drewN ?_ _) | (with_reducible refine Kd.C_drew ?_))); (case side4 => exact HC1_0.out); rintro e w16 ⟨v377, rfl, ho0, hb⟩; refine ⟨_, rfl, ?_⟩; have n0_ := Aside0.mk (Kd.S_elder' (by (with_reducible repeat (first | apply Kd.S_alloc | apply Kd.S_drewN | apply Kd.S_drew)); exact HO_5.out) (Kd.R_base ho0) hb); have n1_ := Aside0.mk (Kd.R_lower ho0 (below_size (by repeat (first | (with_reducible first | exact HB.out | apply below_alloc | apply pw_below_drewN | apply below_drew1 | refine below_set ?_ GE374.out | refine below_set ?_ GE375.out) | exact HB.out)))); have n2_ := Aside0.mk (blk_below (g := gb374) (o := .cells #[.slice A0_0 l0_0.length c0_0] 30 (0, 0)) (by (with_reducible repeat (first | refine blk_drewN ?_ _ | refine blk_drew ?_ | refine blk_alloc ?_ _)); exact BK374.out) hb); have n3_ := Aside0.mk (blk_below (g := gb375) (o := .cells #[.slice A1_0 l1_0.length c1_0] 59 (0, 0)) (by (with_reducible repeat (first | refine blk_drewN ?_ _ | refine blk_drew ?_ | refine blk_alloc ?_ _)); exact BK375.out) hb); have n4_ := Aside0.mk (below_step (by repeat (first | (with_reducible first | exact HB.out | apply below_alloc | apply pw_below_drewN | apply below_drew1 | refine below_set ?_ GE374.out | refine below_set ?_ GE375.out) | exact HB.out)) hb); clear HO_5; clear BK374; clear BK375; clear HB; have HO_5 := n0_; have HO378 := n1_; have BK374 := n2_; have BK375 := n3_; have HB := n4_; clear n0_ n1_ n2_ n3_ n4_; (try clear hb); (try clear hb2); (try clear hk); (try clear hi); (try clear ho0); obtain ⟨Ao17, co17, eo17⟩ := Kd.R_slice HO378.out; subst eo17; have p379 : 0 ≤ (0 : Int) := (by omega); have q379 : 0 < (t376.length : Int) := of_decide_eq_true (by first | (with_reducible assumption) | assumption); obtain ⟨ad379, e379, hx379_0⟩ := Kd.at_int (Kd.R_reads' HO378.out).2.2 0 p379 q379; cases e379; have qi379 : (0 < t376.length) = True := eq_true (by omega); (try rw [show ((0 : Int)).toNat = 0 from rfl] at hx379_0); (try rw [Addr.add_zero'] at hx379_0); replace p379 := eq_true p379; replace q379 := eq_true q379) | ((with_reducible refine gate_builtin (b := .append) (xs := #[.tmp 28, .tmp 30]) rfl ?_); at_builtin; refine Kd.S_append (Kd.slice 3 (Kd.int .i64)) (w0 := w) w.heap.size rfl (.tmp 28) (.tmp 30) 22 37 (.slice none 0 0) 24 rfl Try.underlying22 info37 rfl (by decide) (by omega) u5 x5_1 t376 [.slice (some ad379) t376.length co17] (fun _ => True) (fun k_ => some k_ = (.slice (some ad379) t376.length co17 : Value).ownBlock) rfl rfl ?aP (fun k_ hk_ => ((Kd.R_mono (ok' := fun k_ => ((fun _ => True)) k_ ∧ some k_ ≠ (u5 : Value).ownBlock) (Kd.R_apart' (HO378.out) (Kd.S_typed HO_5.out) (by decide)) (fun k_ hk => ⟨trivial, hk.2⟩))).1 k_ hk_.symm) ?aF ?aO ?aB ?aS ?aL ?_; (case aP => exact Kd.M_row (Kd.R_mono (Kd.R_tight rfl (Kd.R_mono (ok' := fun k_ => ((fun _ => True)) k_ ∧ some k_ ≠ (u5 : Value).ownBlock) (Kd.R_apart' (HO378.out) (Kd.S_typed HO_5.out) (by decide)) (fun k_ hk => ⟨trivial, hk.2⟩))) (fun _ h_ => h_))); (case aB => exact (by repeat (first | (with_reducible first | exact HB.out | apply below_alloc | apply pw_below_drewN | apply below_drew1 | refine below_set ?_ GE374.out | refine below_set ?_ GE375.out) | exact HB.out))); (case aF => exact (fun _ _ => trivial)); (case aO => exact (by (with_reducible repeat (first | apply Kd.S_alloc | apply Kd.S_drewN | apply Kd.S_drew)); exact Kd.S_mono HO_5.out (fun k_ hk => ⟨trivial, fun e_ => hk.2 e_⟩))); (case aS => exact (below_size (by repeat (first | (with_reducible first | exact HB.out | apply below_alloc | apply pw_below_drewN | apply below_drew1 | refine below_set ?_ GE374.out | refine below_set ?_ GE375.out) | exact HB.out)))); (case aL => have := LMc12.out; omega); intro v381 w18 ho hb hg hat; rw [← Ny380.out] at ho; have n0_ := Aside0.mk (blk_grown (g := gb374) (o := .cells #[.slice A0_0 l0_0.length c0_0] 30 (0, 0)) (by (with_reducible repeat (first | refine blk_drewN ?_ _ | refine blk_drew ?_ | refine blk_alloc ?_ _)); exact BK374.out) hg (Kd.S_ne HO_5.out BK374.out (by decide))); have n1_ := Aside0.mk (blk_grown (g := gb375) (o := .cells #[.slice A1_0 l1_0.length c1_0] 59 (0, 0)) (by (with_reducible repeat (first | refine blk_drewN ?_ _ | refine blk_drew ?_ | refine blk_alloc ?_ _)); exact BK375.out) hg (Kd.S_ne HO_5.out BK375.out (by decide))); have n2_ := Aside0.mk (hb); have n3_ := Aside0.mk (ho); clear BK374; clear BK375; clear HB; clear HO_5; clear HO378; have BK374 := n0_; have BK375 := n1_; have HB := n2_; have HO382 := n3_; clear n0_ n1_ n2_ n3_; clear ho hb hg hat))
                go_roundg k1
                case measure => have := HK1.out; omega
                case rel => exact ⟨(y380), (wrap64 (x11_1 + 1)), (by first | rfl | (simp; done) | (simp [*]; done)), H', ⟨by have := HK1.out; omega⟩, ⟨by (with_reducible repeat (first | apply Kd.S_alloc | apply Kd.S_drewN | apply Kd.S_drew)); exact HO382.out⟩, ⟨by (with_reducible repeat (first | refine blk_drewN ?_ _ | refine blk_drew ?_ | refine blk_alloc ?_ _)); exact BK374.out⟩, ⟨by (with_reducible repeat (first | refine blk_drewN ?_ _ | refine blk_drew ?_ | refine blk_alloc ?_ _)); exact BK375.out⟩, ⟨by repeat (first | (with_reducible first | exact HB.out | apply below_alloc | apply pw_below_drewN | apply below_drew1 | refine below_set ?_ GE374.out | refine below_set ?_ GE375.out) | exact HB.out)⟩⟩
              · rw [if_neg c12] at H
                exact absurd H (by simp)
            · rw [if_neg c11] at H
              have c11b0 : ((rd t376 0) == x11_1) = false := beq_eq_false_iff_ne.mpr c11
              have c11b1 : ((rd t376 0) != x11_1) = true := bne_iff_ne.mpr c11
              have H' := Aside0.mk H
              clear H
              have hnb19 := NB374_375.out
              have hnc19 := NB375_374.out
              have hcz20_0 : wr.cell? ⟨gb374, 0, none⟩ = some (.slice A0_0 l0_0.length c0_0) := (blk_cell BK374.out 0).trans rfl
              have hfz20_0 := blk_frozen BK374.out 0
              have hcz21_0 : wr.cell? ⟨gb375, 0, none⟩ = some (.slice A1_0 l1_0.length c1_0) := (blk_cell BK375.out 0).trans rfl
              have hfz21_0 := blk_frozen BK375.out 0
              go_wp2_with (first | ((with_reducible refine gate_callee (f := 124) rfl ?_); refine goesL_ (some 17) rfl rfl Try.func124 (by kernel_rfl) rfl #[.agg #[.slice A0_0 l0_0.length c0_0], .agg #[.slice A1_0 l1_0.length c1_0], .int .i64 x11_1] rfl (by (try simp only [List.map_toArray, List.map_cons, List.map_nil]); first | done | rfl | (simp only [List.length_drop, List.length_take]; rfl)) ?_; (with_reducible refine (spec_skCycle.calls k1 _ _ l0_0 _ _ l1_0 x11_1 t376 _ ?side1 ?side2 ?side3 ?side4 A8.out).mono ?_); (case side1 => repeat (first | exact (Kd.C_below HR0_0.out HB.out) | (with_reducible refine Kd.C_alloc ?_ _) | (with_reducible refine Kd.C_drewN ?_ _) | (with_reducible refine Kd.C_drew ?_))); (case side2 => exact HC0_0.out); (case side3 => repeat (first | exact (Kd.C_below HR1_0.out HB.out) | (with_reducible refine Kd.C_alloc ?_ _) | (with_reducible refine Kd.C_drewN ?_ _) | (with_reducible refine Kd.C_drew ?_))); (case side4 => exact HC1_0.out); rintro e w22 ⟨v377, rfl, ho0, hb⟩; refine ⟨_, rfl, ?_⟩; have n0_ := Aside0.mk (Kd.S_elder' (by (with_reducible repeat (first | apply Kd.S_alloc | apply Kd.S_drewN | apply Kd.S_drew)); exact HO_5.out) (Kd.R_base ho0) hb); have n1_ := Aside0.mk (Kd.R_lower ho0 (below_size (by repeat (first | (with_reducible first | exact HB.out | apply below_alloc | apply pw_below_drewN | apply below_drew1 | refine below_set ?_ GE374.out | refine below_set ?_ GE375.out) | exact HB.out)))); have n2_ := Aside0.mk (blk_below (g := gb374) (o := .cells #[.slice A0_0 l0_0.length c0_0] 30 (0, 0)) (by (with_reducible repeat (first | refine blk_drewN ?_ _ | refine blk_drew ?_ | refine blk_alloc ?_ _)); exact BK374.out) hb); have n3_ := Aside0.mk (blk_below (g := gb375) (o := .cells #[.slice A1_0 l1_0.length c1_0] 59 (0, 0)) (by (with_reducible repeat (first | refine blk_drewN ?_ _ | refine blk_drew ?_ | refine blk_alloc ?_ _)); exact BK375.out) hb); have n4_ := Aside0.mk (below_step (by repeat (first | (with_reducible first | exact HB.out | apply below_alloc | apply pw_below_drewN | apply below_drew1 | refine below_set ?_ GE374.out | refine below_set ?_ GE375.out) | exact HB.out)) hb); clear HO_5; clear BK374; clear BK375; clear HB; have HO_5 := n0_; have HO378 := n1_; have BK374 := n2_; have BK375 := n3_; have HB := n4_; clear n0_ n1_ n2_ n3_ n4_; (try clear hb); (try clear hb2); (try clear hk); (try clear hi); (try clear ho0); obtain ⟨Ao23, co23, eo23⟩ := Kd.R_slice HO378.out; subst eo23; have p379 : 0 ≤ (0 : Int) := (by omega); have q379 : 0 < (t376.length : Int) := of_decide_eq_true (by first | (with_reducible assumption) | assumption); obtain ⟨ad379, e379, hx379_0⟩ := Kd.at_int (Kd.R_reads' HO378.out).2.2 0 p379 q379; cases e379; have qi379 : (0 < t376.length) = True := eq_true (by omega); (try rw [show ((0 : Int)).toNat = 0 from rfl] at hx379_0); (try rw [Addr.add_zero'] at hx379_0); replace p379 := eq_true p379; replace q379 := eq_true q379))
              go_roundg k1
              case measure => have := HK1.out; omega
              case rel => exact ⟨(x5_1), (wrap64 (x11_1 + 1)), (by first | rfl | (simp; done) | (simp [*]; done)), H', ⟨by have := HK1.out; omega⟩, ⟨by (with_reducible repeat (first | apply Kd.S_alloc | apply Kd.S_drewN | apply Kd.S_drew)); exact Kd.S_mono HO_5.out (fun _ hk => trivial)⟩, ⟨by (with_reducible repeat (first | refine blk_drewN ?_ _ | refine blk_drew ?_ | refine blk_alloc ?_ _)); exact BK374.out⟩, ⟨by (with_reducible repeat (first | refine blk_drewN ?_ _ | refine blk_drew ?_ | refine blk_alloc ?_ _)); exact BK375.out⟩, ⟨by repeat (first | (with_reducible first | exact HB.out | apply below_alloc | apply pw_below_drewN | apply below_drew1 | refine below_set ?_ GE374.out | refine below_set ?_ GE375.out) | exact HB.out)⟩⟩
          · rw [if_neg c10] at H
            exact absurd H (by simp)
        · rw [if_neg c9] at H
          have c9b0 : decide (0 < (t376.length : Int)) = false := decide_eq_false c9
          have c9b1 : decide (0 < t376.length) = false := decide_eq_false (by omega)
          clear c9
          have H' := Aside0.mk H
          clear H
          have hnb24 := NB374_375.out
          have hnc24 := NB375_374.out
          have hcz25_0 : wr.cell? ⟨gb374, 0, none⟩ = some (.slice A0_0 l0_0.length c0_0) := (blk_cell BK374.out 0).trans rfl
          have hfz25_0 := blk_frozen BK374.out 0
          have hcz26_0 : wr.cell? ⟨gb375, 0, none⟩ = some (.slice A1_0 l1_0.length c1_0) := (blk_cell BK375.out 0).trans rfl
          have hfz26_0 := blk_frozen BK375.out 0
          go_wp2_with (first | ((with_reducible refine gate_callee (f := 124) rfl ?_); refine goesL_ (some 17) rfl rfl Try.func124 (by kernel_rfl) rfl #[.agg #[.slice A0_0 l0_0.length c0_0], .agg #[.slice A1_0 l1_0.length c1_0], .int .i64 x11_1] rfl (by (try simp only [List.map_toArray, List.map_cons, List.map_nil]); first | done | rfl | (simp only [List.length_drop, List.length_take]; rfl)) ?_; (with_reducible refine (spec_skCycle.calls k1 _ _ l0_0 _ _ l1_0 x11_1 t376 _ ?side1 ?side2 ?side3 ?side4 A8.out).mono ?_); (case side1 => repeat (first | exact (Kd.C_below HR0_0.out HB.out) | (with_reducible refine Kd.C_alloc ?_ _) | (with_reducible refine Kd.C_drewN ?_ _) | (with_reducible refine Kd.C_drew ?_))); (case side2 => exact HC0_0.out); (case side3 => repeat (first | exact (Kd.C_below HR1_0.out HB.out) | (with_reducible refine Kd.C_alloc ?_ _) | (with_reducible refine Kd.C_drewN ?_ _) | (with_reducible refine Kd.C_drew ?_))); (case side4 => exact HC1_0.out); rintro e w27 ⟨v377, rfl, ho0, hb⟩; refine ⟨_, rfl, ?_⟩; have n0_ := Aside0.mk (Kd.S_elder' (by (with_reducible repeat (first | apply Kd.S_alloc | apply Kd.S_drewN | apply Kd.S_drew)); exact HO_5.out) (Kd.R_base ho0) hb); have n1_ := Aside0.mk (Kd.R_lower ho0 (below_size (by repeat (first | (with_reducible first | exact HB.out | apply below_alloc | apply pw_below_drewN | apply below_drew1 | refine below_set ?_ GE374.out | refine below_set ?_ GE375.out) | exact HB.out)))); have n2_ := Aside0.mk (blk_below (g := gb374) (o := .cells #[.slice A0_0 l0_0.length c0_0] 30 (0, 0)) (by (with_reducible repeat (first | refine blk_drewN ?_ _ | refine blk_drew ?_ | refine blk_alloc ?_ _)); exact BK374.out) hb); have n3_ := Aside0.mk (blk_below (g := gb375) (o := .cells #[.slice A1_0 l1_0.length c1_0] 59 (0, 0)) (by (with_reducible repeat (first | refine blk_drewN ?_ _ | refine blk_drew ?_ | refine blk_alloc ?_ _)); exact BK375.out) hb); have n4_ := Aside0.mk (below_step (by repeat (first | (with_reducible first | exact HB.out | apply below_alloc | apply pw_below_drewN | apply below_drew1 | refine below_set ?_ GE374.out | refine below_set ?_ GE375.out) | exact HB.out)) hb); clear HO_5; clear BK374; clear BK375; clear HB; have HO_5 := n0_; have HO378 := n1_; have BK374 := n2_; have BK375 := n3_; have HB := n4_; clear n0_ n1_ n2_ n3_ n4_; (try clear hb); (try clear hb2); (try clear hk); (try clear hi); (try clear ho0); obtain ⟨Ao28, co28, eo28⟩ := Kd.R_slice HO378.out; subst eo28))
          go_roundg k1
          case measure => have := HK1.out; omega
          case rel => exact ⟨(x5_1), (wrap64 (x11_1 + 1)), (by first | rfl | (simp; done) | (simp [*]; done)), H', ⟨by have := HK1.out; omega⟩, ⟨by (with_reducible repeat (first | apply Kd.S_alloc | apply Kd.S_drewN | apply Kd.S_drew)); exact Kd.S_mono HO_5.out (fun _ hk => trivial)⟩, ⟨by (with_reducible repeat (first | refine blk_drewN ?_ _ | refine blk_drew ?_ | refine blk_alloc ?_ _)); exact BK374.out⟩, ⟨by (with_reducible repeat (first | refine blk_drewN ?_ _ | refine blk_drew ?_ | refine blk_alloc ?_ _)); exact BK375.out⟩, ⟨by repeat (first | (with_reducible first | exact HB.out | apply below_alloc | apply pw_below_drewN | apply below_drew1 | refine below_set ?_ GE374.out | refine below_set ?_ GE375.out) | exact HB.out)⟩⟩
      · rw [if_neg c7] at H
        have c7b0 : decide (x11_1 < (l0_0.length : Int)) = false := decide_eq_false c7
        clear c7
        obtain rfl := Option.some.inj H
        go_wp2
        go_ret
        exact ⟨_, by first | rfl | (simp [errW_none, errW_some] <;> rfl) | (simp [*, errW_none, errW_some] <;> rfl), by (with_reducible repeat (first | apply Kd.S_alloc | apply Kd.S_drewN | apply Kd.S_drew)); exact HO_5.out, by repeat (first | (with_reducible first | exact HB.out | apply below_alloc | apply pw_below_drewN | apply below_drew1 | refine below_set ?_ GE374.out | refine below_set ?_ GE375.out) | exact HB.out)⟩
end Go.Proofs.Ytnbnalbomflafaa.GR
/-! ## GS0 -/
namespace Go.Proofs.Ytnbnalbomflafaa.GS
open Go.RowKit Go.Proofs.YtnbnalbomflafaaW.PrintWords Go.Proofs.YtnbnalbomflafaaW.PrintLast Go.Proofs.YtnbnalbomflafaaW.PrintMore
open Go.Proofs.Ytnbnalbomflafaa.GA Go.Proofs.Ytnbnalbomflafaa.GB Go.Proofs.Ytnbnalbomflafaa.GD Go.Proofs.Ytnbnalbomflafaa.KA Go.Proofs.Ytnbnalbomflafaa.GR
attribute [local go_sem] max2_int min2_int max_two min_two max_three min_three max_four min_four   -- for this text's walks alone
set_option linter.unusedVariables false
set_option linter.unusedSimpArgs false
def errW : Option Int → Value
  | none => .nilIface
  | some c => .iface 0 (.int .i64 c)
theorem errW_none : errW none = .nilIface := rfl
theorem errW_some (c : Int) : errW (some c) = .iface 0 (.int .i64 c) := rfl
theorem info3 : (Try.prog.info? 3).map (fun i => (i.zero, i.size, i.bytes)) = some (some (.int .i64 0), 1, 8) := by kernel_rfl
theorem info37 : (Try.prog.info? 37).map (fun i => (i.zero, i.size, i.bytes)) = some (some (.slice none 0 0), 1, 24) := by kernel_rfl
def rd_L1 (xs : List (List Int)) (i : Int) : (List Int) := xs.getD i.toNat ([] : List Int)
theorem at_L1 {w : World} {A : Option Addr} {n : Nat} {xs : List (List Int)} (h : Kd.C (Kd.slice 3 (Kd.int .i64)) w A n xs) (i : Int) (h0 : 0 ≤ i) (h1 : i < n) : ∃ ad A0 c0, A = some ad ∧ w.cell? (ad.add i.toNat) = some (.slice A0 (rd_L1 xs i).length c0) ∧ (rd_L1 xs i).length ≤ c0 ∧ (Kd.int .i64).C w A0 (rd_L1 xs i).length (rd_L1 xs i) := by
  obtain ⟨ad, c, e, _, hK, hc0⟩ := Kd.C_get h ([] : List Int) i h0 h1
  have hc : ∀ j u, c[j]? = some u → w.cell? (ad.add (i.toNat * 1 + j)) = some u := hc0
  obtain ⟨A0, c0, rfl, l0, g0⟩ := hK
  exact ⟨ad, A0, c0, e, by have hq := hc 0 _ rfl; rwa [Nat.mul_one, Nat.add_zero] at hq, l0, g0⟩
end Go.Proofs.Ytnbnalbomflafaa.GS
/-! ## GS1 -/
namespace Go.Proofs.Ytnbnalbomflafaa.GS
open Go.RowKit Go.Proofs.YtnbnalbomflafaaW.PrintWords Go.Proofs.YtnbnalbomflafaaW.PrintLast Go.Proofs.YtnbnalbomflafaaW.PrintMore
open Go.Proofs.Ytnbnalbomflafaa.GA Go.Proofs.Ytnbnalbomflafaa.GB Go.Proofs.Ytnbnalbomflafaa.GD Go.Proofs.Ytnbnalbomflafaa.KA Go.Proofs.Ytnbnalbomflafaa.GR
attribute [local go_sem] max2_int min2_int max_two min_two max_three min_three max_four min_four   -- for this text's walks alone
set_option linter.unusedVariables false
set_option linter.unusedSimpArgs false
def spec_FirstCycle.f (k : Nat) (l0_0 : List (List Int)) (a1 : Int) (l2_0 : List (List Int)) : Option (List Int × Bool) := (spec_skGood.f k l0_0 a1 l2_0).bind fun t167 => (if t167 = true then ((spec_skCycles.f k l0_0 l2_0).bind fun t168 => (if (t168.length : Int) = 0 then (some (([] : List Int), false)) else (if 0 < (t168.length : Int) then (some (rd_L1 t168 0, true)) else (none)))) else (some (([] : List Int), false)))
set_option maxHeartbeats 8000000 in
set_option maxRecDepth 100000 in
theorem spec_FirstCycle.calls (k : Nat) (A0_0 : Option Addr) (c0_0 : Nat) (l0_0 : List (List Int)) (a1 : Int) (A2_0 : Option Addr) (c2_0 : Nat) (l2_0 : List (List Int)) (r1 : List Int) (r2 : Bool) (w : World) (hr0_0 : Kd.C (Kd.slice 3 (Kd.int .i64)) w A0_0 l0_0.length l0_0) (hc0_0 : l0_0.length ≤ c0_0) (hr2_0 : Kd.C (Kd.slice 3 (Kd.int .i64)) w A2_0 l2_0.length l2_0) (hc2_0 : l2_0.length ≤ c2_0) (h : spec_FirstCycle.f k l0_0 a1 l2_0 = some (r1, r2)) :
    Calls Try.prog 69 #[.agg #[.slice A0_0 l0_0.length c0_0], .int .i64 a1, .agg #[.slice A2_0 l2_0.length c2_0]] w fun e w' => ∃ v0_ : Value, e = .returned (.tuple #[v0_, .bool r2]) ∧ Kd.R (Kd.int .i64) 3 w' w.heap.size (fun _ => True) v0_ r1 ∧ Below w.heap.size w w' := by
  have hu30 := Try.underlying30
  have hu59 := Try.underlying59
  have HR0_0 := Aside0.mk hr0_0
  have HC0_0 := Aside0.mk hc0_0
  clear hr0_0 hc0_0
  have HR2_0 := Aside0.mk hr2_0
  have HC2_0 := Aside0.mk hc2_0
  clear hr2_0 hc2_0
  have HB := Aside0.mk (Below.refl w.heap.size w)
  have H : ((spec_skGood.f k l0_0 a1 l2_0).bind fun t167 => (if t167 = true then ((spec_skCycles.f k l0_0 l2_0).bind fun t168 => (if (t168.length : Int) = 0 then (some (([] : List Int), false)) else (if 0 < (t168.length : Int) then (some (rd_L1 t168 0, true)) else (none)))) else (some (([] : List Int), false)))) = some (r1, r2) := h
  clear h
  replace H := Option.bind_eq_some_iff.mp H
  obtain ⟨t167, A40, H⟩ := H
  replace H : (if t167 = true then ((spec_skCycles.f k l0_0 l2_0).bind fun t168 => (if (t168.length : Int) = 0 then (some (([] : List Int), false)) else (if 0 < (t168.length : Int) then (some (rd_L1 t168 0, true)) else (none)))) else (some (([] : List Int), false))) = some (r1, r2) := H
  have A4 := Aside0.mk A40
  clear A40
  by_cases c5 : t167 = true
  · subst c5
    have H1 : ((spec_skCycles.f k l0_0 l2_0).bind fun t168 => (if (t168.length : Int) = 0 then (some (([] : List Int), false)) else (if 0 < (t168.length : Int) then (some (rd_L1 t168 0, true)) else (none)))) = some (r1, r2) := by rw [if_pos rfl] at H; exact H
    clear H
    have H := H1
    clear H1
    replace H := Option.bind_eq_some_iff.mp H
    obtain ⟨t168, A60, H⟩ := H
    replace H : (if (t168.length : Int) = 0 then (some (([] : List Int), false)) else (if 0 < (t168.length : Int) then (some (rd_L1 t168 0, true)) else (none))) = some (r1, r2) := H
    have A6 := Aside0.mk A60
    clear A60
    by_cases c7 : (t168.length : Int) = 0
    · rw [if_pos c7] at H
      have c7b0 : ((t168.length : Int) == 0) = true := beq_iff_eq.mpr c7
      have c7b1 : ((t168.length : Int) != 0) = false := bne_eq_false_iff_eq.mpr c7
      clear c7
      simp only [Option.some.injEq, Prod.mk.injEq] at H
      obtain ⟨rfl, rfl⟩ := H
      go_enter Try.func69, Try.ntmps69
      go_wp2_with (first | ((with_reducible refine gate_dst (N := 3) rfl ?_); refine box_event ?hg (N := 3) ?hd (cs := #[.slice A0_0 l0_0.length c0_0]) (t := 30) ?hr ?_; (case hd => rfl); (case hg => rfl); (case hr => first | (go_simp; done) | (go_simp; rfl)); intro gb165 hg w8 hbox hb; have n0_ := Aside0.mk (below_step (by repeat (first | (with_reducible first | exact HB.out | apply below_alloc | apply pw_below_drewN | apply below_drew1) | exact HB.out)) hb); have n1_ := Aside0.mk (hbox); have n2_ := Aside0.mk ((by rw [hg]; exact (below_size (by repeat (first | (with_reducible first | exact HB.out | apply below_alloc | apply pw_below_drewN | apply below_drew1) | exact HB.out))) : w.heap.size ≤ gb165)); have n3_ := Aside0.mk ((by rw [hg]; exact (below_size (by repeat (first | (with_reducible first | exact HB.out | apply below_alloc | apply pw_below_drewN | apply below_drew1) | exact HB.out))) : w.heap.size ≤ gb165)); clear HB; have HB := n0_; have BK165 := n1_; have GW165 := n2_; have GE165 := n3_; clear n0_ n1_ n2_ n3_; clear hb hbox hg) | ((with_reducible refine gate_dst (N := 5) rfl ?_); refine box_event ?hg (N := 5) ?hd (cs := #[.slice A2_0 l2_0.length c2_0]) (t := 59) ?hr ?_; (case hd => rfl); (case hg => rfl); (case hr => first | (go_simp; done) | (go_simp; rfl)); intro gb166 hg w9 hbox hb; have n0_ := Aside0.mk (blk_below (g := gb165) (o := .cells #[.slice A0_0 l0_0.length c0_0] 30 (0, 0)) (by (with_reducible repeat (first | refine blk_drewN ?_ _ | refine blk_drew ?_ | refine blk_alloc ?_ _)); exact BK165.out) hb); have n1_ := Aside0.mk (below_step (by repeat (first | (with_reducible first | exact HB.out | apply below_alloc | apply pw_below_drewN | apply below_drew1 | refine below_set ?_ GE165.out) | exact HB.out)) hb); have n2_ := Aside0.mk (hbox); have n3_ := Aside0.mk ((by rw [hg]; exact (below_size (by repeat (first | (with_reducible first | exact HB.out | apply below_alloc | apply pw_below_drewN | apply below_drew1 | refine below_set ?_ GE165.out) | exact HB.out))) : w.heap.size ≤ gb166)); have n4_ := Aside0.mk ((by rw [hg]; exact (below_size (by repeat (first | (with_reducible first | exact HB.out | apply below_alloc | apply pw_below_drewN | apply below_drew1 | refine below_set ?_ GE165.out) | exact HB.out))) : w.heap.size ≤ gb166)); have n5_ := Aside0.mk ((by rw [hg]; exact Nat.ne_of_lt (blk_lt (g := gb165) (o := .cells #[.slice A0_0 l0_0.length c0_0] 30 (0, 0)) (by (with_reducible repeat (first | refine blk_drewN ?_ _ | refine blk_drew ?_ | refine blk_alloc ?_ _)); exact BK165.out)) : gb165 ≠ gb166)); have n6_ := Aside0.mk ((by rw [hg]; exact Nat.ne_of_gt (blk_lt (g := gb165) (o := .cells #[.slice A0_0 l0_0.length c0_0] 30 (0, 0)) (by (with_reducible repeat (first | refine blk_drewN ?_ _ | refine blk_drew ?_ | refine blk_alloc ?_ _)); exact BK165.out)) : gb166 ≠ gb165)); clear BK165; clear HB; have BK165 := n0_; have HB := n1_; have BK166 := n2_; have GW166 := n3_; have GE166 := n4_; have NB165_166 := n5_; have NB166_165 := n6_; clear n0_ n1_ n2_ n3_ n4_ n5_ n6_; clear hb hbox hg; have hnb10 := NB165_166.out; have hnc10 := NB166_165.out; have hcz11_0 : w9.cell? ⟨gb165, 0, none⟩ = some (.slice A0_0 l0_0.length c0_0) := (blk_cell BK165.out 0).trans rfl; have hfz11_0 := blk_frozen BK165.out 0; have hcz12_0 : w9.cell? ⟨gb166, 0, none⟩ = some (.slice A2_0 l2_0.length c2_0) := (blk_cell BK166.out 0).trans rfl; have hfz12_0 := blk_frozen BK166.out 0) | ((with_reducible refine gate_callee (f := 97) rfl ?_); refine goesL_ (some 12) rfl rfl Try.func97 (by kernel_rfl) rfl #[.agg #[.slice A0_0 l0_0.length c0_0], .int .i64 a1, .agg #[.slice A2_0 l2_0.length c2_0]] rfl (by (try simp only [List.map_toArray, List.map_cons, List.map_nil]); first | done | rfl | (simp only [List.length_drop, List.length_take]; rfl)) ?_; (with_reducible refine (spec_skGood.calls k _ _ l0_0 a1 _ _ l2_0 true _ ?side1 ?side2 ?side3 ?side4 A4.out).mono ?_); (case side1 => repeat (first | exact (Kd.C_below HR0_0.out HB.out) | (with_reducible refine Kd.C_alloc ?_ _) | (with_reducible refine Kd.C_drewN ?_ _) | (with_reducible refine Kd.C_drew ?_))); (case side2 => exact HC0_0.out); (case side3 => repeat (first | exact (Kd.C_below HR2_0.out HB.out) | (with_reducible refine Kd.C_alloc ?_ _) | (with_reducible refine Kd.C_drewN ?_ _) | (with_reducible refine Kd.C_drew ?_))); (case side4 => exact HC2_0.out); rintro e w13 ⟨rfl, hb⟩; refine ⟨_, rfl, ?_⟩; have n0_ := Aside0.mk (blk_below (g := gb165) (o := .cells #[.slice A0_0 l0_0.length c0_0] 30 (0, 0)) (by (with_reducible repeat (first | refine blk_drewN ?_ _ | refine blk_drew ?_ | refine blk_alloc ?_ _)); exact BK165.out) hb); have n1_ := Aside0.mk (blk_below (g := gb166) (o := .cells #[.slice A2_0 l2_0.length c2_0] 59 (0, 0)) (by (with_reducible repeat (first | refine blk_drewN ?_ _ | refine blk_drew ?_ | refine blk_alloc ?_ _)); exact BK166.out) hb); have n2_ := Aside0.mk (below_step (by repeat (first | (with_reducible first | exact HB.out | apply below_alloc | apply pw_below_drewN | apply below_drew1 | refine below_set ?_ GE165.out | refine below_set ?_ GE166.out) | exact HB.out)) hb); clear BK165; clear BK166; clear HB; have BK165 := n0_; have BK166 := n1_; have HB := n2_; clear n0_ n1_ n2_; (try clear hb); (try clear hb2); (try clear hk); (try clear hi); have hcz14_0 : w13.cell? ⟨gb165, 0, none⟩ = some (.slice A0_0 l0_0.length c0_0) := (blk_cell BK165.out 0).trans rfl; have hfz14_0 := blk_frozen BK165.out 0; have hcz15_0 : w13.cell? ⟨gb166, 0, none⟩ = some (.slice A2_0 l2_0.length c2_0) := (blk_cell BK166.out 0).trans rfl; have hfz15_0 := blk_frozen BK166.out 0) | ((with_reducible refine gate_callee (f := 103) rfl ?_); refine goesL_ (some 16) rfl rfl Try.func103 (by kernel_rfl) rfl #[.agg #[.slice A0_0 l0_0.length c0_0], .agg #[.slice A2_0 l2_0.length c2_0]] rfl (by (try simp only [List.map_toArray, List.map_cons, List.map_nil]); first | done | rfl | (simp only [List.length_drop, List.length_take]; rfl)) ?_; (with_reducible refine (spec_skCycles.calls k _ _ l0_0 _ _ l2_0 t168 _ ?side1 ?side2 ?side3 ?side4 A6.out).mono ?_); (case side1 => repeat (first | exact (Kd.C_below HR0_0.out HB.out) | (with_reducible refine Kd.C_alloc ?_ _) | (with_reducible refine Kd.C_drewN ?_ _) | (with_reducible refine Kd.C_drew ?_))); (case side2 => exact HC0_0.out); (case side3 => repeat (first | exact (Kd.C_below HR2_0.out HB.out) | (with_reducible refine Kd.C_alloc ?_ _) | (with_reducible refine Kd.C_drewN ?_ _) | (with_reducible refine Kd.C_drew ?_))); (case side4 => exact HC2_0.out); rintro e w16 ⟨v169, rfl, ho0, hb⟩; refine ⟨_, rfl, ?_⟩; have n0_ := Aside0.mk (Kd.S_lower ho0 (below_size (by repeat (first | (with_reducible first | exact HB.out | apply below_alloc | apply pw_below_drewN | apply below_drew1 | refine below_set ?_ GE165.out | refine below_set ?_ GE166.out) | exact HB.out)))); have n1_ := Aside0.mk (blk_below (g := gb165) (o := .cells #[.slice A0_0 l0_0.length c0_0] 30 (0, 0)) (by (with_reducible repeat (first | refine blk_drewN ?_ _ | refine blk_drew ?_ | refine blk_alloc ?_ _)); exact BK165.out) hb); have n2_ := Aside0.mk (blk_below (g := gb166) (o := .cells #[.slice A2_0 l2_0.length c2_0] 59 (0, 0)) (by (with_reducible repeat (first | refine blk_drewN ?_ _ | refine blk_drew ?_ | refine blk_alloc ?_ _)); exact BK166.out) hb); have n3_ := Aside0.mk (below_step (by repeat (first | (with_reducible first | exact HB.out | apply below_alloc | apply pw_below_drewN | apply below_drew1 | refine below_set ?_ GE165.out | refine below_set ?_ GE166.out) | exact HB.out)) hb); clear BK165; clear BK166; clear HB; have HO170 := n0_; have BK165 := n1_; have BK166 := n2_; have HB := n3_; clear n0_ n1_ n2_ n3_; (try clear hb); (try clear hb2); (try clear hk); (try clear hi); (try clear ho0); obtain ⟨Ao17, co17, eo17⟩ := Kd.S_slice HO170.out; subst eo17))
      go_ret2
      exact ⟨_, by first | rfl | (simp [errW_none, errW_some] <;> rfl) | (simp [*, errW_none, errW_some] <;> rfl), by first | exact Kd.R_nil _ _ _ _ _ | exact Kd.N_nil _ _ _ _ _ | exact Kd.V_nil _ _ _ _ _ | exact Kd.Q_nil _ _ _ _ _ | exact Kd.S_nil _ _ _ _ _, by repeat (first | (with_reducible first | exact HB.out | apply below_alloc | apply pw_below_drewN | apply below_drew1 | refine below_set ?_ GE165.out | refine below_set ?_ GE166.out) | exact HB.out)⟩
    · rw [if_neg c7] at H
      have c7b0 : ((t168.length : Int) == 0) = false := beq_eq_false_iff_ne.mpr c7
      have c7b1 : ((t168.length : Int) != 0) = true := bne_iff_ne.mpr c7
      have c7b2 : ¬ (t168 = []) := fun h_ => c7 (by rw [h_]; rfl)
      by_cases c18 : 0 < (t168.length : Int)
      · rw [if_pos c18] at H
        have c18b0 : decide (0 < (t168.length : Int)) = true := decide_eq_true c18
        have c18b1 : decide (0 < t168.length) = true := decide_eq_true (by omega)
        clear c18
        simp only [Option.some.injEq, Prod.mk.injEq] at H
        obtain ⟨rfl, rfl⟩ := H
        go_enter Try.func69, Try.ntmps69
        go_wp2_with (first | ((with_reducible refine gate_dst (N := 3) rfl ?_); refine box_event ?hg (N := 3) ?hd (cs := #[.slice A0_0 l0_0.length c0_0]) (t := 30) ?hr ?_; (case hd => rfl); (case hg => rfl); (case hr => first | (go_simp; done) | (go_simp; rfl)); intro gb165 hg w19 hbox hb; have n0_ := Aside0.mk (below_step (by repeat (first | (with_reducible first | exact HB.out | apply below_alloc | apply pw_below_drewN | apply below_drew1) | exact HB.out)) hb); have n1_ := Aside0.mk (hbox); have n2_ := Aside0.mk ((by rw [hg]; exact (below_size (by repeat (first | (with_reducible first | exact HB.out | apply below_alloc | apply pw_below_drewN | apply below_drew1) | exact HB.out))) : w.heap.size ≤ gb165)); have n3_ := Aside0.mk ((by rw [hg]; exact (below_size (by repeat (first | (with_reducible first | exact HB.out | apply below_alloc | apply pw_below_drewN | apply below_drew1) | exact HB.out))) : w.heap.size ≤ gb165)); clear HB; have HB := n0_; have BK165 := n1_; have GW165 := n2_; have GE165 := n3_; clear n0_ n1_ n2_ n3_; clear hb hbox hg) | ((with_reducible refine gate_dst (N := 5) rfl ?_); refine box_event ?hg (N := 5) ?hd (cs := #[.slice A2_0 l2_0.length c2_0]) (t := 59) ?hr ?_; (case hd => rfl); (case hg => rfl); (case hr => first | (go_simp; done) | (go_simp; rfl)); intro gb166 hg w20 hbox hb; have n0_ := Aside0.mk (blk_below (g := gb165) (o := .cells #[.slice A0_0 l0_0.length c0_0] 30 (0, 0)) (by (with_reducible repeat (first | refine blk_drewN ?_ _ | refine blk_drew ?_ | refine blk_alloc ?_ _)); exact BK165.out) hb); have n1_ := Aside0.mk (below_step (by repeat (first | (with_reducible first | exact HB.out | apply below_alloc | apply pw_below_drewN | apply below_drew1 | refine below_set ?_ GE165.out) | exact HB.out)) hb); have n2_ := Aside0.mk (hbox); have n3_ := Aside0.mk ((by rw [hg]; exact (below_size (by repeat (first | (with_reducible first | exact HB.out | apply below_alloc | apply pw_below_drewN | apply below_drew1 | refine below_set ?_ GE165.out) | exact HB.out))) : w.heap.size ≤ gb166)); have n4_ := Aside0.mk ((by rw [hg]; exact (below_size (by repeat (first | (with_reducible first | exact HB.out | apply below_alloc | apply pw_below_drewN | apply below_drew1 | refine below_set ?_ GE165.out) | exact HB.out))) : w.heap.size ≤ gb166)); have n5_ := Aside0.mk ((by rw [hg]; exact Nat.ne_of_lt (blk_lt (g := gb165) (o := .cells #[.slice A0_0 l0_0.length c0_0] 30 (0, 0)) (by (with_reducible repeat (first | refine blk_drewN ?_ _ | refine blk_drew ?_ | refine blk_alloc ?_ _)); exact BK165.out)) : gb165 ≠ gb166)); have n6_ := Aside0.mk ((by rw [hg]; exact Nat.ne_of_gt (blk_lt (g := gb165) (o := .cells #[.slice A0_0 l0_0.length c0_0] 30 (0, 0)) (by (with_reducible repeat (first | refine blk_drewN ?_ _ | refine blk_drew ?_ | refine blk_alloc ?_ _)); exact BK165.out)) : gb166 ≠ gb165)); clear BK165; clear HB; have BK165 := n0_; have HB := n1_; have BK166 := n2_; have GW166 := n3_; have GE166 := n4_; have NB165_166 := n5_; have NB166_165 := n6_; clear n0_ n1_ n2_ n3_ n4_ n5_ n6_; clear hb hbox hg; have hnb21 := NB165_166.out; have hnc21 := NB166_165.out; have hcz22_0 : w20.cell? ⟨gb165, 0, none⟩ = some (.slice A0_0 l0_0.length c0_0) := (blk_cell BK165.out 0).trans rfl; have hfz22_0 := blk_frozen BK165.out 0; have hcz23_0 : w20.cell? ⟨gb166, 0, none⟩ = some (.slice A2_0 l2_0.length c2_0) := (blk_cell BK166.out 0).trans rfl; have hfz23_0 := blk_frozen BK166.out 0) | ((with_reducible refine gate_callee (f := 97) rfl ?_); refine goesL_ (some 12) rfl rfl Try.func97 (by kernel_rfl) rfl #[.agg #[.slice A0_0 l0_0.length c0_0], .int .i64 a1, .agg #[.slice A2_0 l2_0.length c2_0]] rfl (by (try simp only [List.map_toArray, List.map_cons, List.map_nil]); first | done | rfl | (simp only [List.length_drop, List.length_take]; rfl)) ?_; (with_reducible refine (spec_skGood.calls k _ _ l0_0 a1 _ _ l2_0 true _ ?side1 ?side2 ?side3 ?side4 A4.out).mono ?_); (case side1 => repeat (first | exact (Kd.C_below HR0_0.out HB.out) | (with_reducible refine Kd.C_alloc ?_ _) | (with_reducible refine Kd.C_drewN ?_ _) | (with_reducible refine Kd.C_drew ?_))); (case side2 => exact HC0_0.out); (case side3 => repeat (first | exact (Kd.C_below HR2_0.out HB.out) | (with_reducible refine Kd.C_alloc ?_ _) | (with_reducible refine Kd.C_drewN ?_ _) | (with_reducible refine Kd.C_drew ?_))); (case side4 => exact HC2_0.out); rintro e w24 ⟨rfl, hb⟩; refine ⟨_, rfl, ?_⟩; have n0_ := Aside0.mk (blk_below (g := gb165) (o := .cells #[.slice A0_0 l0_0.length c0_0] 30 (0, 0)) (by (with_reducible repeat (first | refine blk_drewN ?_ _ | refine blk_drew ?_ | refine blk_alloc ?_ _)); exact BK165.out) hb); have n1_ := Aside0.mk (blk_below (g := gb166) (o := .cells #[.slice A2_0 l2_0.length c2_0] 59 (0, 0)) (by (with_reducible repeat (first | refine blk_drewN ?_ _ | refine blk_drew ?_ | refine blk_alloc ?_ _)); exact BK166.out) hb); have n2_ := Aside0.mk (below_step (by repeat (first | (with_reducible first | exact HB.out | apply below_alloc | apply pw_below_drewN | apply below_drew1 | refine below_set ?_ GE165.out | refine below_set ?_ GE166.out) | exact HB.out)) hb); clear BK165; clear BK166; clear HB; have BK165 := n0_; have BK166 := n1_; have HB := n2_; clear n0_ n1_ n2_; (try clear hb); (try clear hb2); (try clear hk); (try clear hi); have hcz25_0 : w24.cell? ⟨gb165, 0, none⟩ = some (.slice A0_0 l0_0.length c0_0) := (blk_cell BK165.out 0).trans rfl; have hfz25_0 := blk_frozen BK165.out 0; have hcz26_0 : w24.cell? ⟨gb166, 0, none⟩ = some (.slice A2_0 l2_0.length c2_0) := (blk_cell BK166.out 0).trans rfl; have hfz26_0 := blk_frozen BK166.out 0) | ((with_reducible refine gate_callee (f := 103) rfl ?_); refine goesL_ (some 16) rfl rfl Try.func103 (by kernel_rfl) rfl #[.agg #[.slice A0_0 l0_0.length c0_0], .agg #[.slice A2_0 l2_0.length c2_0]] rfl (by (try simp only [List.map_toArray, List.map_cons, List.map_nil]); first | done | rfl | (simp only [List.length_drop, List.length_take]; rfl)) ?_; (with_reducible refine (spec_skCycles.calls k _ _ l0_0 _ _ l2_0 t168 _ ?side1 ?side2 ?side3 ?side4 A6.out).mono ?_); (case side1 => repeat (first | exact (Kd.C_below HR0_0.out HB.out) | (with_reducible refine Kd.C_alloc ?_ _) | (with_reducible refine Kd.C_drewN ?_ _) | (with_reducible refine Kd.C_drew ?_))); (case side2 => exact HC0_0.out); (case side3 => repeat (first | exact (Kd.C_below HR2_0.out HB.out) | (with_reducible refine Kd.C_alloc ?_ _) | (with_reducible refine Kd.C_drewN ?_ _) | (with_reducible refine Kd.C_drew ?_))); (case side4 => exact HC2_0.out); rintro e w27 ⟨v169, rfl, ho0, hb⟩; refine ⟨_, rfl, ?_⟩; have n0_ := Aside0.mk (Kd.S_lower ho0 (below_size (by repeat (first | (with_reducible first | exact HB.out | apply below_alloc | apply pw_below_drewN | apply below_drew1 | refine below_set ?_ GE165.out | refine below_set ?_ GE166.out) | exact HB.out)))); have n1_ := Aside0.mk (blk_below (g := gb165) (o := .cells #[.slice A0_0 l0_0.length c0_0] 30 (0, 0)) (by (with_reducible repeat (first | refine blk_drewN ?_ _ | refine blk_drew ?_ | refine blk_alloc ?_ _)); exact BK165.out) hb); have n2_ := Aside0.mk (blk_below (g := gb166) (o := .cells #[.slice A2_0 l2_0.length c2_0] 59 (0, 0)) (by (with_reducible repeat (first | refine blk_drewN ?_ _ | refine blk_drew ?_ | refine blk_alloc ?_ _)); exact BK166.out) hb); have n3_ := Aside0.mk (below_step (by repeat (first | (with_reducible first | exact HB.out | apply below_alloc | apply pw_below_drewN | apply below_drew1 | refine below_set ?_ GE165.out | refine below_set ?_ GE166.out) | exact HB.out)) hb); clear BK165; clear BK166; clear HB; have HO170 := n0_; have BK165 := n1_; have BK166 := n2_; have HB := n3_; clear n0_ n1_ n2_ n3_; (try clear hb); (try clear hb2); (try clear hk); (try clear hi); (try clear ho0); obtain ⟨Ao28, co28, eo28⟩ := Kd.S_slice HO170.out; subst eo28; have p171 : 0 ≤ (0 : Int) := (by omega); have q171 : 0 < (t168.length : Int) := of_decide_eq_true (by first | (with_reducible assumption) | assumption); obtain ⟨ad171, A171_0, c171_0, e171, hx171_0, hl171_0, hi171_0⟩ := at_L1 (Kd.S_reads' HO170.out).2.2 0 p171 q171; cases e171; obtain ⟨ce171, hce171, hMe171, hcc171⟩ := Kd.S_get HO170.out [] 0 p171 (by first | exact q171 | exact of_decide_eq_true (by first | (with_reducible assumption) | assumption) | (have e_ := (Kd.S_reads' HO170.out).1; omega)); obtain ⟨ve171_0, rfl, ge171_0⟩ := hMe171; have hv171_0 := hcc171 0 _ rfl; rw [Nat.add_zero, show ((Kd.slice 3 (Kd.int .i64))).sz = 1 from rfl, Nat.mul_one] at hv171_0; replace hv171_0 := Option.some.inj (hv171_0.symm.trans hx171_0); rw [hv171_0] at ge171_0; have HL171_0 := Aside0.mk (show Kd.R (Kd.int .i64) 3 _ _ _ _ (rd_L1 t168 0) from ge171_0); clear hv171_0 ge171_0; clear hcc171 hce171; have qi171 : (0 < t168.length) = True := eq_true (by omega); (try rw [show ((0 : Int)).toNat = 0 from rfl] at hx171_0); (try rw [Addr.add_zero'] at hx171_0); have HR171_0 := Aside0.mk hi171_0; have HC171_0 := Aside0.mk hl171_0; clear hi171_0 hl171_0; replace p171 := eq_true p171; replace q171 := eq_true q171))
        go_ret2
        exact ⟨_, by first | rfl | (simp [errW_none, errW_some] <;> rfl) | (simp [*, errW_none, errW_some] <;> rfl), by (with_reducible repeat (first | apply Kd.R_alloc | apply Kd.R_drewN | apply Kd.R_drew)); exact Kd.R_mono HL171_0.out (fun _ hk => trivial), by repeat (first | (with_reducible first | exact HB.out | apply below_alloc | apply pw_below_drewN | apply below_drew1 | refine below_set ?_ GE165.out | refine below_set ?_ GE166.out) | exact HB.out)⟩
      · rw [if_neg c18] at H
        exact absurd H (by simp)
  · replace c5 := Bool.eq_false_iff.mpr c5
    subst c5
    have H1 : (some (([] : List Int), false)) = some (r1, r2) := by rw [if_neg (show ¬ (false = true) by decide)] at H; exact H
    clear H
    have H := H1
    clear H1
    simp only [Option.some.injEq, Prod.mk.injEq] at H
    obtain ⟨rfl, rfl⟩ := H
    go_enter Try.func69, Try.ntmps69
    go_wp2_with (first | ((with_reducible refine gate_dst (N := 3) rfl ?_); refine box_event ?hg (N := 3) ?hd (cs := #[.slice A0_0 l0_0.length c0_0]) (t := 30) ?hr ?_; (case hd => rfl); (case hg => rfl); (case hr => first | (go_simp; done) | (go_simp; rfl)); intro gb165 hg w29 hbox hb; have n0_ := Aside0.mk (below_step (by repeat (first | (with_reducible first | exact HB.out | apply below_alloc | apply pw_below_drewN | apply below_drew1) | exact HB.out)) hb); have n1_ := Aside0.mk (hbox); have n2_ := Aside0.mk ((by rw [hg]; exact (below_size (by repeat (first | (with_reducible first | exact HB.out | apply below_alloc | apply pw_below_drewN | apply below_drew1) | exact HB.out))) : w.heap.size ≤ gb165)); have n3_ := Aside0.mk ((by rw [hg]; exact (below_size (by repeat (first | (with_reducible first | exact HB.out | apply below_alloc | apply pw_below_drewN | apply below_drew1) | exact HB.out))) : w.heap.size ≤ gb165)); clear HB; have HB := n0_; have BK165 := n1_; have GW165 := n2_; have GE165 := n3_; clear n0_ n1_ n2_ n3_; clear hb hbox hg) | ((with_reducible refine gate_dst (N := 5) rfl ?_); refine box_event ?hg (N := 5) ?hd (cs := #[.slice A2_0 l2_0.length c2_0]) (t := 59) ?hr ?_; (case hd => rfl); (case hg => rfl); (case hr => first | (go_simp; done) | (go_simp; rfl)); intro gb166 hg w30 hbox hb; have n0_ := Aside0.mk (blk_below (g := gb165) (o := .cells #[.slice A0_0 l0_0.length c0_0] 30 (0, 0)) (by (with_reducible repeat (first | refine blk_drewN ?_ _ | refine blk_drew ?_ | refine blk_alloc ?_ _)); exact BK165.out) hb); have n1_ := Aside0.mk (below_step (by repeat (first | (with_reducible first | exact HB.out | apply below_alloc | apply pw_below_drewN | apply below_drew1 | refine below_set ?_ GE165.out) | exact HB.out)) hb); have n2_ := Aside0.mk (hbox); have n3_ := Aside0.mk ((by rw [hg]; exact (below_size (by repeat (first | (with_reducible first | exact HB.out | apply below_alloc | apply pw_below_drewN | apply below_drew1 | refine below_set ?_ GE165.out) | exact HB.out))) : w.heap.size ≤ gb166)); have n4_ := Aside0.mk ((by rw [hg]; exact (below_size (by repeat (first | (with_reducible first | exact HB.out | apply below_alloc | apply pw_below_drewN | apply below_drew1 | refine below_set ?_ GE165.out) | exact HB.out))) : w.heap.size ≤ gb166)); have n5_ := Aside0.mk ((by rw [hg]; exact Nat.ne_of_lt (blk_lt (g := gb165) (o := .cells #[.slice A0_0 l0_0.length c0_0] 30 (0, 0)) (by (with_reducible repeat (first | refine blk_drewN ?_ _ | refine blk_drew ?_ | refine blk_alloc ?_ _)); exact BK165.out)) : gb165 ≠ gb166)); have n6_ := Aside0.mk ((by rw [hg]; exact Nat.ne_of_gt (blk_lt (g := gb165) (o := .cells #[.slice A0_0 l0_0.length c0_0] 30 (0, 0)) (by (with_reducible repeat (first | refine blk_drewN ?_ _ | refine blk_drew ?_ | refine blk_alloc ?_ _)); exact BK165.out)) : gb166 ≠ gb165)); clear BK165; clear HB; have BK165 := n0_; have HB := n1_; have BK166 := n2_; have GW166 := n3_; have GE166 := n4_; have NB165_166 := n5_; have NB166_165 := n6_; clear n0_ n1_ n2_ n3_ n4_ n5_ n6_; clear hb hbox hg; have hnb31 := NB165_166.out; have hnc31 := NB166_165.out; have hcz32_0 : w30.cell? ⟨gb165, 0, none⟩ = some (.slice A0_0 l0_0.length c0_0) := (blk_cell BK165.out 0).trans rfl; have hfz32_0 := blk_frozen BK165.out 0; have hcz33_0 : w30.cell? ⟨gb166, 0, none⟩ = some (.slice A2_0 l2_0.length c2_0) := (blk_cell BK166.out 0).trans rfl; have hfz33_0 := blk_frozen BK166.out 0) | ((with_reducible refine gate_callee (f := 97) rfl ?_); refine goesL_ (some 12) rfl rfl Try.func97 (by kernel_rfl) rfl #[.agg #[.slice A0_0 l0_0.length c0_0], .int .i64 a1, .agg #[.slice A2_0 l2_0.length c2_0]] rfl (by (try simp only [List.map_toArray, List.map_cons, List.map_nil]); first | done | rfl | (simp only [List.length_drop, List.length_take]; rfl)) ?_; (with_reducible refine (spec_skGood.calls k _ _ l0_0 a1 _ _ l2_0 false _ ?side1 ?side2 ?side3 ?side4 A4.out).mono ?_); (case side1 => repeat (first | exact (Kd.C_below HR0_0.out HB.out) | (with_reducible refine Kd.C_alloc ?_ _) | (with_reducible refine Kd.C_drewN ?_ _) | (with_reducible refine Kd.C_drew ?_))); (case side2 => exact HC0_0.out); (case side3 => repeat (first | exact (Kd.C_below HR2_0.out HB.out) | (with_reducible refine Kd.C_alloc ?_ _) | (with_reducible refine Kd.C_drewN ?_ _) | (with_reducible refine Kd.C_drew ?_))); (case side4 => exact HC2_0.out); rintro e w34 ⟨rfl, hb⟩; refine ⟨_, rfl, ?_⟩; have n0_ := Aside0.mk (blk_below (g := gb165) (o := .cells #[.slice A0_0 l0_0.length c0_0] 30 (0, 0)) (by (with_reducible repeat (first | refine blk_drewN ?_ _ | refine blk_drew ?_ | refine blk_alloc ?_ _)); exact BK165.out) hb); have n1_ := Aside0.mk (blk_below (g := gb166) (o := .cells #[.slice A2_0 l2_0.length c2_0] 59 (0, 0)) (by (with_reducible repeat (first | refine blk_drewN ?_ _ | refine blk_drew ?_ | refine blk_alloc ?_ _)); exact BK166.out) hb); have n2_ := Aside0.mk (below_step (by repeat (first | (with_reducible first | exact HB.out | apply below_alloc | apply pw_below_drewN | apply below_drew1 | refine below_set ?_ GE165.out | refine below_set ?_ GE166.out) | exact HB.out)) hb); clear BK165; clear BK166; clear HB; have BK165 := n0_; have BK166 := n1_; have HB := n2_; clear n0_ n1_ n2_; (try clear hb); (try clear hb2); (try clear hk); (try clear hi)))
    go_ret2
    exact ⟨_, by first | rfl | (simp [errW_none, errW_some] <;> rfl) | (simp [*, errW_none, errW_some] <;> rfl), by first | exact Kd.R_nil _ _ _ _ _ | exact Kd.N_nil _ _ _ _ _ | exact Kd.V_nil _ _ _ _ _ | exact Kd.Q_nil _ _ _ _ _ | exact Kd.S_nil _ _ _ _ _, by repeat (first | (with_reducible first | exact HB.out | apply below_alloc | apply pw_below_drewN | apply below_drew1 | refine below_set ?_ GE165.out | refine below_set ?_ GE166.out) | exact HB.out)⟩
end Go.Proofs.Ytnbnalbomflafaa.GS
/-! ## Y1 -/
namespace Go.Proofs.Ytnbnalbomflafaa.RA
open Go.RowKit Go.Proofs.YtnbnalbomflafaaW.PrintWords Go.Proofs.YtnbnalbomflafaaW.PrintLast Go.Proofs.YtnbnalbomflafaaW.PrintMore
open Go.Proofs.Ytnbnalbomflafaa.GA
open Go.Proofs.Ytnbnalbomflafaa.KA
set_option linter.unusedVariables false
set_option linter.unusedSimpArgs false
def slices_Min_int_int.f (l0 : List Int) : Option Int := if l0 = [] then none else some (Lib.minOf l0)
theorem slices_Min_int_int.calls (A : Option Addr) (c : Nat) (l : List Int) (r : Int) (w : World) (hr : Kd.C (Kd.int .i64) w A l.length l) (hc0 : l.length ≤ c) (h : slices_Min_int_int.f l = some r) :
    Calls Try.prog 130 #[.slice A l.length c] w fun e w' => e = .returned (.int .i64 r) ∧ Drawn0 w w' := by
  unfold slices_Min_int_int.f at h
  split at h
  · cases h
  · rename_i hne
    injection h with h
    subst h
    have h0 : 0 < l.length := List.length_pos_iff.2 hne
    have hcell : ∀ j, j < l.length → ∃ ad, A = some ad ∧ w.cell? (ad.add j) = some (.int .i64 (l.getD j 0)) := fun j hj => by
      obtain ⟨ad, e, hc⟩ := Kd.at_int hr (j : Int) (by omega) (by omega)
      rw [Int.toNat_natCast] at hc
      exact ⟨ad, e, by simpa [rd] using hc⟩
    obtain ⟨ad, rfl, hc0⟩ := hcell 0 h0
    have hpl : ad = ⟨ad.block, ad.off, none⟩ := addr_plain (by simpa [Addr.add] using hc0)
    have hc : ∀ j, j < l.length → w.cell? ⟨ad.block, ad.off + j, none⟩ = some (.int .i64 (l.getD j 0)) := fun j hj => by
      obtain ⟨ad', e, hc⟩ := hcell j hj
      injection e with e
      subst e
      rw [← hc]
      congr 1
      unfold Addr.add
      split
      · rename_i h; subst h; exact hpl.symm
      · rfl
    rw [hpl]
    have hlen : l.length ≤ 9223372036854775807 := hr.2.1
    refine (Try.slices_Min_int ad.block ad.off l.length c l w h0 (Nat.le_refl _) hlen hc).mono ?_
    rintro e w' ⟨rfl, rfl⟩
    rw [List.take_of_length_le (Nat.le_refl _)]
    exact ⟨rfl, 0, rfl⟩
def slices_Grow_int_int.f (l0 : List Int) (a1 : Int) : Option (List Int) := if l0 = [] ∧ 0 ≤ a1 ∧ a1 ≤ 17592186044416 then some [] else none
set_option maxHeartbeats 4000000 in
set_option maxRecDepth 100000 in
theorem grow_zero (w : World) : Calls Try.prog 133 #[.slice none 0 0, .int .i64 0] w fun e w' => e = .returned (.slice none 0 0) ∧ w' = w := by
  go_enter Try.func133, Try.ntmps133
  go_wp2
  go_ret
  exact ⟨rfl, rfl⟩
set_option maxHeartbeats 4000000 in
set_option maxRecDepth 100000 in
theorem grow_some (n : Nat) (w : World) (h0 : 0 < n) (hn : n ≤ 17592186044416) : Calls Try.prog 133 #[.slice none 0 0, .int .i64 n] w fun e w' => ∃ cap cur, e = .returned (.slice (some ⟨w.heap.size, 0, none⟩) 0 cap) ∧ w' = w.drew.alloc (.cells cur 3) ∧ cap ≤ maxLen ∧ cur.size = cap := by
  obtain ⟨i0, z, hi0, hz0, hz1, hs0, hb0⟩ : ∃ i0 z, Try.prog.info? 3 = some i0 ∧ i0.zero = some z ∧ z.cells.size = 1 ∧ i0.size = 1 ∧ i0.bytes = 8 := by
    have hI := GA.info3
    cases hh : Try.prog.info? 3 with
    | none => rw [hh] at hI; cases hI
    | some i =>
      rw [hh] at hI
      injection hI with hI
      injection hI with e1 e2
      injection e2 with e2 e3
      exact ⟨i, .int .i64 0, rfl, e1, rfl, e2, e3⟩
  have h1 : ¬ ((n : Int) < 0) := by omega
  have h3 : wrap64 ((n : Int)) = (n : Int) := by unfold wrap64; omega
  have h4 : (n : Int) > 0 := by omega
  have hold : (Builtin.firstCells i0.size 0 (.slice none 0 0)).run Try.prog w.drew = .ok (([] : List Value).toArray) w.drew := run_firstCells_none w.drew i0.size 0 0 0
  have hrz : ∀ ty, (Builtin.append_ #[37, 3] ty #[.slice none 0 0, .int .i64 (n : Int)]).run Try.prog w =
      .ok (.slice (some ⟨w.heap.size, 0, none⟩) n (grownCap w n 0 3)) (w.drew.alloc (.cells ((([] : List Value).toArray) ++ Builtin.zeroCells z.cells n ++ Builtin.zeroCells z.cells (grownCap w n 0 3 - n)) 3)) := fun ty => by
    have h := Lib.run_append_grow_zeros w 37 3 ty 3 i0 z .i64 .i64 Try.underlying37 Try.underlying3 hi0 hz0 none 0 0 [] hold n h0 (by omega) (by omega) (by omega) (by rw [hb0]; omega)
      (growslice_fits (by omega) (by rw [hb0]; omega))
    simpa using h
  have hGn : n ≤ grownCap w n 0 3 := grownCap_ge w _ _ _
  have hGm : grownCap w n 0 3 ≤ maxLen := grownCap_le_maxLen w n 0 3 (by unfold maxLen; omega)
  have hsz : ((([] : List Value).toArray) ++ Builtin.zeroCells z.cells n ++ Builtin.zeroCells z.cells (grownCap w n 0 3 - n)).size = grownCap w n 0 3 := by
    simp [Builtin.zeroCells, hz1]
    omega
  obtain ⟨G, hG⟩ : ∃ G, G = grownCap w n 0 3 := ⟨_, rfl⟩
  obtain ⟨cur, hcur⟩ : ∃ cur, cur = ((([] : List Value).toArray) ++ Builtin.zeroCells z.cells n ++ Builtin.zeroCells z.cells (grownCap w n 0 3 - n)) := ⟨_, rfl⟩
  rw [← hcur, ← hG] at hrz
  rw [← hcur, ← hG] at hsz
  rw [← hG] at hGn hGm
  have hG63 : G ≤ 9223372036854775807 := by unfold maxLen at hGm; omega
  have HS := Aside0.mk hsz
  have HM := Aside0.mk hGm
  clear hold hcur hG hsz hGm hi0 hz0 hz1 hs0 hb0
  go_enter Try.func133, Try.ntmps133
  go_wp2_with (at_builtin; refine Lib.wpList_append_run _ rfl _ _ _ _ rfl _ _ rfl rfl _ _ (hrz _) ?_)
  all_goals (go_ret; first | exact ⟨G, cur, rfl, rfl, HM.out, HS.out⟩ | exact ⟨G, rfl, cur, rfl, HM.out, HS.out⟩)
theorem slices_Grow_int_int.calls (A0 : Option Addr) (c0 : Nat) (l0 : List Int) (a1 : Int) (r : List Int) (w : World) (hr0 : A0 = none) (hc0 : c0 ≤ 0) (h : slices_Grow_int_int.f l0 a1 = some r) :
    Calls Try.prog 133 #[.slice A0 l0.length c0, .int .i64 a1] w fun e w' => ∃ v0_ : Value, e = .returned (v0_) ∧ Kd.R (Kd.int .i64) 3 w' w.heap.size (fun _ => True) v0_ r ∧ Below w.heap.size w w' := by
  unfold slices_Grow_int_int.f at h
  split at h
  · rename_i hh
    obtain ⟨rfl, h1, h2⟩ := hh
    injection h with h
    subst h
    subst hr0
    obtain rfl : c0 = 0 := by omega
    obtain ⟨n, rfl⟩ := Int.eq_ofNat_of_zero_le h1
    rcases Nat.eq_zero_or_pos n with h0 | h0
    · subst h0
      refine (grow_zero w).mono ?_
      rintro e w' ⟨rfl, rfl⟩
      exact ⟨_, rfl, Kd.R_nil _ _ _ _ _, Below.refl _ _⟩
    · refine (grow_some n w h0 (by omega)).mono ?_
      rintro e w' ⟨cap, cur, rfl, rfl, h3, h4⟩
      refine ⟨_, rfl, ⟨fun _ _ => trivial, [], ⟨rfl, Or.inr ⟨w.heap.size, cap, cur, rfl, Nat.le_refl _, ?_, Nat.zero_le _, h3, ?_, ?_⟩⟩, Reps.none _ _⟩, by repeat (first | exact Below.refl _ _ | apply below_alloc | apply below_drew1)⟩
      · have := blk_new w.drew (.cells cur 3)
        simpa using this
      · show cur.size = cap * 1
        omega
      · simp
  · cases h
end Go.Proofs.Ytnbnalbomflafaa.RA
/-! ## GZ0 -/
namespace Go.Proofs.Ytnbnalbomflafaa.GZ
open Go.RowKit Go.Proofs.YtnbnalbomflafaaW.PrintWords Go.Proofs.YtnbnalbomflafaaW.PrintLast Go.Proofs.YtnbnalbomflafaaW.PrintMore
open Go.Proofs.Ytnbnalbomflafaa.GA Go.Proofs.Ytnbnalbomflafaa.RA
attribute [local go_sem] max2_int min2_int max_two min_two max_three min_three max_four min_four   -- for this text's walks alone
set_option linter.unusedVariables false
set_option linter.unusedSimpArgs false
def errW : Option Int → Value
  | none => .nilIface
  | some c => .iface 0 (.int .i64 c)
theorem errW_none : errW none = .nilIface := rfl
theorem errW_some (c : Int) : errW (some c) = .iface 0 (.int .i64 c) := rfl
theorem info3 : (Try.prog.info? 3).map (fun i => (i.zero, i.size, i.bytes)) = some (some (.int .i64 0), 1, 8) := by kernel_rfl
def rd_L1 (xs : List (List Int)) (i : Int) : (List Int) := xs.getD i.toNat ([] : List Int)
theorem at_L1 {w : World} {A : Option Addr} {n : Nat} {xs : List (List Int)} (h : Kd.C (Kd.slice 3 (Kd.int .i64)) w A n xs) (i : Int) (h0 : 0 ≤ i) (h1 : i < n) : ∃ ad A0 c0, A = some ad ∧ w.cell? (ad.add i.toNat) = some (.slice A0 (rd_L1 xs i).length c0) ∧ (rd_L1 xs i).length ≤ c0 ∧ (Kd.int .i64).C w A0 (rd_L1 xs i).length (rd_L1 xs i) := by
  obtain ⟨ad, c, e, _, hK, hc0⟩ := Kd.C_get h ([] : List Int) i h0 h1
  have hc : ∀ j u, c[j]? = some u → w.cell? (ad.add (i.toNat * 1 + j)) = some u := hc0
  obtain ⟨A0, c0, rfl, l0, g0⟩ := hK
  exact ⟨ad, A0, c0, e, by have hq := hc 0 _ rfl; rwa [Nat.mul_one, Nat.add_zero] at hq, l0, g0⟩
end Go.Proofs.Ytnbnalbomflafaa.GZ
/-! ## GZ1 -/
namespace Go.Proofs.Ytnbnalbomflafaa.GZ
open Go.RowKit Go.Proofs.YtnbnalbomflafaaW.PrintWords Go.Proofs.YtnbnalbomflafaaW.PrintLast Go.Proofs.YtnbnalbomflafaaW.PrintMore
open Go.Proofs.Ytnbnalbomflafaa.GA Go.Proofs.Ytnbnalbomflafaa.RA
attribute [local go_sem] max2_int min2_int max_two min_two max_three min_three max_four min_four   -- for this text's walks alone
set_option linter.unusedVariables false
set_option linter.unusedSimpArgs false
mutual
def slices_Concat_int_int.l0 : Nat → List (List Int) → Int → List (List Int) → Int → Int → Option (List Int)
  | 0, _, _, _, _, _ => none
  | k + 1, x0, x3, x9, x10, x11 => if x11 < x10 then (if 0 ≤ x11 then (if x11 < (x9.length : Int) then (if (wrap64 (x3 + ((rd_L1 x9 x11).length : Int))) < 0 then (if 0 ≤ (-1) then (if (-1) < ((rd_L1 x9 x11).length : Int) then (slices_Concat_int_int.l0 k x0 (wrap64 (x3 + ((rd_L1 x9 x11).length : Int))) x9 x10 (wrap64 (x11 + 1))) else (none)) else (none)) else (slices_Concat_int_int.l0 k x0 (wrap64 (x3 + ((rd_L1 x9 x11).length : Int))) x9 x10 (wrap64 (x11 + 1)))) else (none)) else (none)) else ((slices_Grow_int_int.f ([] : List Int) x3).bind fun t103 => (slices_Concat_int_int.l1 k t103 x0 (x0.length : Int) 0))
def slices_Concat_int_int.l1 : Nat → List Int → List (List Int) → Int → Int → Option (List Int)
  | 0, _, _, _, _ => none
  | k + 1, x6, x25, x26, x27 => if x27 < x26 then (if 0 ≤ x27 then (if x27 < (x25.length : Int) then (if x6.length + (rd_L1 x25 x27).length < 17592186044416 then (slices_Concat_int_int.l1 k (x6 ++ (rd_L1 x25 x27)) x25 x26 (wrap64 (x27 + 1))) else (none)) else (none)) else (none)) else (some x6)
end
def slices_Concat_int_int.f (k : Nat) (l0 : List (List Int)) : Option (List Int) := slices_Concat_int_int.l0 k l0 0 l0 (l0.length : Int) 0
theorem slices_Concat_int_int.mono_l : ∀ k, (∀ y0 y1 y2 y3 y4, LeO (slices_Concat_int_int.l0 k y0 y1 y2 y3 y4) (slices_Concat_int_int.l0 (k + 1) y0 y1 y2 y3 y4)) ∧ (∀ y0 y1 y2 y3, LeO (slices_Concat_int_int.l1 k y0 y1 y2 y3) (slices_Concat_int_int.l1 (k + 1) y0 y1 y2 y3))
  | 0 => ⟨fun _ _ _ _ _ r h => by simp [slices_Concat_int_int.l0] at h, fun _ _ _ _ r h => by simp [slices_Concat_int_int.l1] at h⟩
  | k + 1 => by
    obtain ⟨ih0, ih1⟩ := slices_Concat_int_int.mono_l k
    refine ⟨?_, ?_⟩
    · intro y0 y1 y2 y3 y4
      unfold slices_Concat_int_int.l0
      repeat' first
      | (with_reducible exact ih0 _ _ _ _ _)
      | (with_reducible exact ih1 _ _ _ _)
      | (with_reducible exact LeO.refl _)
      | (with_reducible exact LeO.none _)
      | (with_reducible refine LeO.ite ?_ ?_)
      | (with_reducible refine LeO.bind ?_ (fun _ => ?_))
      | exact ih0 _ _ _ _ _
      | exact ih1 _ _ _ _
      | exact LeO.none _
      | refine LeO.ite ?_ ?_
      | refine LeO.bind ?_ (fun _ => ?_)
    · intro y0 y1 y2 y3
      unfold slices_Concat_int_int.l1
      repeat' first
      | (with_reducible exact ih0 _ _ _ _ _)
      | (with_reducible exact ih1 _ _ _ _)
      | (with_reducible exact LeO.refl _)
      | (with_reducible exact LeO.none _)
      | (with_reducible refine LeO.ite ?_ ?_)
      | (with_reducible refine LeO.bind ?_ (fun _ => ?_))
      | exact ih0 _ _ _ _ _
      | exact ih1 _ _ _ _
      | exact LeO.none _
      | refine LeO.ite ?_ ?_
      | refine LeO.bind ?_ (fun _ => ?_)
theorem slices_Concat_int_int.mono : ∀ a0 k, LeO (slices_Concat_int_int.f k a0) (slices_Concat_int_int.f (k + 1) a0) := by
  intro a0 k
  obtain ⟨ih0, ih1⟩ := slices_Concat_int_int.mono_l k
  unfold slices_Concat_int_int.f
  repeat' first
      | (with_reducible exact ih0 _ _ _ _ _)
      | (with_reducible exact ih1 _ _ _ _)
      | (with_reducible exact LeO.refl _)
      | (with_reducible exact LeO.none _)
      | (with_reducible refine LeO.ite ?_ ?_)
      | (with_reducible refine LeO.bind ?_ (fun _ => ?_))
      | exact ih0 _ _ _ _ _
      | exact ih1 _ _ _ _
      | exact LeO.none _
      | refine LeO.ite ?_ ?_
      | refine LeO.bind ?_ (fun _ => ?_)
set_option maxHeartbeats 8000000 in
set_option maxRecDepth 100000 in
theorem slices_Concat_int_int.calls (k : Nat) (A0 : Option Addr) (c0 : Nat) (l0 : List (List Int)) (r : List Int) (w : World) (hr0 : Kd.C (Kd.slice 3 (Kd.int .i64)) w A0 l0.length l0) (hc0 : l0.length ≤ c0) (h : slices_Concat_int_int.f k l0 = some r) :
    Calls Try.prog 131 #[.slice A0 l0.length c0] w fun e w' => ∃ v0_ : Value, e = .returned (v0_) ∧ Kd.R (Kd.int .i64) 3 w' w.heap.size (fun _ => True) v0_ r ∧ Below w.heap.size w w' := by
  have HR0 := Aside0.mk hr0
  have HC0 := Aside0.mk hc0
  clear hr0 hc0
  have HB := Aside0.mk (Below.refl w.heap.size w)
  have H : (slices_Concat_int_int.l0 k l0 0 l0 (l0.length : Int) 0) = some r := h
  clear h
  have H' := Aside0.mk H
  clear H
  go_enter Try.func131, Try.ntmps131
  go_wp2
  go_loopg [3, 11] k (fun kq v3 v11 w' => ∃ (x3_1 : Int) (x11_1 : Int), v3 = .int .i64 x3_1 ∧ v11 = .int .i64 x11_1 ∧ Aside0 (slices_Concat_int_int.l0 kq l0 x3_1 l0 (l0.length : Int) x11_1 = some r) ∧ Aside0 (kq ≤ k) ∧ Aside0 (Below w.heap.size w w'))
  case atStart => exact ⟨(0), (0), (by first | rfl | (simp; done) | (simp [*]; done)), (by first | rfl | (simp; done) | (simp [*]; done)), H', ⟨Nat.le_refl _⟩, ⟨by repeat (first | (with_reducible first | exact HB.out | apply below_alloc | apply pw_below_drewN | apply below_drew1) | exact HB.out)⟩⟩
  case round =>
    clear H'
    try clear c1
    obtain ⟨x3_1, x11_1, rfl, rfl, HA, HK1, HB⟩ := hrel
    cases gk with
    | zero => exact absurd HA.out (by simp [slices_Concat_int_int.l0])
    | succ k1 =>
      have H := HA.out
      clear HA
      simp only [slices_Concat_int_int.l0] at H
      by_cases c2 : x11_1 < (l0.length : Int)
      · rw [if_pos c2] at H
        have c2b0 : decide (x11_1 < (l0.length : Int)) = true := decide_eq_true c2
        clear c2
        by_cases c3 : 0 ≤ x11_1
        · rw [if_pos c3] at H
          have c3b0 : decide (0 ≤ x11_1) = true := decide_eq_true c3
          clear c3
          by_cases c4 : x11_1 < (l0.length : Int)
          · rw [if_pos c4] at H
            have c4b0 : decide (x11_1 < (l0.length : Int)) = true := decide_eq_true c4
            clear c4
            by_cases c5 : (wrap64 (x3_1 + ((rd_L1 l0 x11_1).length : Int))) < 0
            · rw [if_pos c5] at H
              have c5b0 : decide ((wrap64 (x3_1 + ((rd_L1 l0 x11_1).length : Int))) < 0) = true := decide_eq_true c5
              clear c5
              by_cases c6 : 0 ≤ (-1)
              · exact absurd c6 (by decide)
              · rw [if_neg c6] at H
                exact absurd H (by simp)
            · rw [if_neg c5] at H
              have c5b0 : decide ((wrap64 (x3_1 + ((rd_L1 l0 x11_1).length : Int))) < 0) = false := decide_eq_false c5
              clear c5
              have H' := Aside0.mk H
              clear H
              have p101 : 0 ≤ (x11_1 : Int) := of_decide_eq_true (by first | (with_reducible assumption) | assumption)
              have q101 : x11_1 < (l0.length : Int) := of_decide_eq_true (by first | (with_reducible assumption) | assumption)
              obtain ⟨ad101, A101_0, c101_0, e101, hx101_0, hl101_0, hi101_0⟩ := at_L1 HR0.out x11_1 p101 q101
              cases e101
              replace hx101_0 := (HB.out.cell (World.block_lt_of_cell? w _ hx101_0)).trans hx101_0
              have HR101_0 := Aside0.mk hi101_0
              have HC101_0 := Aside0.mk hl101_0
              clear hi101_0 hl101_0
              replace p101 := eq_true p101
              replace q101 := eq_true q101
              go_wp2
              go_roundg k1
              case measure => have := HK1.out; omega
              case rel => exact ⟨(wrap64 (x3_1 + ((rd_L1 l0 x11_1).length : Int))), (wrap64 (x11_1 + 1)), (by first | rfl | (simp; done) | (simp [*]; done)), (by first | rfl | (simp; done) | (simp [*]; done)), H', ⟨by have := HK1.out; omega⟩, ⟨by repeat (first | (with_reducible first | exact HB.out | apply below_alloc | apply pw_below_drewN | apply below_drew1) | exact HB.out)⟩⟩
          · rw [if_neg c4] at H
            exact absurd H (by simp)
        · rw [if_neg c3] at H
          exact absurd H (by simp)
      · rw [if_neg c2] at H
        have c2b0 : decide (x11_1 < (l0.length : Int)) = false := decide_eq_false c2
        clear c2
        replace H := Option.bind_eq_some_iff.mp H
        obtain ⟨t103, A80, H⟩ := H
        replace H : (slices_Concat_int_int.l1 k1 t103 l0 (l0.length : Int) 0) = some r := H
        have A8 := Aside0.mk A80
        clear A80
        have H' := Aside0.mk H
        clear H
        go_wp2_with (first | ((with_reducible refine gate_callee (f := 133) rfl ?_); refine goesL_ (some 24) rfl rfl Try.func133 (by kernel_rfl) rfl #[.slice none 0 0, .int .i64 x3_1] rfl (by (try simp only [List.map_toArray, List.map_cons, List.map_nil]); first | done | rfl | (simp only [List.length_drop, List.length_take]; rfl)) ?_; (refine (slices_Grow_int_int.calls _ _ ([] : List Int) x3_1 t103 _ ?side1 ?side2 A8.out).mono ?_); (case side1 => exact rfl); (case side2 => exact Nat.le_refl _); rintro e w9 ⟨v104, rfl, ho0, hb⟩; refine ⟨_, rfl, ?_⟩; have n0_ := Aside0.mk (Kd.R_lower ho0 (below_size (by repeat (first | (with_reducible first | exact HB.out | apply below_alloc | apply pw_below_drewN | apply below_drew1) | exact HB.out)))); have n1_ := Aside0.mk (below_step (by repeat (first | (with_reducible first | exact HB.out | apply below_alloc | apply pw_below_drewN | apply below_drew1) | exact HB.out)) hb); clear HB; have HO105 := n0_; have HB := n1_; clear n0_ n1_; (try clear hb); (try clear hb2); (try clear hk); (try clear hi); (try clear ho0)))
        go_loopg [6, 27] k1 (fun kq v6 v27 w' => ∃ (x6_2 : List Int) (x27_2 : Int), v27 = .int .i64 x27_2 ∧ Aside0 (slices_Concat_int_int.l1 kq x6_2 l0 (l0.length : Int) x27_2 = some r) ∧ Aside0 (kq ≤ k1) ∧ Aside0 (Kd.R (Kd.int .i64) 3 w' w.heap.size (fun _ => True) v6 x6_2) ∧ Aside0 (Below w.heap.size w w'))
        case atStart => exact ⟨(t103), (0), (by first | rfl | (simp; done) | (simp [*]; done)), H', ⟨Nat.le_refl _⟩, ⟨by (with_reducible repeat (first | apply Kd.R_alloc | apply Kd.R_drewN | apply Kd.R_drew)); exact HO105.out⟩, ⟨by repeat (first | (with_reducible first | exact HB.out | apply below_alloc | apply pw_below_drewN | apply below_drew1) | exact HB.out)⟩⟩
        case round =>
          clear H'
          try clear c1
          try clear p1
          try clear q1
          try clear hx1
          try clear c2
          try clear c2b0
          try clear p2
          try clear c3
          try clear c3b0
          try clear c4
          try clear c4b0
          try clear c5
          try clear c5b0
          try clear c6
          try clear c6b0
          try clear p6
          try clear c7
          try clear c7b0
          try clear hx101_0
          try clear hx102_0
          try clear p101
          try clear p102
          try clear q101
          try clear q102
          obtain ⟨x6_2, x27_2, rfl, HA, HK2, HO_6, HB⟩ := hrel
          cases gk with
          | zero => exact absurd HA.out (by simp [slices_Concat_int_int.l1])
          | succ k2 =>
            have H := HA.out
            clear HA
            simp only [slices_Concat_int_int.l1] at H
            by_cases c10 : x27_2 < (l0.length : Int)
            · rw [if_pos c10] at H
              have c10b0 : decide (x27_2 < (l0.length : Int)) = true := decide_eq_true c10
              clear c10
              by_cases c11 : 0 ≤ x27_2
              · rw [if_pos c11] at H
                have c11b0 : decide (0 ≤ x27_2) = true := decide_eq_true c11
                clear c11
                by_cases c12 : x27_2 < (l0.length : Int)
                · rw [if_pos c12] at H
                  have c12b0 : decide (x27_2 < (l0.length : Int)) = true := decide_eq_true c12
                  clear c12
                  by_cases c13 : x6_2.length + (rd_L1 l0 x27_2).length < 17592186044416
                  · rw [if_pos c13] at H
                    have LMc13 := Aside0.mk c13
                    clear c13
                    obtain ⟨y107, hy107⟩ : ∃ y_ : List Int, y_ = (x6_2 ++ (rd_L1 l0 x27_2)) := ⟨_, rfl⟩
                    replace H : (slices_Concat_int_int.l1 k2 y107 l0 (l0.length : Int) (wrap64 (x27_2 + 1))) = some r := by first | (rw [hy107]; with_reducible exact H) | (have H2_ := (Option.bind_some _ _).symm.trans H; rw [hy107]; with_reducible exact H2_) | (have H2_ := (Option.bind_some _ _).symm.trans H; with_reducible exact H2_) | with_reducible exact H | (rw [hy107]; exact H) | exact H
                    have Ny107 := Aside0.mk hy107
                    clear hy107
                    have H' := Aside0.mk H
                    clear H
                    have p106 : 0 ≤ (x27_2 : Int) := of_decide_eq_true (by first | (with_reducible assumption) | assumption)
                    have q106 : x27_2 < (l0.length : Int) := of_decide_eq_true (by first | (with_reducible assumption) | assumption)
                    obtain ⟨ad106, A106_0, c106_0, e106, hx106_0, hl106_0, hi106_0⟩ := at_L1 HR0.out x27_2 p106 q106
                    cases e106
                    replace hx106_0 := (HB.out.cell (World.block_lt_of_cell? w _ hx106_0)).trans hx106_0
                    have HR106_0 := Aside0.mk hi106_0
                    have HC106_0 := Aside0.mk hl106_0
                    clear hi106_0 hl106_0
                    replace p106 := eq_true p106
                    replace q106 := eq_true q106
                    go_wp2_with (first | ((with_reducible refine gate_builtin (b := .append) (xs := #[.tmp 31, .tmp 32]) rfl ?_); at_builtin; refine Kd.R_append_rows (Kd.int .i64) (w0 := w) w.heap.size rfl (.tmp 31) (.tmp 32) 37 3 (.int .i64 0) 8 rfl Try.underlying37 info3 rfl (by decide) (by omega) u6 x6_2 (rd_L1 l0 x27_2) _ _ _ (fun _ => True) (fun _ => False) rfl rfl ?aO ?aR (fun _ _ h => h) (fun _ h => h.elim) ?aF ?aB ?aS ?aL ?_; (case aR => repeat (first | exact (Kd.C_below HR106_0.out HB.out) | (with_reducible refine Kd.C_alloc ?_ _) | (with_reducible refine Kd.C_drewN ?_ _) | (with_reducible refine Kd.C_drew ?_))); (case aB => exact (by repeat (first | (with_reducible first | exact HB.out | apply below_alloc | apply pw_below_drewN | apply below_drew1) | exact HB.out))); (case aF => exact (fun _ _ => trivial)); (case aO => exact (by (with_reducible repeat (first | apply Kd.R_alloc | apply Kd.R_drewN | apply Kd.R_drew)); exact HO_6.out)); (case aS => exact (below_size (by repeat (first | (with_reducible first | exact HB.out | apply below_alloc | apply pw_below_drewN | apply below_drew1) | exact HB.out)))); (case aL => have := LMc13.out; omega); intro v108 w14 ho hb hg hat; rw [← Ny107.out] at ho; have n0_ := Aside0.mk (hb); have n1_ := Aside0.mk (ho); clear HB; clear HO_6; have HB := n0_; have HO109 := n1_; clear n0_ n1_; clear ho hb hg hat))
                    go_roundg k2
                    case measure => have := HK1.out; have := HK2.out; omega
                    case rel => exact ⟨(y107), (wrap64 (x27_2 + 1)), (by first | rfl | (simp; done) | (simp [*]; done)), H', ⟨by have := HK1.out; have := HK2.out; omega⟩, ⟨by (with_reducible repeat (first | apply Kd.R_alloc | apply Kd.R_drewN | apply Kd.R_drew)); exact HO109.out⟩, ⟨by repeat (first | (with_reducible first | exact HB.out | apply below_alloc | apply pw_below_drewN | apply below_drew1) | exact HB.out)⟩⟩
                  · rw [if_neg c13] at H
                    exact absurd H (by simp)
                · rw [if_neg c12] at H
                  exact absurd H (by simp)
              · rw [if_neg c11] at H
                exact absurd H (by simp)
            · rw [if_neg c10] at H
              have c10b0 : decide (x27_2 < (l0.length : Int)) = false := decide_eq_false c10
              clear c10
              obtain rfl := Option.some.inj H
              go_wp2
              go_ret
              exact ⟨_, by first | rfl | (simp [errW_none, errW_some] <;> rfl) | (simp [*, errW_none, errW_some] <;> rfl), by (with_reducible repeat (first | apply Kd.R_alloc | apply Kd.R_drewN | apply Kd.R_drew)); exact HO_6.out, by repeat (first | (with_reducible first | exact HB.out | apply below_alloc | apply pw_below_drewN | apply below_drew1) | exact HB.out)⟩
end Go.Proofs.Ytnbnalbomflafaa.GZ
/-! ## Y2 -/
namespace Go.Proofs.Ytnbnalbomflafaa.RA
open Go.RowKit Go.Proofs.YtnbnalbomflafaaW.PrintWords Go.Proofs.YtnbnalbomflafaaW.PrintLast Go.Proofs.YtnbnalbomflafaaW.PrintMore
open Go.Proofs.Ytnbnalbomflafaa.GA
open Go.Proofs.Ytnbnalbomflafaa.GZ
open Go.Proofs.Ytnbnalbomflafaa.KA
set_option linter.unusedVariables false
set_option linter.unusedSimpArgs false
theorem w01 : wrap64 (0 + 1) = 1 := by unfold wrap64; omega
theorem w12 : wrap64 (1 + 1) = 2 := by unfold wrap64; omega
theorem len2 (a b : List Int) : (([a, b] : List (List Int)).length : Int) = 2 := rfl
theorem rd20 (a b : List Int) : GZ.rd_L1 [a, b] 0 = a := rfl
theorem rd21 (a b : List Int) : GZ.rd_L1 [a, b] 1 = b := rfl
theorem concat_one (k : Nat) (x a b : List Int) : slices_Concat_int_int.l1 (k + 3) x [a, b] 2 0 = if x.length + a.length < 17592186044416 then (if (x ++ a).length + b.length < 17592186044416 then some (x ++ a ++ b) else none) else none := by
  unfold slices_Concat_int_int.l1
  rw [len2, if_pos (by decide), if_pos (by decide), if_pos (by decide), rd20, w01]
  by_cases c1 : x.length + a.length < 17592186044416
  · rw [if_pos c1, if_pos c1]
    unfold slices_Concat_int_int.l1
    rw [len2, if_pos (by decide), if_pos (by decide), if_pos (by decide), rd21, w12]
    by_cases c2 : (x ++ a).length + b.length < 17592186044416
    · rw [if_pos c2, if_pos c2]
      unfold slices_Concat_int_int.l1
      rw [if_neg (by decide)]
    · rw [if_neg c2, if_neg c2]
  · rw [if_neg c1, if_neg c1]
theorem concat_is : ∀ (k : Nat) (a b t : List Int), slices_Concat_int_int.f k [a, b] = some t → t = a ++ b := by
  intro k a b t h
  have hm : slices_Concat_int_int.f (k + 6) [a, b] = some t := by
    have m := slices_Concat_int_int.mono [a, b]
    exact m _ _ (m _ _ (m _ _ (m _ _ (m _ _ (m _ _ h)))))
  clear h
  have h1 : slices_Concat_int_int.l0 (k + 6) [a, b] 0 [a, b] 2 0 = some t := hm
  clear hm
  unfold slices_Concat_int_int.l0 at h1
  rw [len2, if_pos (by decide), if_pos (by decide), if_pos (by decide), rd20, w01] at h1
  split at h1
  · cases h1
  unfold slices_Concat_int_int.l0 at h1
  rw [len2, if_pos (by decide), if_pos (by decide), if_pos (by decide), rd21, w12] at h1
  split at h1
  · cases h1
  unfold slices_Concat_int_int.l0 at h1
  rw [if_neg (by decide)] at h1
  obtain ⟨x, hx, h1⟩ := Option.bind_eq_some_iff.1 h1
  unfold slices_Grow_int_int.f at hx
  split at hx
  · injection hx with hx
    subst hx
    have h2 : slices_Concat_int_int.l1 (k + 3) [] [a, b] 2 0 = some t := h1
    rw [concat_one] at h2
    split at h2
    · split at h2
      · injection h2 with h2
        rw [← h2]
        simp
      · cases h2
    · cases h2
  · cases hx
theorem concat_two (k : Nat) (a b : List Int) (h : a.length + b.length ≤ 1000000) : slices_Concat_int_int.f (k + 6) [a, b] = some (a ++ b) := by
  show slices_Concat_int_int.l0 (k + 6) [a, b] 0 [a, b] 2 0 = some (a ++ b)
  unfold slices_Concat_int_int.l0
  rw [len2, if_pos (by decide), if_pos (by decide), if_pos (by decide), rd20, w01, wrap_id (x := 0 + (a.length : Int)) (by omega) (by omega), if_neg (by omega)]
  unfold slices_Concat_int_int.l0
  rw [len2, if_pos (by decide), if_pos (by decide), if_pos (by decide), rd21, w12, wrap_id (by omega) (by omega), if_neg (by omega)]
  unfold slices_Concat_int_int.l0
  rw [if_neg (by decide)]
  unfold slices_Grow_int_int.f
  rw [if_pos ⟨rfl, by omega, by omega⟩, Option.bind_some]
  have h2 := concat_one k [] a b
  rw [if_pos (by simp; omega), if_pos (by simp; omega)] at h2
  exact h2
theorem concat_ne {k n : Nat} {y a b : List Int} {L : List (List Int)} {t : List Int} {m : Int} (h : slices_Concat_int_int.f k L = some t) (hL : L = [a, b]) (ha : a = y.drop n) (hb : b = y.take n) (hm : slices_Min_int_int.f y = some m) : t ≠ [] := by
  subst hL
  have h1 := concat_is _ _ _ _ h
  rintro rfl
  have h2 := List.append_eq_nil_iff.1 h1.symm
  subst ha
  subst hb
  have h3 : y = [] := by
    rw [← List.take_append_drop n y, h2.1, h2.2]
    rfl
  subst h3
  cases hm
end Go.Proofs.Ytnbnalbomflafaa.RA
/-! ## GX0 -/
namespace Go.Proofs.Ytnbnalbomflafaa.GX
open Go.RowKit Go.Proofs.YtnbnalbomflafaaW.PrintWords Go.Proofs.YtnbnalbomflafaaW.PrintLast Go.Proofs.YtnbnalbomflafaaW.PrintMore
open Go.Proofs.Ytnbnalbomflafaa.GA Go.Proofs.Ytnbnalbomflafaa.GZ Go.Proofs.Ytnbnalbomflafaa.RA
attribute [local go_sem] max2_int min2_int max_two min_two max_three min_three max_four min_four   -- for this text's walks alone
set_option linter.unusedVariables false
set_option linter.unusedSimpArgs false
def errW : Option Int → Value
  | none => .nilIface
  | some c => .iface 0 (.int .i64 c)
theorem errW_none : errW none = .nilIface := rfl
theorem errW_some (c : Int) : errW (some c) = .iface 0 (.int .i64 c) := rfl
theorem info3 : (Try.prog.info? 3).map (fun i => (i.zero, i.size, i.bytes)) = some (some (.int .i64 0), 1, 8) := by kernel_rfl
theorem info37 : (Try.prog.info? 37).map (fun i => (i.zero, i.size, i.bytes)) = some (some (.slice none 0 0), 1, 24) := by kernel_rfl
def rd_L1 (xs : List (List Int)) (i : Int) : (List Int) := xs.getD i.toNat ([] : List Int)
theorem at_L1 {w : World} {A : Option Addr} {n : Nat} {xs : List (List Int)} (h : Kd.C (Kd.slice 3 (Kd.int .i64)) w A n xs) (i : Int) (h0 : 0 ≤ i) (h1 : i < n) : ∃ ad A0 c0, A = some ad ∧ w.cell? (ad.add i.toNat) = some (.slice A0 (rd_L1 xs i).length c0) ∧ (rd_L1 xs i).length ≤ c0 ∧ (Kd.int .i64).C w A0 (rd_L1 xs i).length (rd_L1 xs i) := by
  obtain ⟨ad, c, e, _, hK, hc0⟩ := Kd.C_get h ([] : List Int) i h0 h1
  have hc : ∀ j u, c[j]? = some u → w.cell? (ad.add (i.toNat * 1 + j)) = some u := hc0
  obtain ⟨A0, c0, rfl, l0, g0⟩ := hK
  exact ⟨ad, A0, c0, e, by have hq := hc 0 _ rfl; rwa [Nat.mul_one, Nat.add_zero] at hq, l0, g0⟩
end Go.Proofs.Ytnbnalbomflafaa.GX
/-! ## GX1 -/
namespace Go.Proofs.Ytnbnalbomflafaa.GX
open Go.RowKit Go.Proofs.YtnbnalbomflafaaW.PrintWords Go.Proofs.YtnbnalbomflafaaW.PrintLast Go.Proofs.YtnbnalbomflafaaW.PrintMore
open Go.Proofs.Ytnbnalbomflafaa.GA Go.Proofs.Ytnbnalbomflafaa.GZ Go.Proofs.Ytnbnalbomflafaa.RA
attribute [local go_sem] max2_int min2_int max_two min_two max_three min_three max_four min_four   -- for this text's walks alone
set_option linter.unusedVariables false
set_option linter.unusedSimpArgs false
def slices_Index_int_int.l0 : Nat → List Int → Int → Int → Int → Option (Int)
  | 0, _, _, _, _ => none
  | k + 1, x0, x1, x7, x8 => if x8 < x7 then (if 0 ≤ x8 then (if x8 < (x0.length : Int) then (if x1 = (rd x0 x8) then (some x8) else (slices_Index_int_int.l0 k x0 x1 x7 (wrap64 (x8 + 1)))) else (none)) else (none)) else (some (-1))
def slices_Index_int_int.f (k : Nat) (l0 : List Int) (a1 : Int) : Option (Int) := slices_Index_int_int.l0 k l0 a1 (l0.length : Int) 0
set_option maxHeartbeats 8000000 in
set_option maxRecDepth 100000 in
theorem slices_Index_int_int.calls (k : Nat) (A0 : Option Addr) (c0 : Nat) (l0 : List Int) (a1 : Int) (r : Int) (w : World) (hr0 : Kd.C (Kd.int .i64) w A0 l0.length l0) (hc0 : l0.length ≤ c0) (h : slices_Index_int_int.f k l0 a1 = some r) :
    Calls Try.prog 117 #[.slice A0 l0.length c0, .int .i64 a1] w fun e w' => e = .returned (.int .i64 r) ∧ Drawn0 w w' := by
  have HR0 := Aside0.mk hr0
  have HC0 := Aside0.mk hc0
  clear hr0 hc0
  have H : (slices_Index_int_int.l0 k l0 a1 (l0.length : Int) 0) = some r := h
  clear h
  have H' := Aside0.mk H
  clear H
  go_enter Try.func117, Try.ntmps117
  go_wp2
  go_loopg [8] k (fun kq v8 w' => ∃ (x8_1 : Int), v8 = .int .i64 x8_1 ∧ Aside0 (slices_Index_int_int.l0 kq l0 a1 (l0.length : Int) x8_1 = some r) ∧ Aside0 (kq ≤ k) ∧ Drawn0 w w')
  case atStart => exact ⟨(0), (by first | rfl | (simp; done) | (simp [*]; done)), H', ⟨Nat.le_refl _⟩, by repeat (first | exact Drawn0.refl _ | apply Drawn0.step)⟩
  case round =>
    clear H'
    try clear c1
    try clear p2
    obtain ⟨x8_1, rfl, HA, HK1, ⟨m1, rfl⟩⟩ := hrel
    cases gk with
    | zero => exact absurd HA.out (by simp [slices_Index_int_int.l0])
    | succ k1 =>
      have H := HA.out
      clear HA
      simp only [slices_Index_int_int.l0] at H
      by_cases c3 : x8_1 < (l0.length : Int)
      · rw [if_pos c3] at H
        have c3b0 : decide (x8_1 < (l0.length : Int)) = true := decide_eq_true c3
        clear c3
        by_cases c4 : 0 ≤ x8_1
        · rw [if_pos c4] at H
          have c4b0 : decide (0 ≤ x8_1) = true := decide_eq_true c4
          clear c4
          by_cases c5 : x8_1 < (l0.length : Int)
          · rw [if_pos c5] at H
            have c5b0 : decide (x8_1 < (l0.length : Int)) = true := decide_eq_true c5
            clear c5
            by_cases c6 : a1 = (rd l0 x8_1)
            · rw [if_pos c6] at H
              have c6b0 : (a1 == (rd l0 x8_1)) = true := beq_iff_eq.mpr c6
              have c6b1 : (a1 != (rd l0 x8_1)) = false := bne_eq_false_iff_eq.mpr c6
              clear c6
              obtain rfl := Option.some.inj H
              have p101 : 0 ≤ (x8_1 : Int) := of_decide_eq_true (by first | (with_reducible assumption) | assumption)
              have q101 : x8_1 < (l0.length : Int) := of_decide_eq_true (by first | (with_reducible assumption) | assumption)
              obtain ⟨ad101, e101, hx101_0⟩ := Kd.at_int HR0.out x8_1 p101 q101
              cases e101
              replace p101 := eq_true p101
              replace q101 := eq_true q101
              go_wp2
              go_ret
              exact ⟨by first | rfl | (simp; done) | (simp [*]; done), by repeat (first | exact Drawn0.refl _ | apply Drawn0.step)⟩
            · rw [if_neg c6] at H
              have c6b0 : (a1 == (rd l0 x8_1)) = false := beq_eq_false_iff_ne.mpr c6
              have c6b1 : (a1 != (rd l0 x8_1)) = true := bne_iff_ne.mpr c6
              have H' := Aside0.mk H
              clear H
              have p101 : 0 ≤ (x8_1 : Int) := of_decide_eq_true (by first | (with_reducible assumption) | assumption)
              have q101 : x8_1 < (l0.length : Int) := of_decide_eq_true (by first | (with_reducible assumption) | assumption)
              obtain ⟨ad101, e101, hx101_0⟩ := Kd.at_int HR0.out x8_1 p101 q101
              cases e101
              replace p101 := eq_true p101
              replace q101 := eq_true q101
              go_wp2
              go_roundg k1
              case measure => have := HK1.out; omega
              case rel => exact ⟨(wrap64 (x8_1 + 1)), (by first | rfl | (simp; done) | (simp [*]; done)), H', ⟨by have := HK1.out; omega⟩, by repeat (first | exact Drawn0.refl _ | apply Drawn0.step)⟩
          · rw [if_neg c5] at H
            exact absurd H (by simp)
        · rw [if_neg c4] at H
          exact absurd H (by simp)
      · rw [if_neg c3] at H
        have c3b0 : decide (x8_1 < (l0.length : Int)) = false := decide_eq_false c3
        clear c3
        obtain rfl := Option.some.inj H
        go_wp2
        go_ret
        exact ⟨by first | rfl | (simp; done) | (simp [*]; done), by repeat (first | exact Drawn0.refl _ | apply Drawn0.step)⟩
end Go.Proofs.Ytnbnalbomflafaa.GX
