/-
  What chips have made, if it may be asked for: the program's grown and onLine, walked; its numbers of steps. The reference's field on the grid: what lies in memory. The reference's growth on the grid, walked: what it leaves in memory.
-/
import Derived.Test.YtjedhjeijpbobaaMd
import Derived.Test.YtjedhjeijpbobaaGA
import Derived.Test.YtjedhjeijpbobaaZa
import Derived.Deep.QuietTactic
import Derived.BigQuiet
import Derived.Deep.RegionWith
/-! ## Me -/
namespace Go.Proofs.Ytjedhjeijpbobaa.G8
open Go.RowKit Go.Maps Go.Proofs.YtjedhjeijpbobaaW.PrintWords Go.Proofs.YtjedhjeijpbobaaW.PrintLast Go.Proofs.YtjedhjeijpbobaaW.PrintMore
open Go.Proofs.Ytjedhjeijpbobaa.GA
set_option linter.unusedVariables false
set_option linter.unusedSimpArgs false
def inB (a lo hi : Int) : Bool := decide (lo ≤ a ∧ a ≤ hi)
theorem impl_in_eq (a lo hi : Int) : impl_in.f a lo hi = some (inB a lo hi) := by
  unfold impl_in.f inB
  by_cases h1 : lo ≤ a
  · simp [h1]
  · simp [h1]
def okGrid (n k : Int) : Bool := inB n 0 250 && inB k 0 3
def okLine (n k : Int) : Bool := inB n 0 250 && inB k 0 1
def gridS (n k : Int) : St := (chips 4 15 mv4 5000 k n.toNat st0).getD st0
def lineS (n k : Int) : St := (chips 2 300 mv2 215603 k n.toNat st0).getD st0
theorem grid_is {n k : Int} (h : okGrid n k = true) : ∃ m : Nat, n = m ∧ m ≤ 250 ∧ 0 ≤ k ∧ k < 4 ∧ chips 4 15 mv4 5000 k m st0 = some (gridS n k) := by
  simp only [okGrid, inB, Bool.and_eq_true, decide_eq_true_eq] at h
  obtain ⟨k1, rfl⟩ := Int.eq_ofNat_of_zero_le h.2.1
  obtain ⟨m, rfl⟩ := Int.eq_ofNat_of_zero_le h.1.1
  obtain ⟨S, hS⟩ := grid_n m k1 (by omega) (by omega)
  refine ⟨m, rfl, by omega, by omega, by omega, ?_⟩
  unfold gridS
  rw [Int.toNat_natCast, hS]
  rfl
theorem line_is {n k : Int} (h : okLine n k = true) : ∃ m : Nat, n = m ∧ m ≤ 250 ∧ 0 ≤ k ∧ k < 2 ∧ chips 2 300 mv2 215603 k m st0 = some (lineS n k) := by
  simp only [okLine, inB, Bool.and_eq_true, decide_eq_true_eq] at h
  obtain ⟨m, rfl⟩ := Int.eq_ofNat_of_zero_le h.1.1
  obtain ⟨S, hS⟩ := line_n m k (by omega) (by omega)
  refine ⟨m, rfl, by omega, by omega, by omega, ?_⟩
  unfold lineS
  rw [Int.toNat_natCast, hS]
  rfl
theorem grow_grid_any {n k : Int} (h : okGrid n k = true) (w : World) : Calls Try.prog 97 #[.int .i64 n, .int .i64 k, .int .i64 4, .func (.func 98) #[] #[]] w (GroOut w (gridS n k)) := by
  obtain ⟨m, rfl, hm, h0, h1, hS⟩ := grid_is h
  exact grow_grid 5000 k m _ w (by omega) ⟨h0, h1⟩ hm hS
theorem grow_line_any {n k : Int} (h : okLine n k = true) (w : World) : Calls Try.prog 97 #[.int .i64 n, .int .i64 k, .int .i64 2, .func (.func 99) #[] #[]] w (GroOut w (lineS n k)) := by
  obtain ⟨m, rfl, hm, h0, h1, hS⟩ := line_is h
  exact grow_line 215603 k m _ w (by omega) ⟨h0, h1⟩ hm hS
/-- What is handed back: what has grown, and true; or nothing, and false. -/
def GrownOut (w : World) (ok : Bool) (S : St) (e : Ending) (w' : World) : Prop :=
  (ok = false ∧ e = .returned (.tuple #[.pointer none, .bool false]) ∧ Below w.heap.size w w') ∨
  (ok = true ∧ ∃ g gm N vc, e = .returned (.tuple #[.pointer (some ⟨g, 0, none⟩), .bool true]) ∧ Below w.heap.size w w' ∧ Aside0 (GroAt w' w.heap.size g gm N vc S.f S.cells S.steps))
set_option maxHeartbeats 4000000 in
set_option maxRecDepth 100000 in
theorem grown_calls (n k : Int) (w : World) : Calls Try.prog 67 #[.int .i64 n, .int .i64 k] w (GrownOut w (okGrid n k) (gridS n k)) := by
  have HI1 := Aside0.mk (fun W => impl_in.calls n 0 250 (inB n 0 250) W (impl_in_eq _ _ _))
  have HI2 := Aside0.mk (fun W => impl_in.calls k 0 3 (inB k 0 3) W (impl_in_eq _ _ _))
  cases h1 : inB n 0 250 with
  | false =>
    have ho : okGrid n k = false := by unfold okGrid; rw [h1]; rfl
    rw [ho]
    rw [h1] at HI1
    clear ho h1 HI2
    go_enter Try.func67, Try.ntmps67
    go_wp2_with (first | (go_at_call 79; (with_reducible refine (HI1.out _).mono ?_); rintro e w' ⟨rfl, ⟨nd, rfl⟩⟩))
    go_ret2
    exact .inl ⟨rfl, rfl, by repeat (first | exact Below.refl _ _ | apply pw_below_drewN)⟩
  | true =>
    cases h2 : inB k 0 3 with
    | false =>
      have ho : okGrid n k = false := by unfold okGrid; rw [h1, h2]; rfl
      rw [ho]
      rw [h1] at HI1
      rw [h2] at HI2
      clear ho h1 h2
      go_enter Try.func67, Try.ntmps67
      go_wp2_with (first | (go_at_call 79; (with_reducible refine (HI1.out _).mono ?_); rintro e w' ⟨rfl, ⟨nd, rfl⟩⟩) | (go_at_call 79; (with_reducible refine (HI2.out _).mono ?_); rintro e w' ⟨rfl, ⟨nd2, rfl⟩⟩))
      go_ret2
      exact .inl ⟨rfl, rfl, by repeat (first | exact Below.refl _ _ | apply pw_below_drewN)⟩
    | true =>
      have ho : okGrid n k = true := by unfold okGrid; rw [h1, h2]; rfl
      have HG := Aside0.mk (fun W => grow_grid_any ho W)
      rw [ho]
      rw [h1] at HI1
      rw [h2] at HI2
      clear ho h1 h2
      generalize gridS n k = S at *
      go_enter Try.func67, Try.ntmps67
      go_wp2_with (first | (go_at_call 79; (with_reducible refine (HI1.out _).mono ?_); rintro e w' ⟨rfl, ⟨nd, rfl⟩⟩) | (go_at_call 79; (with_reducible refine (HI2.out _).mono ?_); rintro e w' ⟨rfl, ⟨nd2, rfl⟩⟩) | (go_at_call 97; refine (HG.out _).mono ?_; rintro e w1 ⟨g, gm, N, vc, rfl, hB, hG⟩; have HB := Aside0.mk hB; clear hB))
      go_ret2
      refine .inr ⟨rfl, g, gm, N, vc, rfl, ?_, ?_⟩
      · exact below_then (by repeat (first | exact Below.refl _ _ | apply pw_below_drewN)) (by simp) HB.out
      · exact hG
set_option maxHeartbeats 4000000 in
set_option maxRecDepth 100000 in
theorem onLine_calls (n k : Int) (w : World) : Calls Try.prog 70 #[.int .i64 n, .int .i64 k] w (GrownOut w (okLine n k) (lineS n k)) := by
  have HI1 := Aside0.mk (fun W => impl_in.calls n 0 250 (inB n 0 250) W (impl_in_eq _ _ _))
  have HI2 := Aside0.mk (fun W => impl_in.calls k 0 1 (inB k 0 1) W (impl_in_eq _ _ _))
  cases h1 : inB n 0 250 with
  | false =>
    have ho : okLine n k = false := by unfold okLine; rw [h1]; rfl
    rw [ho]
    rw [h1] at HI1
    clear ho h1 HI2
    go_enter Try.func70, Try.ntmps70
    go_wp2_with (first | (go_at_call 79; (with_reducible refine (HI1.out _).mono ?_); rintro e w' ⟨rfl, ⟨nd, rfl⟩⟩))
    go_ret2
    exact .inl ⟨rfl, rfl, by repeat (first | exact Below.refl _ _ | apply pw_below_drewN)⟩
  | true =>
    cases h2 : inB k 0 1 with
    | false =>
      have ho : okLine n k = false := by unfold okLine; rw [h1, h2]; rfl
      rw [ho]
      rw [h1] at HI1
      rw [h2] at HI2
      clear ho h1 h2
      go_enter Try.func70, Try.ntmps70
      go_wp2_with (first | (go_at_call 79; (with_reducible refine (HI1.out _).mono ?_); rintro e w' ⟨rfl, ⟨nd, rfl⟩⟩) | (go_at_call 79; (with_reducible refine (HI2.out _).mono ?_); rintro e w' ⟨rfl, ⟨nd2, rfl⟩⟩))
      go_ret2
      exact .inl ⟨rfl, rfl, by repeat (first | exact Below.refl _ _ | apply pw_below_drewN)⟩
    | true =>
      have ho : okLine n k = true := by unfold okLine; rw [h1, h2]; rfl
      have HG := Aside0.mk (fun W => grow_line_any ho W)
      rw [ho]
      rw [h1] at HI1
      rw [h2] at HI2
      clear ho h1 h2
      generalize lineS n k = S at *
      go_enter Try.func70, Try.ntmps70
      go_wp2_with (first | (go_at_call 79; (with_reducible refine (HI1.out _).mono ?_); rintro e w' ⟨rfl, ⟨nd, rfl⟩⟩) | (go_at_call 79; (with_reducible refine (HI2.out _).mono ?_); rintro e w' ⟨rfl, ⟨nd2, rfl⟩⟩) | (go_at_call 97; refine (HG.out _).mono ?_; rintro e w1 ⟨g, gm, N, vc, rfl, hB, hG⟩; have HB := Aside0.mk hB; clear hB))
      go_ret2
      refine .inr ⟨rfl, g, gm, N, vc, rfl, ?_, ?_⟩
      · exact below_then (by repeat (first | exact Below.refl _ _ | apply pw_below_drewN)) (by simp) HB.out
      · exact hG
def impl_StepsToGrow.f (n k : Int) : Option (Int × Bool) := some (if okGrid n k = true then (gridS n k).steps else 0, okGrid n k)
def impl_LineSteps.f (n k : Int) : Option (Int × Bool) := some (if okLine n k = true then (lineS n k).steps else 0, okLine n k)
set_option maxHeartbeats 4000000 in
set_option maxRecDepth 100000 in
theorem impl_StepsToGrow.walk (n k : Int) (w : World) : Calls Try.prog 19 #[.int .i64 n, .int .i64 k] w fun e w' => e = .returned (.tuple #[.int .i64 (if okGrid n k = true then (gridS n k).steps else 0), .bool (okGrid n k)]) ∧ Below w.heap.size w w' := by
  have HG := Aside0.mk (fun W => grown_calls n k W)
  cases ho : okGrid n k with
  | false =>
    rw [ho] at HG
    rw [if_neg (by decide)]
    clear ho
    go_enter Try.func19, Try.ntmps19
    go_wp2_with (first | (go_at_call 67; refine (HG.out _).mono ?_; rintro e w1 (⟨_, rfl, hB⟩ | ⟨h, _⟩); rotate_left; (exact absurd h (by decide)); have HB := Aside0.mk hB; clear hB))
    go_ret2
    exact ⟨rfl, HB.out⟩
  | true =>
    rw [ho] at HG
    rw [if_pos rfl]
    clear ho
    generalize gridS n k = S at *
    go_enter Try.func19, Try.ntmps19
    go_wp2_with (first | (go_at_call 67; refine (HG.out _).mono ?_; rintro e w1 (⟨h, _⟩ | ⟨_, g, gm, N, vc, rfl, hB, hG⟩); (exact absurd h (by decide)); have HB := Aside0.mk hB; clear hB; have c2 := blk_cell hG.out.blk 2; simp at c2))
    go_ret2
    exact ⟨rfl, HB.out⟩
theorem impl_StepsToGrow.calls (n k : Int) (r1 : Int) (r2 : Bool) (w : World) (h : impl_StepsToGrow.f n k = some (r1, r2)) :
    Calls Try.prog 19 #[.int .i64 n, .int .i64 k] w fun e w' => e = .returned (.tuple #[.int .i64 r1, .bool r2]) ∧ Below w.heap.size w w' := by
  have e := Option.some.inj h
  injection e with e1 e2
  subst e1 e2
  exact impl_StepsToGrow.walk n k w
set_option maxHeartbeats 4000000 in
set_option maxRecDepth 100000 in
theorem impl_LineSteps.walk (n k : Int) (w : World) : Calls Try.prog 21 #[.int .i64 n, .int .i64 k] w fun e w' => e = .returned (.tuple #[.int .i64 (if okLine n k = true then (lineS n k).steps else 0), .bool (okLine n k)]) ∧ Below w.heap.size w w' := by
  have HG := Aside0.mk (fun W => onLine_calls n k W)
  cases ho : okLine n k with
  | false =>
    rw [ho] at HG
    rw [if_neg (by decide)]
    clear ho
    go_enter Try.func21, Try.ntmps21
    go_wp2_with (first | (go_at_call 70; refine (HG.out _).mono ?_; rintro e w1 (⟨_, rfl, hB⟩ | ⟨h, _⟩); rotate_left; (exact absurd h (by decide)); have HB := Aside0.mk hB; clear hB))
    go_ret2
    exact ⟨rfl, HB.out⟩
  | true =>
    rw [ho] at HG
    rw [if_pos rfl]
    clear ho
    generalize lineS n k = S at *
    go_enter Try.func21, Try.ntmps21
    go_wp2_with (first | (go_at_call 70; refine (HG.out _).mono ?_; rintro e w1 (⟨h, _⟩ | ⟨_, g, gm, N, vc, rfl, hB, hG⟩); (exact absurd h (by decide)); have HB := Aside0.mk hB; clear hB; have c2 := blk_cell hG.out.blk 2; simp at c2))
    go_ret2
    exact ⟨rfl, HB.out⟩
theorem impl_LineSteps.calls (n k : Int) (r1 : Int) (r2 : Bool) (w : World) (h : impl_LineSteps.f n k = some (r1, r2)) :
    Calls Try.prog 21 #[.int .i64 n, .int .i64 k] w fun e w' => e = .returned (.tuple #[.int .i64 r1, .bool r2]) ∧ Below w.heap.size w w' := by
  have e := Option.some.inj h
  injection e with e1 e2
  subst e1 e2
  exact impl_LineSteps.walk n k w
end Go.Proofs.Ytjedhjeijpbobaa.G8

/-! ## Fa -/
namespace Go.Proofs.Ytjedhjeijpbobaa.G8
open Go.RowKit Go.Maps Go.Proofs.YtjedhjeijpbobaaW.PrintWords Go.Proofs.YtjedhjeijpbobaaW.PrintLast Go.Proofs.YtjedhjeijpbobaaW.PrintMore
open Go.Proofs.Ytjedhjeijpbobaa.GA
set_option linter.unusedVariables false
set_option linter.unusedSimpArgs false
/-- A number of the field's cells. -/
def Box (x : Int) : Prop := -60 ≤ x ∧ x ≤ 60
def atN (x y : Int) : Nat := ((x + 60) * 121 + y + 60).toNat
theorem atN_lt {x y : Int} (hx : Box x) (hy : Box y) : atN x y < 14641 := by unfold Box at *; unfold atN; omega
theorem atN_cast {x y : Int} (hx : Box x) (hy : Box y) : ((atN x y : Nat) : Int) = (x + 60) * 121 + y + 60 := by unfold Box at *; unfold atN; omega
theorem atN_eq {x y a b : Int} (hx : Box x) (hy : Box y) (ha : Box a) (hb : Box b) : atN a b = atN x y ↔ a = x ∧ b = y := by unfold Box at *; unfold atN; omega
theorem gwAt_eq {x y : Int} (hx : Box x) (hy : Box y) : spec_gwAt.f x y = some ((atN x y : Nat) : Int) := by
  rw [atN_cast hx hy]
  unfold Box at *
  unfold spec_gwAt.f
  rw [wrap_id (x := x + 60) (by omega) (by omega), wrap_id (x := (x + 60) * 121) (by omega) (by omega), wrap_id (x := (x + 60) * 121 + y) (by omega) (by omega), wrap_id (by omega) (by omega)]
structure GwAt (w : World) (base f gb rb : Nat) (vc : Value) (F : Fld) (k0 : Int) (cs : List (Int × Int)) (s : Int) : Prop where
  hf : base ≤ f
  hg : base ≤ gb
  hr : base ≤ rb
  blk : w.heap[f]? = some (.cells #[.slice (some ⟨gb, 0, none⟩) 14641 14641, .slice (some ⟨rb, 0, none⟩) 14641 14641, vc, .int .i64 s] 61 (0, 0))
  gro : ∃ gl : Array Value, w.heap[gb]? = some (.cells gl 4 (0, 0)) ∧ gl.size = 14641 ∧ ∀ x y, Box x → Box y → gl[atN x y]? = some (.bool (F x y).isSome)
  rot : ∃ rl : Array Value, w.heap[rb]? = some (.cells rl 3 (0, 0)) ∧ rl.size = 14641 ∧ ∀ x y, Box x → Box y → rl[atN x y]? = some (.int .i64 ((F x y).getD k0))
  cells : ∃ L, w.ownsRow base 29 1 vc cs.length L ∧ ∀ (i : Nat) (c : Int × Int), cs[i]? = some c → ∃ b, L[i]? = some (.slice (some ⟨b, 0, none⟩) 2 2) ∧ base ≤ b ∧ w.heap[b]? = some (.cells #[.int .i64 c.1, .int .i64 c.2] 3 (0, 0))
def GwOut (w : World) (k0 : Int) (S : St) (e : Ending) (w' : World) : Prop := ∃ f gb rb vc, e = .returned (.pointer (some ⟨f, 0, none⟩)) ∧ Below w.heap.size w w' ∧ Aside0 (GwAt w' w.heap.size f gb rb vc S.f k0 S.cells S.steps)
section
variable {w w1 : World} {base f gb rb : Nat} {vc : Value} {F : Fld} {k0 : Int} {cs : List (Int × Int)} {s : Int}
theorem blk_ne {b c : Nat} {x y : Array Value} {t u : TypeId} (h : w.heap[b]? = some (.cells x t (0, 0))) (k : w.heap[c]? = some (.cells y u (0, 0))) (hn : t ≠ u ∨ x.size ≠ y.size) : b ≠ c := by
  rintro rfl
  rw [h] at k
  injection k with k
  injection k with k1 k2
  rcases hn with hn | hn
  · exact hn k2
  · exact hn (by rw [k1])
theorem GwAt.keep (h : GwAt w base f gb rb vc F k0 cs s) (e : ∀ b, b < w.heap.size → w1.heap[b]? = w.heap[b]?) : GwAt w1 base f gb rb vc F k0 cs s := by
  obtain ⟨gl, g1, g2, g3⟩ := h.gro
  obtain ⟨rl, r1, r2, r3⟩ := h.rot
  obtain ⟨L, c1, c2⟩ := h.cells
  refine ⟨h.hf, h.hg, h.hr, (e f (blk_lt h.blk)).trans h.blk, ⟨gl, (e gb (blk_lt g1)).trans g1, g2, g3⟩, ⟨rl, (e rb (blk_lt r1)).trans r1, r2, r3⟩, ⟨L, own_move c1 (fun k hk => e k (own_lt c1 k hk)), fun i c hc => ?_⟩⟩
  obtain ⟨b, q1, q2, q3⟩ := c2 i c hc
  exact ⟨b, q1, q2, (e b (blk_lt q3)).trans q3⟩
theorem GwAt.drew (h : GwAt w base f gb rb vc F k0 cs s) : GwAt w.drew base f gb rb vc F k0 cs s := h.keep fun _ _ => rfl
theorem GwAt.drewN (h : GwAt w base f gb rb vc F k0 cs s) (n : Nat) : GwAt (w.drewN n) base f gb rb vc F k0 cs s := h.keep fun _ _ => by simp
theorem GwAt.alloc (h : GwAt w base f gb rb vc F k0 cs s) (o : Obj) : GwAt (w.alloc o) base f gb rb vc F k0 cs s := h.keep fun b hb => (MapKept.heap_alloc w o).2 b hb
theorem GwAt.below (h : GwAt w base f gb rb vc F k0 cs s) (hB : Below w.heap.size w w1) : GwAt w1 base f gb rb vc F k0 cs s := h.keep fun b hb => hB.block b hb
theorem GwAt.f_gb (h : GwAt w base f gb rb vc F k0 cs s) : f ≠ gb := by obtain ⟨gl, g1, _⟩ := h.gro; exact blk_ne h.blk g1 (.inl (by decide))
theorem GwAt.f_rb (h : GwAt w base f gb rb vc F k0 cs s) : f ≠ rb := by obtain ⟨rl, r1, _⟩ := h.rot; exact blk_ne h.blk r1 (.inl (by decide))
theorem GwAt.gb_rb (h : GwAt w base f gb rb vc F k0 cs s) : gb ≠ rb := by obtain ⟨gl, g1, _⟩ := h.gro; obtain ⟨rl, r1, _⟩ := h.rot; exact blk_ne g1 r1 (.inl (by decide))
theorem GwAt.own_f (h : GwAt w base f gb rb vc F k0 cs s) : some f ≠ vc.ownBlock := by obtain ⟨L, c1, _⟩ := h.cells; exact own_ne c1 h.blk (by decide)
theorem GwAt.own_g (h : GwAt w base f gb rb vc F k0 cs s) : some gb ≠ vc.ownBlock := by obtain ⟨L, c1, _⟩ := h.cells; obtain ⟨gl, g1, _⟩ := h.gro; exact own_ne c1 g1 (by decide)
theorem GwAt.own_r (h : GwAt w base f gb rb vc F k0 cs s) : some rb ≠ vc.ownBlock := by obtain ⟨L, c1, _⟩ := h.cells; obtain ⟨rl, r1, _⟩ := h.rot; exact own_ne c1 r1 (by decide)
/-- A block that is none of the elements'. -/
theorem GwAt.far (h : GwAt w base f gb rb vc F k0 cs s) {A : Nat} (hv : some A ≠ vc.ownBlock) (hA : ∀ b x y, w.heap[b]? = some (.cells #[.int .i64 x, .int .i64 y] 3 (0, 0)) → b ≠ A) (i : Nat) (u : Value) :
    ∃ L, (w.setCell ⟨A, i, none⟩ u).ownsRow base 29 1 vc cs.length L ∧ ∀ (i1 : Nat) (c : Int × Int), cs[i1]? = some c → ∃ b, L[i1]? = some (.slice (some ⟨b, 0, none⟩) 2 2) ∧ base ≤ b ∧ (w.setCell ⟨A, i, none⟩ u).heap[b]? = some (.cells #[.int .i64 c.1, .int .i64 c.2] 3 (0, 0)) := by
  obtain ⟨L, c1, c2⟩ := h.cells
  refine ⟨L, own_setCell c1 hv _, fun i1 c hc => ?_⟩
  obtain ⟨b, q1, q2, q3⟩ := c2 i1 c hc
  exact ⟨b, q1, q2, blk_far q3 (p := ⟨A, i, none⟩) (hA b _ _ q3) _⟩
/-- A rotor of a grown cell is turned. -/
theorem GwAt.setRot (h : GwAt w base f gb rb vc F k0 cs s) {x y r : Int} (hx : Box x) (hy : Box y) (hF : (F x y).isSome = true) : GwAt (w.setCell ⟨rb, atN x y, none⟩ (.int .i64 r)) base f gb rb vc (upd F x y r) k0 cs s := by
  obtain ⟨gl, g1, g2, g3⟩ := h.gro
  obtain ⟨rl, r1, r2, r3⟩ := h.rot
  have hlt := atN_lt hx hy
  refine ⟨h.hf, h.hg, h.hr, blk_far h.blk (p := ⟨rb, atN x y, none⟩) h.f_rb _, ⟨gl, blk_far g1 (p := ⟨rb, atN x y, none⟩) h.gb_rb _, g2, fun a b ha hb => ?_⟩, ⟨_, blk_set r1 _ _, by rw [Array.size_setIfInBounds]; exact r2, fun a b ha hb => ?_⟩, h.far h.own_r (fun b x1 y1 hb => blk_ne hb r1 (.inr (by rw [r2]; simp))) _ _⟩
  · rw [g3 a b ha hb]
    unfold upd
    by_cases e : a = x ∧ b = y
    · rw [if_pos e, e.1, e.2, hF]; rfl
    · rw [if_neg e]
  · unfold upd
    by_cases e : a = x ∧ b = y
    · rw [if_pos e, e.1, e.2, Array.getElem?_setIfInBounds_self_of_lt (by omega)]; rfl
    · rw [if_neg e, Array.getElem?_setIfInBounds_ne (fun q => e ((atN_eq hx hy ha hb).1 q.symm))]; exact r3 a b ha hb
/-- A cell is grown. -/
theorem GwAt.setGro (h : GwAt w base f gb rb vc F k0 cs s) {x y : Int} (hx : Box x) (hy : Box y) (hF : F x y = none) : GwAt (w.setCell ⟨gb, atN x y, none⟩ (.bool true)) base f gb rb vc (upd F x y k0) k0 cs s := by
  obtain ⟨gl, g1, g2, g3⟩ := h.gro
  obtain ⟨rl, r1, r2, r3⟩ := h.rot
  have hlt := atN_lt hx hy
  refine ⟨h.hf, h.hg, h.hr, blk_far h.blk (p := ⟨gb, atN x y, none⟩) h.f_gb _, ⟨_, blk_set g1 _ _, by rw [Array.size_setIfInBounds]; exact g2, fun a b ha hb => ?_⟩, ⟨rl, blk_far r1 (p := ⟨gb, atN x y, none⟩) (fun e => h.gb_rb e.symm) _, r2, fun a b ha hb => ?_⟩, h.far h.own_g (fun b x1 y1 hb => blk_ne hb g1 (.inl (by decide))) _ _⟩
  · unfold upd
    by_cases e : a = x ∧ b = y
    · rw [if_pos e, e.1, e.2, Array.getElem?_setIfInBounds_self_of_lt (by omega)]; rfl
    · rw [if_neg e, Array.getElem?_setIfInBounds_ne (fun q => e ((atN_eq hx hy ha hb).1 q.symm))]; exact g3 a b ha hb
  · rw [r3 a b ha hb]
    unfold upd
    by_cases e : a = x ∧ b = y
    · rw [if_pos e, e.1, e.2, hF]; rfl
    · rw [if_neg e]
theorem GwAt.step (h : GwAt w base f gb rb vc F k0 cs s) (s1 : Int) : GwAt (w.setCell ⟨f, 3, none⟩ (.int .i64 s1)) base f gb rb vc F k0 cs s1 := by
  obtain ⟨gl, g1, g2, g3⟩ := h.gro
  obtain ⟨rl, r1, r2, r3⟩ := h.rot
  exact ⟨h.hf, h.hg, h.hr, (blk_set h.blk 3 _).trans (by simp), ⟨gl, blk_far g1 (p := ⟨f, 3, none⟩) (fun e => h.f_gb e.symm) _, g2, g3⟩, ⟨rl, blk_far r1 (p := ⟨f, 3, none⟩) (fun e => h.f_rb e.symm) _, r2, r3⟩, h.far h.own_f (fun b x1 y1 hb => blk_ne hb h.blk (.inl (by decide))) _ _⟩
theorem GwAt.app (h : GwAt w base f gb rb vc F k0 cs s) {x y : Int} {B g1 cap : Nat} (hb : base ≤ B) (hB : w.heap[B]? = some (.cells #[.int .i64 x, .int .i64 y] 3 (0, 0))) {L : List Value} (hL : w.ownsRow base 29 1 vc cs.length L) (hE : ∀ (i : Nat) (c : Int × Int), cs[i]? = some c → ∃ b, L[i]? = some (.slice (some ⟨b, 0, none⟩) 2 2) ∧ base ≤ b ∧ w.heap[b]? = some (.cells #[.int .i64 c.1, .int .i64 c.2] 3 (0, 0)))
    (hown : w1.ownsRow base 29 1 (.slice (some ⟨g1, 0, none⟩) (cs.length + 1) cap) (cs.length + 1) (L ++ [.slice (some ⟨B, 0, none⟩) 2 2])) (hg : w.grownBy w1 vc.ownBlock) :
    w1.heap[f]? = some (.cells #[.slice (some ⟨gb, 0, none⟩) 14641 14641, .slice (some ⟨rb, 0, none⟩) 14641 14641, vc, .int .i64 s] 61 (0, 0)) ∧ GwAt (w1.setCell ⟨f, 2, none⟩ (.slice (some ⟨g1, 0, none⟩) (cs.length + 1) cap)) base f gb rb (.slice (some ⟨g1, 0, none⟩) (cs.length + 1) cap) F k0 (cs ++ [(x, y)]) s := by
  have hf : w1.heap[f]? = _ := (hg.block f (blk_lt h.blk) h.own_f).trans h.blk
  obtain ⟨gl, q1, q2, q3⟩ := h.gro
  obtain ⟨rl, r1, r2, r3⟩ := h.rot
  have hgb : w1.heap[gb]? = _ := (hg.block gb (blk_lt q1) h.own_g).trans q1
  have hrb : w1.heap[rb]? = _ := (hg.block rb (blk_lt r1) h.own_r).trans r1
  have hel : ∀ (b : Nat) (x y : Int), w.heap[b]? = some (Obj.cells #[.int .i64 x, .int .i64 y] 3 (0, 0)) → (w1.setCell ⟨f, 2, none⟩ (.slice (some ⟨g1, 0, none⟩) (cs.length + 1) cap)).heap[b]? = some (Obj.cells #[.int .i64 x, .int .i64 y] 3 (0, 0)) := fun b x y hb =>
    blk_far ((hg.block b (blk_lt hb) (own_ne hL hb (by decide))).trans hb) (p := ⟨f, 2, none⟩) (blk_ne hb h.blk (.inl (by decide))) _
  refine ⟨hf, h.hf, h.hg, h.hr, (blk_set hf 2 _).trans (by simp), ⟨gl, blk_far hgb (p := ⟨f, 2, none⟩) (fun e => h.f_gb e.symm) _, q2, q3⟩, ⟨rl, blk_far hrb (p := ⟨f, 2, none⟩) (fun e => h.f_rb e.symm) _, r2, r3⟩, ⟨L ++ [.slice (some ⟨B, 0, none⟩) 2 2], ?_, ?_⟩⟩
  · rw [List.length_append, List.length_singleton]
    exact own_setCell hown (own_ne hown hf (by decide)) _
  · have hLl : L.length = cs.length := by have := hL.1; omega
    intro i c hc
    rcases Nat.lt_trichotomy i cs.length with hi | hi | hi
    · rw [List.getElem?_append_left hi] at hc
      obtain ⟨b, p1, p2, p3⟩ := hE i c hc
      exact ⟨b, by rw [List.getElem?_append_left (by omega)]; exact p1, p2, hel b _ _ p3⟩
    · subst hi
      rw [List.getElem?_append_right (Nat.le_refl _)] at hc
      simp at hc
      subst hc
      exact ⟨B, by rw [List.getElem?_append_right (by omega), hLl]; simp, hb, hel B _ _ hB⟩
    · rw [List.getElem?_append_right (by omega)] at hc
      rw [List.getElem?_eq_none (by simp; omega)] at hc
      cases hc
end
end Go.Proofs.Ytjedhjeijpbobaa.G8

/-! ## Fb -/
namespace Go.Proofs.Ytjedhjeijpbobaa.G8
open Go.RowKit Go.Maps Go.Proofs.YtjedhjeijpbobaaW.PrintWords Go.Proofs.YtjedhjeijpbobaaW.PrintLast Go.Proofs.YtjedhjeijpbobaaW.PrintMore
open Go.Proofs.Ytjedhjeijpbobaa.GA
set_option linter.unusedVariables false
set_option linter.unusedSimpArgs false
theorem infoB : (Try.prog.info? 4).map (fun i => (i.zero, i.size, i.bytes)) = some (some (.bool false), 1, 1) := by kernel_rfl
theorem infoI : (Try.prog.info? 3).map (fun i => (i.zero, i.size, i.bytes)) = some (some (.int .i64 0), 1, 8) := by kernel_rfl
theorem make_bools (W : World) : (Instr.makeSlice 59 (.int .i64 14641) (.int .i64 14641)).run Try.prog W = .ok (.slice (some ⟨W.heap.size, 0, none⟩) 14641 14641) (W.alloc (.cells (madeCells #[.bool false] 14641) 4)) :=
  run_make_row' (P := Try.prog) 59 4 (.bool false) 1 Try.underlying59 infoB rfl .i64 .i64 14641 (by decide) (by decide) W
theorem make_ints (W : World) : (Instr.makeSlice 29 (.int .i64 14641) (.int .i64 14641)).run Try.prog W = .ok (.slice (some ⟨W.heap.size, 0, none⟩) 14641 14641) (W.alloc (.cells (madeCells #[.int .i64 0] 14641) 3)) :=
  run_make_row' (P := Try.prog) 29 3 (.int .i64 0) 8 Try.underlying29 infoI rfl .i64 .i64 14641 (by decide) (by decide) W
theorem two_new (W : World) (o p : Obj) : ((W.alloc o).alloc p).heap[W.heap.size]? = some o := ((MapKept.heap_alloc (W.alloc o) p).2 W.heap.size (by simp)).trans (blk_new W o)
theorem two_new1 (W : World) (o p : Obj) : ((W.alloc o).alloc p).heap[W.heap.size + 1]? = some p := by
  have := blk_new (W.alloc o) p
  simpa using this
/-- The field while its rotors are being filled. -/
structure FillIs (w : World) (f gb rb : Nat) (k0 : Int) (i : Nat) : Prop where
  blk : w.heap[f]? = some (.cells #[.slice (some ⟨gb, 0, none⟩) 14641 14641, .slice (some ⟨rb, 0, none⟩) 14641 14641, .slice none 0 0, .int .i64 0] 61 (0, 0))
  gro : w.heap[gb]? = some (.cells (madeCells #[.bool false] 14641) 4 (0, 0))
  rot : ∃ rl : Array Value, w.heap[rb]? = some (.cells rl 3 (0, 0)) ∧ rl.size = 14641 ∧ ∀ p, p < 14641 → rl[p]? = some (.int .i64 (if p < i then k0 else 0))
theorem made_at (z : Value) (n p : Nat) (hp : p < n) : (madeCells #[z] n)[p]? = some z := by
  unfold madeCells
  rw [Array.getElem?_map, Array.getElem?_eq_getElem (by simpa using hp)]
  simp [Nat.mod_one]
theorem FillIs.start {w : World} {f gb rb : Nat} {k0 : Int} (hf : w.heap[f]? = some (.cells #[.slice (some ⟨gb, 0, none⟩) 14641 14641, .slice (some ⟨rb, 0, none⟩) 14641 14641, .slice none 0 0, .int .i64 0] 61 (0, 0))) (hg : w.heap[gb]? = some (.cells (madeCells #[.bool false] 14641) 4 (0, 0))) (hr : w.heap[rb]? = some (.cells (madeCells #[.int .i64 0] 14641) 3 (0, 0))) : FillIs w f gb rb k0 0 :=
  ⟨hf, hg, ⟨_, hr, size_madeCells _ _, fun p hp => by rw [made_at _ _ _ hp, if_neg (by omega)]⟩⟩
theorem FillIs.cell {w : World} {f gb rb : Nat} {k0 : Int} {i : Nat} (h : FillIs w f gb rb k0 i) (hi : i < 14641) : w.cell? ⟨rb, i, none⟩ = some (.int .i64 0) ∧ w.frozen? ⟨rb, i, none⟩ = false := by
  obtain ⟨rl, r1, r2, r3⟩ := h.rot
  exact ⟨(blk_cell r1 i).trans (by rw [r3 i hi, if_neg (by omega)]), blk_frozen r1 i⟩
theorem FillIs.set {w : World} {f gb rb : Nat} {k0 : Int} {i : Nat} (h : FillIs w f gb rb k0 i) (hi : i < 14641) : FillIs (w.setCell ⟨rb, i, none⟩ (.int .i64 k0)) f gb rb k0 (i + 1) := by
  obtain ⟨rl, r1, r2, r3⟩ := h.rot
  refine ⟨blk_far h.blk (p := ⟨rb, i, none⟩) (blk_ne h.blk r1 (.inl (by decide))) _, blk_far h.gro (p := ⟨rb, i, none⟩) (blk_ne h.gro r1 (.inl (by decide))) _, ⟨_, blk_set r1 _ _, by rw [Array.size_setIfInBounds]; exact r2, fun p hp => ?_⟩⟩
  by_cases e : p = i
  · subst e
    rw [Array.getElem?_setIfInBounds_self_of_lt (by omega), if_pos (by omega)]
  · rw [Array.getElem?_setIfInBounds_ne (fun q => e q.symm), r3 p hp]
    by_cases e2 : p < i
    · rw [if_pos e2, if_pos (by omega)]
    · rw [if_neg e2, if_neg (by omega)]
theorem FillIs.done {w : World} {base f gb rb : Nat} {k0 : Int} {i : Nat} (h : FillIs w f gb rb k0 i) (hi : i = 14641) (hf : base ≤ f) (hg : base ≤ gb) (hr : base ≤ rb) : GwAt w base f gb rb (.slice none 0 0) (fun _ _ => none) k0 [] 0 := by
  obtain ⟨rl, r1, r2, r3⟩ := h.rot
  refine ⟨hf, hg, hr, h.blk, ⟨_, h.gro, size_madeCells _ _, fun x y hx hy => made_at _ _ _ (atN_lt hx hy)⟩, ⟨rl, r1, r2, fun x y hx hy => ?_⟩, ⟨[], own_nil _ _ _ _, fun i c hc => by simp at hc⟩⟩
  rw [r3 _ (atN_lt hx hy), if_pos (by rw [hi]; exact atN_lt hx hy)]
  rfl
theorem at_quiet {x y : Int} (hx : Box x) (hy : Box y) : ∀ W, Calls Try.prog 73 #[.int .i64 x, .int .i64 y] W fun e w' => e = .returned (.int .i64 ((atN x y : Nat) : Int)) ∧ ∃ m, w' = W.drewN m := fun W =>
  (spec_gwAt.calls x y _ W (gwAt_eq hx hy)).mono fun e w' h => ⟨h.1, h.2.out⟩
theorem move_quiet {x y r : Int} (hx : Box x) (hy : Box y) : ∀ W, Calls Try.prog 96 #[.int .i64 x, .int .i64 y, .int .i64 r] W fun e w' => e = .returned (.tuple #[.int .i64 (mv4 r x y).1, .int .i64 (mv4 r x y).2]) ∧ ∃ m, w' = W.drewN m := fun W => by
  have h : spec_gwMove.f x y r = some ((mv4 r x y).1, (mv4 r x y).2) := by
    unfold Box at hx hy
    unfold spec_gwMove.f mv4
    rw [wrap_id (x := x + 1) (by omega) (by omega), wrap_id (x := y + 1) (by omega) (by omega), wrap_id (x := x - 1) (by omega) (by omega), wrap_id (x := y - 1) (by omega) (by omega)]
    split
    · rfl
    · split
      · rfl
      · split <;> rfl
  exact (spec_gwMove.calls x y r _ _ W h).mono fun e w' h => ⟨h.1, h.2.out⟩
theorem GwAt.gro_at {w : World} {base f gb rb : Nat} {vc : Value} {F : Fld} {k0 : Int} {cs : List (Int × Int)} {s x y : Int} (h : GwAt w base f gb rb vc F k0 cs s) (hx : Box x) (hy : Box y) : w.cell? ⟨gb, atN x y, none⟩ = some (.bool (F x y).isSome) ∧ w.frozen? ⟨gb, atN x y, none⟩ = false := by
  obtain ⟨gl, g1, g2, g3⟩ := h.gro
  exact ⟨(blk_cell g1 _).trans (g3 x y hx hy), blk_frozen g1 _⟩
theorem GwAt.rot_at {w : World} {base f gb rb : Nat} {vc : Value} {F : Fld} {k0 : Int} {cs : List (Int × Int)} {s x y : Int} (h : GwAt w base f gb rb vc F k0 cs s) (hx : Box x) (hy : Box y) : w.cell? ⟨rb, atN x y, none⟩ = some (.int .i64 ((F x y).getD k0)) ∧ w.frozen? ⟨rb, atN x y, none⟩ = false := by
  obtain ⟨rl, g1, g2, g3⟩ := h.rot
  exact ⟨(blk_cell g1 _).trans (g3 x y hx hy), blk_frozen g1 _⟩
theorem info29 : (Try.prog.info? 29).map (fun i => (i.zero, i.size, i.bytes)) = some (some (.slice none 0 0), 1, 24) := by kernel_rfl
theorem wpList_appG {ops : Array Oper} {rest : List Oper} {o : Oper} {a : Act} {Q : Exit → Act → World → Prop} {W : World} {base f gb rb : Nat} {vc : Value} {F : Fld} {k0 : Int} {cs : List (Int × Int)} {s x y : Int} {B C : Nat} (hgd : o.guard = none) (sv xv : Operand) (ho : o.op = .call { callee := .builtin .append, args := #[sv, xv], argTypes := #[40, 40] })
    (hs : a.eval sv = vc) (hx : a.eval xv = .slice (some ⟨C, 0, none⟩) 1 1) (h : GwAt W base f gb rb vc F k0 cs s) (hbase : base ≤ W.heap.size) (hl : cs.length ≤ 1000) (hB : W.heap[B]? = some (.cells #[.int .i64 x, .int .i64 y] 3 (0, 0))) (hb : base ≤ B) (hC : W.heap[C]? = some (.cells #[.slice (some ⟨B, 0, none⟩) 2 2] 29 (0, 0)))
    (k : ∀ g1 cap w1, w1.heap[f]? = some (.cells #[.slice (some ⟨gb, 0, none⟩) 14641 14641, .slice (some ⟨rb, 0, none⟩) 14641 14641, vc, .int .i64 s] 61 (0, 0)) → GwAt (w1.setCell ⟨f, 2, none⟩ (.slice (some ⟨g1, 0, none⟩) (cs.length + 1) cap)) base f gb rb (.slice (some ⟨g1, 0, none⟩) (cs.length + 1) cap) F k0 (cs ++ [(x, y)]) s → Below base W w1 →
      wpList Try.prog ops Q rest (a.put o.dst (.slice (some ⟨g1, 0, none⟩) (cs.length + 1) cap)) w1) : wpList Try.prog ops Q (o :: rest) a W := by
  obtain ⟨i0, hi0, hz⟩ := Option.map_eq_some_iff.1 info29
  simp only [Prod.mk.injEq] at hz
  obtain ⟨hz0, hz1, hz2⟩ := hz
  obtain ⟨L, hL, hE⟩ := h.cells
  refine wpList_append_lies (w := W) hgd sv xv 40 ho base 29 i0 (.slice none 0 0) 1 24 Try.underlying40 hi0 hz0 hz1 hz2 rfl (by omega) vc cs.length L hs hL ⟨C, 0, none⟩ 1 1 [.slice (some ⟨B, 0, none⟩) 2 2] hx rfl (World.news_of_block hC) (by intro u hu; simp at hu; subst hu; rfl) (by omega) (by unfold maxLen; omega) (by omega) hbase _ rfl ?_
  intro g1 cap w1 hown hg hat hlt
  obtain ⟨h1, h2⟩ := h.app hb hB hL hE hown hg
  exact k g1 cap w1 h1 h2 ((Below.refl base W).grown hg hbase (own_base hL))
def T1 : Bool × List (List Nat × List Nat) := (true, [([], []), ([], []), ([0, 1], [0, 1]), ([2], [2]), ([3, 0, 1, 2, 3], [3])])
def B1 : List Nat := [0, 0, 3, 7, 15]
theorem tab1 : rtab .any (opsOf Try.f66 1) = T1 := by kernel_rfl
theorem bits1 : waitsOk T1.2 B1 = true := by kernel_rfl
set_option maxHeartbeats 4000000 in
set_option maxRecDepth 100000 in
theorem go_grid (K : Nat) (k0 : Int) (n : Nat) (S : St) (w : World) (hK : K ≤ 300000) (hk0 : 0 ≤ k0 ∧ k0 < 4) (hn : n ≤ 250) (hS : chips 4 15 mv4 K k0 n st0 = some S) :
    Calls Try.prog 66 #[.int .i64 (n : Int), .int .i64 k0] w (GwOut w k0 S) := by
  have HS := Aside0.mk hS
  clear hS
  go_enter Try.func66, Try.ntmps66
  go_upto_region 1 with (fail)
  refine start_ (n := 5) (S := fun w' => True) (ds := []) #[false, false, false, false, false] (by kernel_rfl) rfl rfl trivial (fun hHeld => ?_)
  refine with_tabW tab1 bits1 (fun HT_ HW_ => ?_)
  have HB := Aside0.mk (below_drew (Below.refl w.heap.size w))
  have hsz : w.heap.size ≤ w.drew.heap.size := Nat.le_refl _
  generalize w.drew = W0 at *
  refine join_ (σ := Nat × Nat) 3 #[true, true, false, false, false] (fun s => [(10, .slice (some ⟨s.1, 0, none⟩) 14641 14641), (11, .slice (some ⟨s.2, 0, none⟩) 14641 14641)]) (fun s w' => Aside0 (w'.heap[s.1]? = some (.cells (madeCells #[.bool false] 14641) 4 (0, 0)) ∧ w'.heap[s.2]? = some (.cells (madeCells #[.int .i64 0] 14641) 3 (0, 0)) ∧ w.heap.size ≤ s.1 ∧ w.heap.size ≤ s.2 ∧ Below w.heap.size w w')) ?_ ?_
  rotate_left
  · intro hCont
    refine two_ (i := 0) (j := 1) (Ni := some 10) (Nj := some 11) #[true, false, false, false, false] #[false, true, false, false, false] rfl rfl rfl rfl (two_of HT_.out (by kernel_rfl)) (by decide) (by decide) (fun K hK => ?_) (fun K hK => ?_)
    · refine value_ (v := .slice (some ⟨W0.heap.size, 0, none⟩) 14641 14641) (w1 := W0.alloc (.cells (madeCells #[.bool false] 14641) 4)) (by rfl) rfl (by go_simp; rw [make_bools]; rfl) ?_
      refine hK.out _ _ trivial (fun hHeld => ?_)
      clear hK K
      (try simp only [Act.put, List.setIfInBounds_toArray, List.set_cons_zero, List.set_cons_succ])
      refine one_ (i := 1) (N := some 11) #[true, true, false, false, false] rfl rfl (one_of HT_.out (by kernel_rfl)) (by decide) (fun K hK => ?_)
      refine value_ (v := .slice (some ⟨W0.heap.size + 1, 0, none⟩) 14641 14641) (w1 := (W0.alloc (.cells (madeCells #[.bool false] 14641) 4)).alloc (.cells (madeCells #[.int .i64 0] 14641) 3)) (by rfl) rfl (by go_simp; rw [make_ints]; simp [Result.andThen]) ?_
      refine hK.out _ _ trivial (fun hHeld => ?_)
      clear hK K
      refine norm_ (by simp only [putAll, Act.put, List.setIfInBounds_toArray, List.set_cons_zero, List.set_cons_succ]) (hCont (W0.heap.size, W0.heap.size + 1) _ ⟨two_new W0 _ _, two_new1 W0 _ _, by omega, by omega, (HB.out.alloc (by omega) _).alloc (by simp; omega) _⟩)
    · refine value_ (v := .slice (some ⟨W0.heap.size, 0, none⟩) 14641 14641) (w1 := W0.alloc (.cells (madeCells #[.int .i64 0] 14641) 3)) (by rfl) rfl (by go_simp; rw [make_ints]; rfl) ?_
      refine hK.out _ _ trivial (fun hHeld => ?_)
      clear hK K
      (try simp only [Act.put, List.setIfInBounds_toArray, List.set_cons_zero, List.set_cons_succ])
      refine one_ (i := 0) (N := some 10) #[true, true, false, false, false] rfl rfl (one_of HT_.out (by kernel_rfl)) (by decide) (fun K hK => ?_)
      refine value_ (v := .slice (some ⟨W0.heap.size + 1, 0, none⟩) 14641 14641) (w1 := (W0.alloc (.cells (madeCells #[.int .i64 0] 14641) 3)).alloc (.cells (madeCells #[.bool false] 14641) 4)) (by rfl) rfl (by go_simp; rw [make_bools]; simp [Result.andThen]) ?_
      refine hK.out _ _ trivial (fun hHeld => ?_)
      clear hK K
      refine norm_ (by simp only [putAll, Act.put, List.setIfInBounds_toArray, List.set_cons_zero, List.set_cons_succ]) (hCont (W0.heap.size + 1, W0.heap.size) _ ⟨two_new1 W0 _ _, two_new W0 _ _, by omega, by omega, (HB.out.alloc (by omega) _).alloc (by simp; omega) _⟩)
  rintro ⟨gb, rb⟩ W1 hF
  obtain ⟨hgb, hrb, hg0, hr0, hB⟩ := hF.out
  have HG0 := Aside0.mk hgb
  have HR0 := Aside0.mk hrb
  have HB1 := Aside0.mk hB
  clear hF hgb hrb hB HB hsz hHeld
  refine norm_ (a' := ?_) ?_ ?_
  rotate_left
  · simp only [putAll, Act.put, List.setIfInBounds_toArray, List.set_cons_zero, List.set_cons_succ]
    rfl
  refine one_ (i := 2) (N := some 12) #[true, true, true, false, false] rfl rfl (one_of HT_.out (by kernel_rfl)) (by decide) (fun K hK => ?_)
  refine value_ (v := .agg #[.slice (some ⟨gb, 0, none⟩) 14641 14641, .slice (some ⟨rb, 0, none⟩) 14641 14641, .slice none 0 0, .int .i64 0]) (w1 := W1) (by rfl) rfl (by go_simp) ?_
  refine hK.out _ _ trivial (fun hHeld => ?_)
  clear hK K
  (try simp only [Act.put, List.setIfInBounds_toArray, List.set_cons_zero, List.set_cons_succ])
  refine one_ (i := 3) (N := some 13) #[true, true, true, true, false] rfl rfl (one_of HT_.out (by kernel_rfl)) (by decide) (fun K hK => ?_)
  refine value_ (v := .pointer (some ⟨W1.heap.size, 0, none⟩)) (w1 := W1.alloc (.cells #[.slice (some ⟨gb, 0, none⟩) 14641 14641, .slice (some ⟨rb, 0, none⟩) 14641 14641, .slice none 0 0, .int .i64 0] 61)) (by rfl) rfl (by go_simp) ?_
  have HF0 := Aside0.mk (blk_new W1 (.cells #[.slice (some ⟨gb, 0, none⟩) 14641 14641, .slice (some ⟨rb, 0, none⟩) 14641 14641, .slice none 0 0, .int .i64 0] 61))
  have hgl := blk_lt HG0.out
  have hrl := blk_lt HR0.out
  have HG1 : Aside0 ((W1.alloc (.cells #[.slice (some ⟨gb, 0, none⟩) 14641 14641, .slice (some ⟨rb, 0, none⟩) 14641 14641, .slice none 0 0, .int .i64 0] 61)).heap[gb]? = some (.cells (madeCells #[.bool false] 14641) 4 (0, 0))) := ⟨((MapKept.heap_alloc W1 _).2 gb hgl).trans HG0.out⟩
  have HR1 : Aside0 ((W1.alloc (.cells #[.slice (some ⟨gb, 0, none⟩) 14641 14641, .slice (some ⟨rb, 0, none⟩) 14641 14641, .slice none 0 0, .int .i64 0] 61)).heap[rb]? = some (.cells (madeCells #[.int .i64 0] 14641) 3 (0, 0))) := ⟨((MapKept.heap_alloc W1 _).2 rb hrl).trans HR0.out⟩
  have HB2 := Aside0.mk (HB1.out.alloc (HB1.out.size) (.cells #[.slice (some ⟨gb, 0, none⟩) 14641 14641, .slice (some ⟨rb, 0, none⟩) 14641 14641, .slice none 0 0, .int .i64 0] 61))
  have hf0 : w.heap.size ≤ W1.heap.size := HB1.out.size
  clear HG0 HR0 HB1 hgl hrl
  generalize W1.alloc (.cells #[.slice (some ⟨gb, 0, none⟩) 14641 14641, .slice (some ⟨rb, 0, none⟩) 14641 14641, .slice none 0 0, .int .i64 0] 61) = W2 at *
  generalize W1.heap.size = f at *
  refine hK.out _ _ trivial (fun hHeld => ?_)
  clear hK K
  (try simp only [Act.put, List.setIfInBounds_toArray, List.set_cons_zero, List.set_cons_succ])
  refine pure_ (i := 4) (N := some 5) (v := ?_) (a' := ?_) #[true, true, true, true, true] rfl rfl (any_of HT_.out (by kernel_rfl)) (fun _ _ _ h => h) (Or.inl ⟨by rfl, ?_⟩) ?_ ?_
  rotate_left
  · intro w'
    go_simp
    with_reducible rfl
  rotate_left
  · simp only [Act.put, List.setIfInBounds_toArray, List.set_cons_zero, List.set_cons_succ, i64_w, i32_w]
    rfl
  refine done_ (done_of HT_.out (by kernel_rfl)) ?_
  clear HT_ HW_ hHeld
  have c1 := blk_cell HF0.out 1
  simp at c1
  go_wp2_with (fail)
  clear c1
  go_loopg [19] 14641 (fun m v19 wr => ∃ (i : Nat), v19 = .int .i64 (i : Int) ∧ Aside0 (i + m = 14641) ∧ Aside0 (FillIs wr f gb rb k0 i) ∧ Aside0 (Below w.heap.size w wr))
  case atStart => exact ⟨0, rfl, ⟨by omega⟩, ⟨FillIs.start HF0.out HG1.out HR1.out⟩, HB2⟩
  case round =>
    clear HF0 HG1 HR1 HB2
    obtain ⟨i, rfl, HI, HF, HB⟩ := hrel
    cases gk with
    | zero =>
      have hi : ¬ ((i : Int) < 14641) := by have := HI.out; omega
      have HG := Aside0.mk (HF.out.done (by have := HI.out; omega) hf0 hg0 hr0)
      clear HF HI
      go_wp2_with (fail)
      clear hi
      go_loopg [0] n (fun m v0 wr => ∃ (vc : Value) (F : Fld) (cs : List (Int × Int)) (s : Int), v0 = .int .i64 (m : Int) ∧ Aside0 (chips 4 15 mv4 K k0 m ⟨F, cs, s⟩ = some S) ∧
        Aside0 (GwAt wr w.heap.size f gb rb vc F k0 cs s) ∧ Aside0 (cs.length + m ≤ 250) ∧ Aside0 (0 ≤ s ∧ s + ((K * m : Nat) : Int) ≤ 75000000) ∧ Aside0 (Below w.heap.size w wr) ∧ Aside0 (Rot 4 F))
      case atStart => exact ⟨_, _, _, _, rfl, HS, HG, ⟨by simpa using hn⟩, ⟨by have := Nat.mul_le_mul hK hn; omega⟩, HB, ⟨fun _ _ _ h => by cases h⟩⟩
      case round =>
        clear HS HG HB
        obtain ⟨vc, F, cs, s, rfl, HC, HG, HL, HT, HB, HO⟩ := hrel
        cases gk with
        | zero =>
          have hc := HC.out
          simp only [chips, Option.some.injEq] at hc
          subst hc
          go_wp2_with (fail)
          refine bodyPost_ret (v := .pointer (some ⟨f, 0, none⟩)) (by simp [results, Try.results66, go_sem]) rfl ?_
          exact ⟨_, _, _, _, rfl, HB.out, HG⟩
        | succ m =>
          have hi : ((m + 1 : Nat) : Int) > 0 := by omega
          have hc := HC.out
          simp only [chips] at hc
          obtain ⟨⟨F1, x1, y1, s1⟩, hr, hc⟩ := Option.bind_eq_some_iff.1 hc
          have HR := Aside0.mk hr
          have HC1 := Aside0.mk hc
          clear hr hc HC
          go_wp2_with (fail)
          obtain ⟨s0, hs0⟩ : ∃ s0, s0 = s := ⟨_, rfl⟩
          have hsK : s0 + ((K * m : Nat) : Int) + K ≤ 75000000 ∧ 0 ≤ ((K * m : Nat) : Int) := by have := HT.out; rw [Nat.mul_succ] at this; omega
          obtain ⟨Wo, hWo⟩ : ∃ W, W = wr := ⟨wr, rfl⟩
          subst hWo
          go_loopg [7, 8] K (fun kq v7 v8 wq => ∃ (F : Fld) (x y s : Int), v7 = .int .i64 x ∧ v8 = .int .i64 y ∧ Aside0 (run 4 15 mv4 kq F x y s = some (F1, x1, y1, s1)) ∧ Aside0 (GwAt wq w.heap.size f gb rb vc F k0 cs s) ∧
            Aside0 (0 ≤ s ∧ s + kq ≤ s0 + K) ∧ Aside0 (Below w.heap.size w wq) ∧ Aside0 (Rot 4 F))
          case atStart => exact ⟨F, 0, 0, s, rfl, rfl, HR, HG, ⟨by have := HT.out; omega⟩, HB, HO⟩
          case round =>
            clear HR HG HB HO
            obtain ⟨F2, x, y, s2, rfl, rfl, HR, HG, HS1, HB, HO⟩ := hrel
            cases gk with
            | zero => exact absurd HR.out (by simp [run])
            | succ q =>
              have hr := HR.out
              simp only [run] at hr
              split at hr
              case isFalse => cases hr
              rename_i hbox
              have hbx : Box x := ⟨by omega, by omega⟩
              have hby : Box y := ⟨by omega, by omega⟩
              have HN := Aside0.mk (at_quiet hbx hby)
              have hplt := atN_lt hbx hby
              obtain ⟨p, hp⟩ : ∃ p, p = atN x y := ⟨_, rfl⟩
              rw [← hp] at HN hplt
              have hpi : (p : Int) < 14641 := by omega
              have hp0 : (0 : Int) ≤ (p : Int) := by omega
              cases hF : F2 x y with
              | none =>
                rw [hF] at hr
                simp only [Option.some.injEq, Prod.mk.injEq] at hr
                obtain ⟨rfl, rfl, rfl, rfl⟩ := hr
                obtain ⟨cg, fg⟩ := HG.out.gro_at hbx hby
                rw [hF, ← hp] at cg
                rw [← hp] at fg
                have c0 := blk_cell HG.out.blk 0
                simp at c0 cg
                replace hp := Aside0.mk hp
                clear HR
                go_upto_region 10 with (fail)
                go_quiet ((go_at_call 73; exact Calls.quiet_of (HN.out _)))
                go_upto_region 15 with (fail)
                have HG1 := Aside0.mk (HG.out.drewN nq)
                have HB1 : Aside0 (Below w.heap.size w (wr.drewN nq)) := ⟨pw_below_drewN HB.out nq⟩
                clear HG HB c0 cg fg
                generalize wr.drewN nq = W3 at *
                have c0 := blk_cell HG1.out.blk 0
                obtain ⟨cg, fg⟩ := HG1.out.gro_at hbx hby
                rw [hF, ← hp.out] at cg
                rw [← hp.out] at fg
                simp at c0 cg
                go_region_with (go_at_call 73; refine (HN.out _).mono ?_; rintro e w9 ⟨rfl, ⟨nd, rfl⟩⟩)
                all_goals
                  have HG2 : Aside0 (GwAt ((W3.drewN (1 + nd)).setCell ⟨gb, p, none⟩ (.bool true)) w.heap.size f gb rb vc (upd F2 x y k0) k0 cs s2) := ⟨by rw [hp.out]; exact (HG1.out.drewN _).setGro hbx hby hF⟩
                  have HB2 : Aside0 (Below w.heap.size w ((W3.drewN (1 + nd)).setCell ⟨gb, p, none⟩ (.bool true))) := ⟨(pw_below_drewN HB1.out (1 + nd)).setCell (p := ⟨gb, p, none⟩) hg0 _⟩
                  clear HG1 HB1 c0 cg fg
                  generalize (W3.drewN (1 + nd)).setCell ⟨gb, p, none⟩ (.bool true) = W4 at *
                  have c2 := blk_cell HG2.out.blk 2
                  simp at c2
                  have hb4 := HB2.out.size
                  have hl4 : cs.length ≤ 1000 := by have := HL.out; omega
                  have HG4 := Aside0.mk ((HG2.out.alloc (.cells #[.int .i64 x, .int .i64 y] 3)).alloc (.cells #[.slice (some ⟨W4.heap.size, 0, none⟩) 2 2] 29))
                  have HB4 := Aside0.mk ((HB2.out.alloc hb4 (.cells #[.int .i64 x, .int .i64 y] 3)).alloc (by simp; omega) (.cells #[.slice (some ⟨W4.heap.size, 0, none⟩) 2 2] 29))
                  go_wp2_with (first | ((with_reducible refine gate_builtin (b := .append) (xs := #[.tmp 93, .tmp 97]) rfl ?_); refine wpList_appG rfl (.tmp 93) (.tmp 97) rfl rfl rfl HG4.out (by simp; omega) hl4 (two_new W4 _ _) hb4 (two_new1 W4 _ _) ?_; intro g1 cap w1 hf1 hG5 hB5; have HG5 := Aside0.mk hG5; have HB5 := Aside0.mk (HB4.out.trans hB5); have q2 := blk_cell hf1 2; have z2 := blk_frozen hf1 2; simp at q2; clear hf1 hG5 hB5 HG4 HB4))
                  have hw := wrap_id (x := (m : Int)) (by have := HL.out; omega) (by have := HL.out; omega)
                  go_wp2_with (fail)
                  go_roundg m
                  case measure => omega
                  case rel => exact ⟨_, _, _, s2, by first | rfl | go_num, HC1, HG5, ⟨bd3 HL.out⟩, ⟨bd2 HS1.out hsK⟩, ⟨HB5.out.setCell (p := ⟨f, 2, none⟩) hf0 _⟩, ⟨HO.out.upd hk0⟩⟩
              | some r =>
                rw [hF] at hr
                simp only at hr
                have HR1 := Aside0.mk hr
                obtain ⟨cg, fg⟩ := HG.out.gro_at hbx hby
                rw [hF, ← hp] at cg
                rw [← hp] at fg
                have c0 := blk_cell HG.out.blk 0
                simp at c0 cg
                replace hp := Aside0.mk hp
                have hc4 := HO.out x y r hF
                have hw1 : wrap64 (r + 1) = r + 1 := wrap_id (by omega) (by omega)
                have hw2 : Int.tmod (r + 1) 4 = (r + 1) % 4 := Int.tmod_eq_emod_of_nonneg (by omega)
                obtain ⟨r1, hr1⟩ : ∃ r1, r1 = (r + 1) % 4 := ⟨_, rfl⟩
                have hr4 : 0 ≤ r1 ∧ r1 < 4 := by omega
                rw [← hr1] at hw2 HR1
                clear HR hr hr1
                go_upto_region 10 with (fail)
                go_quiet ((go_at_call 73; exact Calls.quiet_of (HN.out _)))
                have HG1 := Aside0.mk (HG.out.drewN nq)
                have HB1 : Aside0 (Below w.heap.size w (wr.drewN nq)) := ⟨pw_below_drewN HB.out nq⟩
                clear HG HB c0 cg fg
                generalize wr.drewN nq = W3 at *
                go_wp2_with (first | (go_at_call 73; refine (HN.out _).mono ?_; rintro e w9 ⟨rfl, ⟨nd, rfl⟩⟩))
                have HG2 := Aside0.mk (HG1.out.drewN nd)
                have HB2 : Aside0 (Below w.heap.size w (W3.drewN nd)) := ⟨pw_below_drewN HB1.out nd⟩
                clear HG1 HB1
                generalize W3.drewN nd = W5 at *
                obtain ⟨cr, fr⟩ := HG2.out.rot_at hbx hby
                rw [hF, ← hp.out] at cr
                rw [← hp.out] at fr
                have c1 := blk_cell HG2.out.blk 1
                simp at c1 cr
                go_region
                have HG3 : Aside0 (GwAt (W5.setCell ⟨rb, p, none⟩ (.int .i64 r1)).drew w.heap.size f gb rb vc (upd F2 x y r1) k0 cs s2) := ⟨by rw [hp.out]; exact (HG2.out.setRot hbx hby (by rw [hF]; rfl)).drew⟩
                have HB3 : Aside0 (Below w.heap.size w (W5.setCell ⟨rb, p, none⟩ (.int .i64 r1)).drew) := ⟨below_drew (HB2.out.setCell (p := ⟨rb, p, none⟩) hr0 _)⟩
                clear HG2 HB2 c1 cr fr hF
                generalize (W5.setCell ⟨rb, p, none⟩ (.int .i64 r1)).drew = W6 at *
                have c1 := blk_cell HG3.out.blk 1
                have c3 := blk_cell HG3.out.blk 3
                have fz := blk_frozen HG3.out.blk 3
                obtain ⟨cr, fr⟩ := HG3.out.rot_at hbx hby
                have hup : (upd F2 x y r1 x y).getD k0 = r1 := by unfold upd; rw [if_pos ⟨rfl, rfl⟩]; rfl
                rw [hup, ← hp.out] at cr
                simp at c1 c3
                clear hup fr
                have HM := Aside0.mk (move_quiet (r := r1) hbx hby)
                have hw3 : wrap64 (s2 + 1) = s2 + 1 := wrap_id (by have := HS1.out; omega) (by have := HS1.out; omega)
                generalize mv4 r1 x y = pq at *
                go_wp2_with (first | (go_at_call 96; refine (HM.out _).mono ?_; rintro e w9 ⟨rfl, ⟨nd2, rfl⟩⟩))
                go_roundg q
                case measure => omega
                case rel => exact ⟨_, pq.1, pq.2, s2 + 1, rfl, rfl, HR1, ⟨(HG3.out.drewN nd2).step (s2 + 1)⟩, ⟨by have := HS1.out; omega⟩, ⟨(pw_below_drewN HB3.out nd2).setCell (p := ⟨f, 3, none⟩) hf0 _⟩, ⟨HO.out.upd hr4⟩⟩
    | succ m =>
      have hi : (i : Int) < 14641 := by have := HI.out; omega
      have hin : i < 14641 := by have := HI.out; omega
      have c1 := blk_cell HF.out.blk 1
      simp at c1
      obtain ⟨cv, fz⟩ := HF.out.cell hin
      have hw := wrap_id (x := (i : Int) + 1) (by omega) (by omega)
      go_wp2_with (fail)
      go_roundg m
      case measure => omega
      case rel => exact ⟨i + 1, by first | rfl | go_num, ⟨by have := HI.out; omega⟩, ⟨HF.out.set hin⟩, ⟨HB.out.setCell (p := ⟨rb, i, none⟩) hr0 _⟩⟩
end Go.Proofs.Ytjedhjeijpbobaa.G8
