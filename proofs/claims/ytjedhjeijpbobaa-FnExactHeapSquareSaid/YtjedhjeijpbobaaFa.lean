/-
  The reference's field on the grid: what lies in memory.
-/
import Derived.Test.YtjedhjeijpbobaaMb
import Derived.Test.YtjedhjeijpbobaaGA
namespace Go.Proofs.Ytjedhjeijpbobaa.G8
open Go.RowKit Go.Maps Go.Proofs.YtjedhjeijpbobaaW.PrintWords Go.Proofs.YtjedhjeijpbobaaW.PrintLast Go.Proofs.YtjedhjeijpbobaaW.PrintMore
open Go.Proofs.Ytjedhjeijpbobaa.GA
set_option linter.unusedVariables false
set_option linter.unusedSimpArgs false
/-- A number of the field's cells. -/
def Box (x : Int) : Prop := -60 ≤ x ∧ x ≤ 60
def atN (x y : Int) : Nat := ((x + 60) * 121 + y + 60).toNat
theorem atN_lt {x y : Int} (hx : Box x) (hy : Box y) : atN x y < 14641 := by unfold Box at *; unfold atN; omega
theorem atN_cast {x y : Int} (hx : Box x) (hy : Box y) : ((atN x y : Nat) : Int) = (x + 60) * 121 + y + 60 := by unfold Box at *; unfold atN; omega
theorem atN_eq {x y a b : Int} (hx : Box x) (hy : Box y) (ha : Box a) (hb : Box b) : atN a b = atN x y ↔ a = x ∧ b = y := by unfold Box at *; unfold atN; omega
theorem gwAt_eq {x y : Int} (hx : Box x) (hy : Box y) : spec_gwAt.f x y = some ((atN x y : Nat) : Int) := by
  rw [atN_cast hx hy]
  unfold Box at *
  unfold spec_gwAt.f
  rw [wrap_id (x := x + 60) (by omega) (by omega), wrap_id (x := (x + 60) * 121) (by omega) (by omega), wrap_id (x := (x + 60) * 121 + y) (by omega) (by omega), wrap_id (by omega) (by omega)]
structure GwAt (w : World) (base f gb rb : Nat) (vc : Value) (F : Fld) (k0 : Int) (cs : List (Int × Int)) (s : Int) : Prop where
  hf : base ≤ f
  hg : base ≤ gb
  hr : base ≤ rb
  blk : w.heap[f]? = some (.cells #[.slice (some ⟨gb, 0, none⟩) 14641 14641, .slice (some ⟨rb, 0, none⟩) 14641 14641, vc, .int .i64 s] 61 (0, 0))
  gro : ∃ gl : Array Value, w.heap[gb]? = some (.cells gl 4 (0, 0)) ∧ gl.size = 14641 ∧ ∀ x y, Box x → Box y → gl[atN x y]? = some (.bool (F x y).isSome)
  rot : ∃ rl : Array Value, w.heap[rb]? = some (.cells rl 3 (0, 0)) ∧ rl.size = 14641 ∧ ∀ x y, Box x → Box y → rl[atN x y]? = some (.int .i64 ((F x y).getD k0))
  cells : ∃ L, w.ownsRow base 29 1 vc cs.length L ∧ ∀ (i : Nat) (c : Int × Int), cs[i]? = some c → ∃ b, L[i]? = some (.slice (some ⟨b, 0, none⟩) 2 2) ∧ base ≤ b ∧ w.heap[b]? = some (.cells #[.int .i64 c.1, .int .i64 c.2] 3 (0, 0))
def GwOut (w : World) (k0 : Int) (S : St) (e : Ending) (w' : World) : Prop := ∃ f gb rb vc, e = .returned (.pointer (some ⟨f, 0, none⟩)) ∧ Below w.heap.size w w' ∧ Aside0 (GwAt w' w.heap.size f gb rb vc S.f k0 S.cells S.steps)
section
variable {w w1 : World} {base f gb rb : Nat} {vc : Value} {F : Fld} {k0 : Int} {cs : List (Int × Int)} {s : Int}
theorem blk_ne {b c : Nat} {x y : Array Value} {t u : TypeId} (h : w.heap[b]? = some (.cells x t (0, 0))) (k : w.heap[c]? = some (.cells y u (0, 0))) (hn : t ≠ u ∨ x.size ≠ y.size) : b ≠ c := by
  rintro rfl
  rw [h] at k
  injection k with k
  injection k with k1 k2
  rcases hn with hn | hn
  · exact hn k2
  · exact hn (by rw [k1])
theorem GwAt.keep (h : GwAt w base f gb rb vc F k0 cs s) (e : ∀ b, b < w.heap.size → w1.heap[b]? = w.heap[b]?) : GwAt w1 base f gb rb vc F k0 cs s := by
  obtain ⟨gl, g1, g2, g3⟩ := h.gro
  obtain ⟨rl, r1, r2, r3⟩ := h.rot
  obtain ⟨L, c1, c2⟩ := h.cells
  refine ⟨h.hf, h.hg, h.hr, (e f (blk_lt h.blk)).trans h.blk, ⟨gl, (e gb (blk_lt g1)).trans g1, g2, g3⟩, ⟨rl, (e rb (blk_lt r1)).trans r1, r2, r3⟩, ⟨L, own_move c1 (fun k hk => e k (own_lt c1 k hk)), fun i c hc => ?_⟩⟩
  obtain ⟨b, q1, q2, q3⟩ := c2 i c hc
  exact ⟨b, q1, q2, (e b (blk_lt q3)).trans q3⟩
theorem GwAt.drew (h : GwAt w base f gb rb vc F k0 cs s) : GwAt w.drew base f gb rb vc F k0 cs s := h.keep fun _ _ => rfl
theorem GwAt.drewN (h : GwAt w base f gb rb vc F k0 cs s) (n : Nat) : GwAt (w.drewN n) base f gb rb vc F k0 cs s := h.keep fun _ _ => by simp
theorem GwAt.alloc (h : GwAt w base f gb rb vc F k0 cs s) (o : Obj) : GwAt (w.alloc o) base f gb rb vc F k0 cs s := h.keep fun b hb => (MapKept.heap_alloc w o).2 b hb
theorem GwAt.below (h : GwAt w base f gb rb vc F k0 cs s) (hB : Below w.heap.size w w1) : GwAt w1 base f gb rb vc F k0 cs s := h.keep fun b hb => hB.block b hb
theorem GwAt.f_gb (h : GwAt w base f gb rb vc F k0 cs s) : f ≠ gb := by obtain ⟨gl, g1, _⟩ := h.gro; exact blk_ne h.blk g1 (.inl (by decide))
theorem GwAt.f_rb (h : GwAt w base f gb rb vc F k0 cs s) : f ≠ rb := by obtain ⟨rl, r1, _⟩ := h.rot; exact blk_ne h.blk r1 (.inl (by decide))
theorem GwAt.gb_rb (h : GwAt w base f gb rb vc F k0 cs s) : gb ≠ rb := by obtain ⟨gl, g1, _⟩ := h.gro; obtain ⟨rl, r1, _⟩ := h.rot; exact blk_ne g1 r1 (.inl (by decide))
theorem GwAt.own_f (h : GwAt w base f gb rb vc F k0 cs s) : some f ≠ vc.ownBlock := by obtain ⟨L, c1, _⟩ := h.cells; exact own_ne c1 h.blk (by decide)
theorem GwAt.own_g (h : GwAt w base f gb rb vc F k0 cs s) : some gb ≠ vc.ownBlock := by obtain ⟨L, c1, _⟩ := h.cells; obtain ⟨gl, g1, _⟩ := h.gro; exact own_ne c1 g1 (by decide)
theorem GwAt.own_r (h : GwAt w base f gb rb vc F k0 cs s) : some rb ≠ vc.ownBlock := by obtain ⟨L, c1, _⟩ := h.cells; obtain ⟨rl, r1, _⟩ := h.rot; exact own_ne c1 r1 (by decide)
/-- A block that is none of the elements'. -/
theorem GwAt.far (h : GwAt w base f gb rb vc F k0 cs s) {A : Nat} (hv : some A ≠ vc.ownBlock) (hA : ∀ b x y, w.heap[b]? = some (.cells #[.int .i64 x, .int .i64 y] 3 (0, 0)) → b ≠ A) (i : Nat) (u : Value) :
    ∃ L, (w.setCell ⟨A, i, none⟩ u).ownsRow base 29 1 vc cs.length L ∧ ∀ (i1 : Nat) (c : Int × Int), cs[i1]? = some c → ∃ b, L[i1]? = some (.slice (some ⟨b, 0, none⟩) 2 2) ∧ base ≤ b ∧ (w.setCell ⟨A, i, none⟩ u).heap[b]? = some (.cells #[.int .i64 c.1, .int .i64 c.2] 3 (0, 0)) := by
  obtain ⟨L, c1, c2⟩ := h.cells
  refine ⟨L, own_setCell c1 hv _, fun i1 c hc => ?_⟩
  obtain ⟨b, q1, q2, q3⟩ := c2 i1 c hc
  exact ⟨b, q1, q2, blk_far q3 (p := ⟨A, i, none⟩) (hA b _ _ q3) _⟩
/-- A rotor of a grown cell is turned. -/
theorem GwAt.setRot (h : GwAt w base f gb rb vc F k0 cs s) {x y r : Int} (hx : Box x) (hy : Box y) (hF : (F x y).isSome = true) : GwAt (w.setCell ⟨rb, atN x y, none⟩ (.int .i64 r)) base f gb rb vc (upd F x y r) k0 cs s := by
  obtain ⟨gl, g1, g2, g3⟩ := h.gro
  obtain ⟨rl, r1, r2, r3⟩ := h.rot
  have hlt := atN_lt hx hy
  refine ⟨h.hf, h.hg, h.hr, blk_far h.blk (p := ⟨rb, atN x y, none⟩) h.f_rb _, ⟨gl, blk_far g1 (p := ⟨rb, atN x y, none⟩) h.gb_rb _, g2, fun a b ha hb => ?_⟩, ⟨_, blk_set r1 _ _, by rw [Array.size_setIfInBounds]; exact r2, fun a b ha hb => ?_⟩, h.far h.own_r (fun b x1 y1 hb => blk_ne hb r1 (.inr (by rw [r2]; simp))) _ _⟩
  · rw [g3 a b ha hb]
    unfold upd
    by_cases e : a = x ∧ b = y
    · rw [if_pos e, e.1, e.2, hF]; rfl
    · rw [if_neg e]
  · unfold upd
    by_cases e : a = x ∧ b = y
    · rw [if_pos e, e.1, e.2, Array.getElem?_setIfInBounds_self_of_lt (by omega)]; rfl
    · rw [if_neg e, Array.getElem?_setIfInBounds_ne (fun q => e ((atN_eq hx hy ha hb).1 q.symm))]; exact r3 a b ha hb
/-- A cell is grown. -/
theorem GwAt.setGro (h : GwAt w base f gb rb vc F k0 cs s) {x y : Int} (hx : Box x) (hy : Box y) (hF : F x y = none) : GwAt (w.setCell ⟨gb, atN x y, none⟩ (.bool true)) base f gb rb vc (upd F x y k0) k0 cs s := by
  obtain ⟨gl, g1, g2, g3⟩ := h.gro
  obtain ⟨rl, r1, r2, r3⟩ := h.rot
  have hlt := atN_lt hx hy
  refine ⟨h.hf, h.hg, h.hr, blk_far h.blk (p := ⟨gb, atN x y, none⟩) h.f_gb _, ⟨_, blk_set g1 _ _, by rw [Array.size_setIfInBounds]; exact g2, fun a b ha hb => ?_⟩, ⟨rl, blk_far r1 (p := ⟨gb, atN x y, none⟩) (fun e => h.gb_rb e.symm) _, r2, fun a b ha hb => ?_⟩, h.far h.own_g (fun b x1 y1 hb => blk_ne hb g1 (.inl (by decide))) _ _⟩
  · unfold upd
    by_cases e : a = x ∧ b = y
    · rw [if_pos e, e.1, e.2, Array.getElem?_setIfInBounds_self_of_lt (by omega)]; rfl
    · rw [if_neg e, Array.getElem?_setIfInBounds_ne (fun q => e ((atN_eq hx hy ha hb).1 q.symm))]; exact g3 a b ha hb
  · rw [r3 a b ha hb]
    unfold upd
    by_cases e : a = x ∧ b = y
    · rw [if_pos e, e.1, e.2, hF]; rfl
    · rw [if_neg e]
theorem GwAt.step (h : GwAt w base f gb rb vc F k0 cs s) (s1 : Int) : GwAt (w.setCell ⟨f, 3, none⟩ (.int .i64 s1)) base f gb rb vc F k0 cs s1 := by
  obtain ⟨gl, g1, g2, g3⟩ := h.gro
  obtain ⟨rl, r1, r2, r3⟩ := h.rot
  exact ⟨h.hf, h.hg, h.hr, (blk_set h.blk 3 _).trans (by simp), ⟨gl, blk_far g1 (p := ⟨f, 3, none⟩) (fun e => h.f_gb e.symm) _, g2, g3⟩, ⟨rl, blk_far r1 (p := ⟨f, 3, none⟩) (fun e => h.f_rb e.symm) _, r2, r3⟩, h.far h.own_f (fun b x1 y1 hb => blk_ne hb h.blk (.inl (by decide))) _ _⟩
theorem GwAt.app (h : GwAt w base f gb rb vc F k0 cs s) {x y : Int} {B g1 cap : Nat} (hb : base ≤ B) (hB : w.heap[B]? = some (.cells #[.int .i64 x, .int .i64 y] 3 (0, 0))) {L : List Value} (hL : w.ownsRow base 29 1 vc cs.length L) (hE : ∀ (i : Nat) (c : Int × Int), cs[i]? = some c → ∃ b, L[i]? = some (.slice (some ⟨b, 0, none⟩) 2 2) ∧ base ≤ b ∧ w.heap[b]? = some (.cells #[.int .i64 c.1, .int .i64 c.2] 3 (0, 0)))
    (hown : w1.ownsRow base 29 1 (.slice (some ⟨g1, 0, none⟩) (cs.length + 1) cap) (cs.length + 1) (L ++ [.slice (some ⟨B, 0, none⟩) 2 2])) (hg : w.grownBy w1 vc.ownBlock) :
    w1.heap[f]? = some (.cells #[.slice (some ⟨gb, 0, none⟩) 14641 14641, .slice (some ⟨rb, 0, none⟩) 14641 14641, vc, .int .i64 s] 61 (0, 0)) ∧ GwAt (w1.setCell ⟨f, 2, none⟩ (.slice (some ⟨g1, 0, none⟩) (cs.length + 1) cap)) base f gb rb (.slice (some ⟨g1, 0, none⟩) (cs.length + 1) cap) F k0 (cs ++ [(x, y)]) s := by
  have hf : w1.heap[f]? = _ := (hg.block f (blk_lt h.blk) h.own_f).trans h.blk
  obtain ⟨gl, q1, q2, q3⟩ := h.gro
  obtain ⟨rl, r1, r2, r3⟩ := h.rot
  have hgb : w1.heap[gb]? = _ := (hg.block gb (blk_lt q1) h.own_g).trans q1
  have hrb : w1.heap[rb]? = _ := (hg.block rb (blk_lt r1) h.own_r).trans r1
  have hel : ∀ (b : Nat) (x y : Int), w.heap[b]? = some (Obj.cells #[.int .i64 x, .int .i64 y] 3 (0, 0)) → (w1.setCell ⟨f, 2, none⟩ (.slice (some ⟨g1, 0, none⟩) (cs.length + 1) cap)).heap[b]? = some (Obj.cells #[.int .i64 x, .int .i64 y] 3 (0, 0)) := fun b x y hb =>
    blk_far ((hg.block b (blk_lt hb) (own_ne hL hb (by decide))).trans hb) (p := ⟨f, 2, none⟩) (blk_ne hb h.blk (.inl (by decide))) _
  refine ⟨hf, h.hf, h.hg, h.hr, (blk_set hf 2 _).trans (by simp), ⟨gl, blk_far hgb (p := ⟨f, 2, none⟩) (fun e => h.f_gb e.symm) _, q2, q3⟩, ⟨rl, blk_far hrb (p := ⟨f, 2, none⟩) (fun e => h.f_rb e.symm) _, r2, r3⟩, ⟨L ++ [.slice (some ⟨B, 0, none⟩) 2 2], ?_, ?_⟩⟩
  · rw [List.length_append, List.length_singleton]
    exact own_setCell hown (own_ne hown hf (by decide)) _
  · have hLl : L.length = cs.length := by have := hL.1; omega
    intro i c hc
    rcases Nat.lt_trichotomy i cs.length with hi | hi | hi
    · rw [List.getElem?_append_left hi] at hc
      obtain ⟨b, p1, p2, p3⟩ := hE i c hc
      exact ⟨b, by rw [List.getElem?_append_left (by omega)]; exact p1, p2, hel b _ _ p3⟩
    · subst hi
      rw [List.getElem?_append_right (Nat.le_refl _)] at hc
      simp at hc
      subst hc
      exact ⟨B, by rw [List.getElem?_append_right (by omega), hLl]; simp, hb, hel B _ _ hB⟩
    · rw [List.getElem?_append_right (by omega)] at hc
      rw [List.getElem?_eq_none (by simp; omega)] at hc
      cases hc
end
end Go.Proofs.Ytjedhjeijpbobaa.G8
