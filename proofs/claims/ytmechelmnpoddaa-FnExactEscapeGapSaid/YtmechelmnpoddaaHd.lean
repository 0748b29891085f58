/-
  The walk of the program's chip on a branching tree, by a contract.
-/
import Derived.Test.YtmechelmnpoddaaHc
import Derived.Deep.RegionHeld3
import Derived.Deep.AppendLies
namespace Go.Proofs.Ytmechelmnpoddaa.H7
open Go.RowKit Go.Proofs.YtmechelmnpoddaaW.PrintWords Go.Proofs.YtmechelmnpoddaaW.PrintLast Go.Proofs.YtmechelmnpoddaaW.PrintMore
open Go.Proofs.Ytmechelmnpoddaa.A7
open Es (nth)
set_option linter.unusedVariables false
set_option linter.unusedSimpArgs false

/-- The state of the program's forest at block g: four rows of the call's own, each apart from the others. -/
structure FoAt (w : World) (base g : Nat) (b d : Nat) (vr ve vt vv : Value) (nr nv : Nat) (rot ends trips vis : List Nat) : Prop where
  blk : w.heap[g]? = some (.cells #[.int .i64 (b : Int), .int .i64 (d : Int), vr, ve, vt, vv] 67 (0, 0))
  hg : base ≤ g
  r : w.ownsRow base 3 1 vr nr (nums .i64 (ints rot))
  e : w.ownsRow base 3 1 ve ends.length (nums .i64 (ints ends))
  t : w.ownsRow base 3 1 vt trips.length (nums .i64 (ints trips))
  v : w.ownsRow base 3 1 vv nv (nums .i64 (ints vis))
  re : NeRow vr ve
  rt : NeRow vr vt
  rv : NeRow vr vv
  et : NeRow ve vt
  ev : NeRow ve vv
  tv : NeRow vt vv

variable {w : World} {base g b d gr cr gv cv nr nv : Nat} {ve vt vr vv : Value} {rot ends trips vis : List Nat}
theorem FoAt.gr_ne (h : FoAt w base g b d (.slice (some ⟨gr, 0, none⟩) nr cr) ve vt vv nr nv rot ends trips vis) : gr ≠ g := by
  have := own_ne h.r h.blk (by decide)
  rintro rfl
  exact this rfl
theorem FoAt.gv_ne (h : FoAt w base g b d vr ve vt (.slice (some ⟨gv, 0, none⟩) nv cv) nr nv rot ends trips vis) : gv ≠ g := by
  have := own_ne h.v h.blk (by decide)
  rintro rfl
  exact this rfl
theorem FoAt.gr_gv (h : FoAt w base g b d (.slice (some ⟨gr, 0, none⟩) nr cr) ve vt (.slice (some ⟨gv, 0, none⟩) nv cv) nr nv rot ends trips vis) : gr ≠ gv := by
  have := h.rv gr rfl
  rintro rfl
  exact this rfl
/-- A rotor is written. -/
theorem FoAt.setR (h : FoAt w base g b d (.slice (some ⟨gr, 0, none⟩) nr cr) ve vt vv nr nv rot ends trips vis) (i x : Nat) :
    FoAt (w.setCell ⟨gr, i, none⟩ (.int .i64 (x : Int))) base g b d (.slice (some ⟨gr, 0, none⟩) nr cr) ve vt vv nr nv (rot.set i x) ends trips vis where
  blk := blk_far h.blk (p := ⟨gr, i, none⟩) (fun e => h.gr_ne e.symm) _
  hg := h.hg
  r := row_set h.r i x
  e := row_far h.e (h.re gr rfl) _
  t := row_far h.t (h.rt gr rfl) _
  v := row_far h.v (h.rv gr rfl) _
  re := h.re
  rt := h.rt
  rv := h.rv
  et := h.et
  ev := h.ev
  tv := h.tv
/-- A number of visits is written. -/
theorem FoAt.setV (h : FoAt w base g b d vr ve vt (.slice (some ⟨gv, 0, none⟩) nv cv) nr nv rot ends trips vis) (i x : Nat) :
    FoAt (w.setCell ⟨gv, i, none⟩ (.int .i64 (x : Int))) base g b d vr ve vt (.slice (some ⟨gv, 0, none⟩) nv cv) nr nv rot ends trips (vis.set i x) where
  blk := blk_far h.blk (p := ⟨gv, i, none⟩) (fun e => h.gv_ne e.symm) _
  hg := h.hg
  r := row_far h.r (fun e => (ne_symm h.rv) gv rfl e) _
  e := row_far h.e (fun e => (ne_symm h.ev) gv rfl e) _
  t := row_far h.t (fun e => (ne_symm h.tv) gv rfl e) _
  v := row_set h.v i x
  re := h.re
  rt := h.rt
  rv := h.rv
  et := h.et
  ev := h.ev
  tv := h.tv

theorem FoAt.drew (h : FoAt w base g b d vr ve vt vv nr nv rot ends trips vis) : FoAt w.drew base g b d vr ve vt vv nr nv rot ends trips vis :=
  ⟨h.blk, h.hg, h.r, h.e, h.t, h.v, h.re, h.rt, h.rv, h.et, h.ev, h.tv⟩
/-- A number is appended to 'ends'. -/
theorem FoAt.appE {w1 : World} {v1 : Value} {n : Nat} (h : FoAt w base g b d vr ve vt vv nr nv rot ends trips vis)
    {y : Int} (hown : w1.ownsRow base 3 1 v1 ((ints ends).length + 1) (nums .i64 (ints ends ++ [y]))) (hg : w.grownBy w1 ve.ownBlock) (hat : v1.ownBlock = ve.ownBlock ∨ ∃ b, v1.ownBlock = some b ∧ w.heap.size ≤ b) (hy : y = (n : Int)) :
    w1.heap[g]? = some (.cells #[.int .i64 (b : Int), .int .i64 (d : Int), vr, ve, vt, vv] 67 (0, 0)) ∧
    FoAt (w1.setCell ⟨g, 3, none⟩ v1) base g b d vr v1 vt vv nr nv rot (ends ++ [n]) trips vis := by
  have hb := blk_grown h.blk hg (own_ne h.e h.blk (by decide))
  have e1 : ints ends ++ [(n : Int)] = ints (ends ++ [n]) := by simp [ints]
  have e2 : (ints ends).length + 1 = (ends ++ [n]).length := by simp [ints]
  subst hy
  rw [e1, e2] at hown
  have k1 := own_other h.r hg (ne_other (ne_symm h.re))
  have k2 := own_other h.t hg (ne_other h.et)
  have k3 := own_other h.v hg (ne_other h.ev)
  have q1 := own_ne k1 hb (by decide)
  have q2 := own_ne k2 hb (by decide)
  have q3 := own_ne k3 hb (by decide)
  have q4 := own_ne hown hb (by decide)
  refine ⟨hb, ?_, h.hg, row_far k1 (fun e => q1 e.symm) _, row_far hown (fun e => q4 e.symm) _, row_far k2 (fun e => q2 e.symm) _, row_far k3 (fun e => q3 e.symm) _, ne_append' h.re hat h.r, h.rt, h.rv, ne_append h.et hat h.t, ne_append h.ev hat h.v, h.tv⟩
  have := blk_set hb 3 v1
  simpa using this
/-- A number is appended to 'trips'. -/
theorem FoAt.appT {w1 : World} {v1 : Value} {n : Nat} (h : FoAt w base g b d vr ve vt vv nr nv rot ends trips vis)
    {y : Int} (hown : w1.ownsRow base 3 1 v1 ((ints trips).length + 1) (nums .i64 (ints trips ++ [y]))) (hg : w.grownBy w1 vt.ownBlock) (hat : v1.ownBlock = vt.ownBlock ∨ ∃ b, v1.ownBlock = some b ∧ w.heap.size ≤ b) (hy : y = (n : Int)) :
    w1.heap[g]? = some (.cells #[.int .i64 (b : Int), .int .i64 (d : Int), vr, ve, vt, vv] 67 (0, 0)) ∧
    FoAt (w1.setCell ⟨g, 4, none⟩ v1) base g b d vr ve v1 vv nr nv rot ends (trips ++ [n]) vis := by
  have hb := blk_grown h.blk hg (own_ne h.t h.blk (by decide))
  have e1 : ints trips ++ [(n : Int)] = ints (trips ++ [n]) := by simp [ints]
  have e2 : (ints trips).length + 1 = (trips ++ [n]).length := by simp [ints]
  subst hy
  rw [e1, e2] at hown
  have k1 := own_other h.r hg (ne_other (ne_symm h.rt))
  have k2 := own_other h.e hg (ne_other (ne_symm h.et))
  have k3 := own_other h.v hg (ne_other h.tv)
  have q1 := own_ne k1 hb (by decide)
  have q2 := own_ne k2 hb (by decide)
  have q3 := own_ne k3 hb (by decide)
  have q4 := own_ne hown hb (by decide)
  refine ⟨hb, ?_, h.hg, row_far k1 (fun e => q1 e.symm) _, row_far k2 (fun e => q2 e.symm) _, row_far hown (fun e => q4 e.symm) _, row_far k3 (fun e => q3 e.symm) _, h.re, ne_append' h.rt hat h.r, h.rv, ne_append' h.et hat h.e, h.ev, ne_append h.tv hat h.v⟩
  have := blk_set hb 4 v1
  simpa using this

theorem FoAt.heap_eq {w' : World} (h : FoAt w base g b d vr ve vt vv nr nv rot ends trips vis) (e : w'.heap = w.heap) : FoAt w' base g b d vr ve vt vv nr nv rot ends trips vis :=
  ⟨by rw [e]; exact h.blk, h.hg, own_move h.r (fun k _ => by rw [e]), own_move h.e (fun k _ => by rw [e]), own_move h.t (fun k _ => by rw [e]), own_move h.v (fun k _ => by rw [e]), h.re, h.rt, h.rv, h.et, h.ev, h.tv⟩


/-- The program's forest in the midst of its two appends: the struct still holds the elder rows. -/
structure FoMid (w : World) (base g b d : Nat) (vr ve vt vv : Value) (nr nv : Nat) (rot vis : List Nat) (ve1 vt1 : Value) (ends trips : List Nat) : Prop where
  blk : w.heap[g]? = some (.cells #[.int .i64 (b : Int), .int .i64 (d : Int), vr, ve, vt, vv] 67 (0, 0))
  hg : base ≤ g
  r : w.ownsRow base 3 1 vr nr (nums .i64 (ints rot))
  e : w.ownsRow base 3 1 ve1 ends.length (nums .i64 (ints ends))
  t : w.ownsRow base 3 1 vt1 trips.length (nums .i64 (ints trips))
  v : w.ownsRow base 3 1 vv nv (nums .i64 (ints vis))
  re : NeRow vr ve1
  rt : NeRow vr vt1
  rv : NeRow vr vv
  et : NeRow ve1 vt1
  ev : NeRow ve1 vv
  tv : NeRow vt1 vv
theorem FoMid.of (h : FoAt w base g b d vr ve vt vv nr nv rot ends trips vis) : FoMid w base g b d vr ve vt vv nr nv rot vis ve vt ends trips :=
  ⟨h.blk, h.hg, h.r, h.e, h.t, h.v, h.re, h.rt, h.rv, h.et, h.ev, h.tv⟩
theorem FoMid.alloc {ve1 vt1 : Value} (h : FoMid w base g b d vr ve vt vv nr nv rot vis ve1 vt1 ends trips) (o : Obj) : FoMid (w.alloc o) base g b d vr ve vt vv nr nv rot vis ve1 vt1 ends trips :=
  ⟨blk_alloc h.blk o, h.hg, h.r.alloc o, h.e.alloc o, h.t.alloc o, h.v.alloc o, h.re, h.rt, h.rv, h.et, h.ev, h.tv⟩
theorem FoMid.drew {ve1 vt1 : Value} (h : FoMid w base g b d vr ve vt vv nr nv rot vis ve1 vt1 ends trips) : FoMid w.drew base g b d vr ve vt vv nr nv rot vis ve1 vt1 ends trips :=
  ⟨h.blk, h.hg, h.r, h.e, h.t, h.v, h.re, h.rt, h.rv, h.et, h.ev, h.tv⟩
theorem hat_of {v v1 : Value} {H g1 n cap : Nat} (hv : v1 = .slice (some ⟨g1, 0, none⟩) n cap) (h : v.ownBlock = some g1 ∨ g1 = H) : v1.ownBlock = v.ownBlock ∨ ∃ b, v1.ownBlock = some b ∧ H ≤ b := by
  subst hv
  rcases h with h | h
  · exact .inl h.symm
  · exact .inr ⟨g1, rfl, by omega⟩
theorem FoMid.appE {ve1 vt1 v1 : Value} {w1 : World} {n : Nat} (h : FoMid w base g b d vr ve vt vv nr nv rot vis ve1 vt1 ends trips)
    (hown : w1.ownsRow base 3 1 v1 (ends.length + 1) (nums .i64 (ints ends) ++ [.int .i64 (n : Int)])) (hg : w.grownBy w1 ve1.ownBlock) (hat : v1.ownBlock = ve1.ownBlock ∨ ∃ b, v1.ownBlock = some b ∧ w.heap.size ≤ b) :
    FoMid w1 base g b d vr ve vt vv nr nv rot vis v1 vt1 (ends ++ [n]) trips := by
  have hb := blk_grown h.blk hg (own_ne h.e h.blk (by decide))
  have e1 : nums .i64 (ints ends) ++ [.int .i64 (n : Int)] = nums .i64 (ints (ends ++ [n])) := by simp [ints, nums]
  have e2 : ends.length + 1 = (ends ++ [n]).length := by simp
  rw [e1, e2] at hown
  exact ⟨hb, h.hg, own_other h.r hg (ne_other (ne_symm h.re)), hown, own_other h.t hg (ne_other h.et), own_other h.v hg (ne_other h.ev), ne_append' h.re hat h.r, h.rt, h.rv, ne_append h.et hat h.t, ne_append h.ev hat h.v, h.tv⟩
theorem FoMid.appT {ve1 vt1 v1 : Value} {w1 : World} {n : Nat} (h : FoMid w base g b d vr ve vt vv nr nv rot vis ve1 vt1 ends trips)
    (hown : w1.ownsRow base 3 1 v1 (trips.length + 1) (nums .i64 (ints trips) ++ [.int .i64 (n : Int)])) (hg : w.grownBy w1 vt1.ownBlock) (hat : v1.ownBlock = vt1.ownBlock ∨ ∃ b, v1.ownBlock = some b ∧ w.heap.size ≤ b) :
    FoMid w1 base g b d vr ve vt vv nr nv rot vis ve1 v1 ends (trips ++ [n]) := by
  have hb := blk_grown h.blk hg (own_ne h.t h.blk (by decide))
  have e1 : nums .i64 (ints trips) ++ [.int .i64 (n : Int)] = nums .i64 (ints (trips ++ [n])) := by simp [ints, nums]
  have e2 : trips.length + 1 = (trips ++ [n]).length := by simp
  rw [e1, e2] at hown
  exact ⟨hb, h.hg, own_other h.r hg (ne_other (ne_symm h.rt)), own_other h.e hg (ne_other (ne_symm h.et)), hown, own_other h.v hg (ne_other h.tv), h.re, ne_append' h.rt hat h.r, h.rv, ne_append' h.et hat h.e, h.ev, ne_append h.tv hat h.v⟩
theorem FoMid.done {ve1 vt1 : Value} (h : FoMid w base g b d vr ve vt vv nr nv rot vis ve1 vt1 ends trips) :
    FoAt ((w.setCell ⟨g, 3, none⟩ ve1).setCell ⟨g, 4, none⟩ vt1) base g b d vr ve1 vt1 vv nr nv rot ends trips vis := by
  have q1 := own_ne h.r h.blk (by decide)
  have q2 := own_ne h.e h.blk (by decide)
  have q3 := own_ne h.t h.blk (by decide)
  have q4 := own_ne h.v h.blk (by decide)
  refine ⟨?_, h.hg, row_far (row_far h.r (fun e => q1 e.symm) _) (fun e => q1 e.symm) _, row_far (row_far h.e (fun e => q2 e.symm) _) (fun e => q2 e.symm) _, row_far (row_far h.t (fun e => q3 e.symm) _) (fun e => q3 e.symm) _, row_far (row_far h.v (fun e => q4 e.symm) _) (fun e => q4 e.symm) _, h.re, h.rt, h.rv, h.et, h.ev, h.tv⟩
  have := blk_set (blk_set h.blk 3 ve1) 4 vt1
  simpa using this

/-- What lay in other blocks lies there still. -/
def Stays (w w1 : World) (row : Option Nat) : Prop := ∀ (ad : Addr) (u : Value), ad.block < w.heap.size → some ad.block ≠ row → w.cell? ad = some u → w1.cell? ad = some u
section
variable {P : Program} {ops : Array Oper} {o : Oper} {a : Act} {K : Act → World → Prop} {Q : Exit → Act → World → Prop} {E : Prop} {ve1 vt1 : Value}
theorem step_appE (hgd : o.guard = none) (s x : Operand) (ho : o.op = .call { callee := .builtin .append, args := #[s, x], argTypes := #[34, 34] }) (ht : P.underlying 34 = some (.slice 3)) (hinfo : (P.info? 3).map (fun i => (i.zero, i.size, i.bytes)) = some (some (.int .i64 0), 1, 8))
    (n B : Nat) (hs : a.eval s = ve1) (hx : a.eval x = .slice (some ⟨B, 0, none⟩) 1 1) (h : FoMid w base g b d vr ve vt vv nr nv rot vis ve1 vt1 ends trips) (hbase : base ≤ w.heap.size) (hl : ends.length ≤ 1000000)
    (hbox : w.cell? ⟨B, 0, none⟩ = some (.int .i64 (n : Int)))
    (k : ∀ g1 cap1 w1, FoMid w1 base g b d vr ve vt vv nr nv rot vis (.slice (some ⟨g1, 0, none⟩) (ends.length + 1) cap1) vt1 (ends ++ [n]) trips → w.heap.size ≤ w1.heap.size → Stays w w1 ve1.ownBlock → Below base w w1 → K (a.put o.dst (.slice (some ⟨g1, 0, none⟩) (ends.length + 1) cap1)) w1) :
    if Region.wanted o (yielded ops a.tmps) = true then Oper.wp P o a w K Q else E := by
  obtain ⟨i0, hi0, hz0, hz1, hz2⟩ := info_parts hinfo
  refine step_append_lies w hgd s x 34 ho base 3 i0 (.int .i64 0) 1 8 ht hi0 hz0 hz1 hz2 rfl (by omega) ve1 ends.length (nums .i64 (ints ends)) hs h.e ⟨B, 0, none⟩ 1 1 [.int .i64 (n : Int)] hx rfl ?_ (by intro u hu; simp at hu; subst hu; rfl) (by omega) (by unfold maxLen; omega) (by omega) hbase _ rfl ?_
  · intro j u hj
    match j, hj with
    | 0, hj => simp at hj; subst hj; simpa [Addr.add] using hbox
  · intro g1 cap1 w1 hown hg hat hlt
    exact k g1 cap1 w1 (h.appE hown hg (hat_of rfl hat)) hg.size (fun ad u h1 h2 h3 => (hg.cell_far ad h1 h2).trans h3) ((Below.refl base w).grown hg hbase (own_base h.e))
theorem step_appT (hgd : o.guard = none) (s x : Operand) (ho : o.op = .call { callee := .builtin .append, args := #[s, x], argTypes := #[34, 34] }) (ht : P.underlying 34 = some (.slice 3)) (hinfo : (P.info? 3).map (fun i => (i.zero, i.size, i.bytes)) = some (some (.int .i64 0), 1, 8))
    (n B : Nat) (hs : a.eval s = vt1) (hx : a.eval x = .slice (some ⟨B, 0, none⟩) 1 1) (h : FoMid w base g b d vr ve vt vv nr nv rot vis ve1 vt1 ends trips) (hbase : base ≤ w.heap.size) (hl : trips.length ≤ 1000000)
    (hbox : w.cell? ⟨B, 0, none⟩ = some (.int .i64 (n : Int)))
    (k : ∀ g1 cap1 w1, FoMid w1 base g b d vr ve vt vv nr nv rot vis ve1 (.slice (some ⟨g1, 0, none⟩) (trips.length + 1) cap1) ends (trips ++ [n]) → w.heap.size ≤ w1.heap.size → Stays w w1 vt1.ownBlock → Below base w w1 → K (a.put o.dst (.slice (some ⟨g1, 0, none⟩) (trips.length + 1) cap1)) w1) :
    if Region.wanted o (yielded ops a.tmps) = true then Oper.wp P o a w K Q else E := by
  obtain ⟨i0, hi0, hz0, hz1, hz2⟩ := info_parts hinfo
  refine step_append_lies w hgd s x 34 ho base 3 i0 (.int .i64 0) 1 8 ht hi0 hz0 hz1 hz2 rfl (by omega) vt1 trips.length (nums .i64 (ints trips)) hs h.t ⟨B, 0, none⟩ 1 1 [.int .i64 (n : Int)] hx rfl ?_ (by intro u hu; simp at hu; subst hu; rfl) (by omega) (by unfold maxLen; omega) (by omega) hbase _ rfl ?_
  · intro j u hj
    match j, hj with
    | 0, hj => simp at hj; subst hj; simpa [Addr.add] using hbox
  · intro g1 cap1 w1 hown hg hat hlt
    exact k g1 cap1 w1 (h.appT hown hg (hat_of rfl hat)) hg.size (fun ad u h1 h2 h3 => (hg.cell_far ad h1 h2).trans h3) ((Below.refl base w).grown hg hbase (own_base h.t))
end

def T16 : Bool × List (List Nat × List Nat) := (true, [([], []), ([], []), ([], []), ([2], [2]), ([3], [3]), ([4], [4]), ([], []), ([6], [6]), ([5, 7], [5, 7]), ([], []), ([9], [9]), ([10], [10]), ([11], [11]), ([], []), ([13], [13]), ([12, 14, 8], [12, 14]), ([0, 0, 2, 3, 4, 5, 6, 7, 8, 12, 15], [0]), ([16, 0, 2, 3, 4, 5, 6, 7, 8, 12, 15], [16]), ([17, 8, 15, 0, 2, 3, 4, 5, 6, 7, 8, 12, 15], [8, 17]), ([1, 0, 1, 2, 3, 4, 5, 6, 7, 8, 9, 10, 11, 12, 13, 14, 15, 16, 17, 18], [1]), ([19, 0, 1, 2, 3, 4, 5, 6, 7, 8, 9, 10, 11, 12, 13, 14, 15, 16, 17, 18], [19]), ([20, 15, 18, 0, 1, 2, 3, 4, 5, 6, 7, 8, 9, 10, 11, 12, 13, 14, 15, 16, 17, 18], [15, 20])])
def B16 : List Nat := [0, 0, 0, 4, 12, 28, 0, 64, 252, 0, 512, 1536, 3584, 0, 8192, 32764, 65533, 131069, 262141, 524287, 1048575, 2097151]
theorem lastS_ {P : Program} {md : Region.Mode} {ops : Array Oper} {Q : Exit → Act → World → Prop} {S : World → Prop} {ds : List Nat} {i : Nat} {oi : Oper} {fuel : Nat} {l : Array Bool} {a : Act} {w w1 : World} (l' : Array Bool) (hi : ops[i]? = some oi) (hN : oi.dst = none) (hc : readyB md ops l l' i = true) (hd : i ∈ ds)
    (hw : Region.wanted oi (yielded ops a.tmps) = true) (hrun : (execOp a.eval oi).run P w = .ok .skip w1) (h : wpAnyLast P md ops Q S ds fuel l' a w1) : wpAnyLast P md ops Q S ds (fuel + 1) l a w :=
  last_ l' hi hN hc hd fun _ hK => skip_ hw hN hrun (hK.out _ _ h)
theorem tab16 : rtab .any (opsOf Try.f86 16) = T16 := by kernel_rfl
theorem bits16 : waitsOk T16.2 B16 = true := by kernel_rfl
theorem cell_kept_alloc {w : World} {B : Nat} {u : Value} (h : w.cell? ⟨B, 0, none⟩ = some u) (o : Obj) : (w.alloc o).cell? ⟨B, 0, none⟩ = some u :=
  (World.cell?_alloc_lt _ _ _ (World.block_lt_of_cell? w _ h)).trans h

set_option maxHeartbeats 4000000 in
set_option maxRecDepth 100000 in
theorem fchip_calls (base g b d inner : Nat) (vr ve vt vv : Value) (nv : Nat) (rot ends trips vis : List Nat) (e : Bool) (s : Nat) (rot1 vis1 : List Nat) (w : World)
    (hb : b ≤ 3) (hb2 : 2 ≤ b) (hi : inner ≤ 130) (hi0 : 0 < inner) (hnv : nv ≤ 100) (hel : ends.length ≤ 100000) (htl : trips.length ≤ 100000)
    (hfi : impl_nodesOf.f 30 (b : Int) ((d : Int) - 1) = some (inner : Int)) (hd : d ≤ 100)
    (H : FoAt w base g b d vr ve vt vv inner nv rot ends trips vis) (hrun : Es.chip b inner rot vis = some (e, s, rot1, vis1)) :
    Calls Try.prog 86 #[.pointer (some ⟨g, 0, none⟩)] w fun e' w' => e' = .returned (.tuple #[]) ∧ Below base w w' ∧
      ∃ ve1 vt1, FoAt w' base g b d vr ve1 vt1 vv inner nv rot1 (ends ++ [Es.endN e]) (trips ++ [s]) vis1 := by
  have hrun' : 0 < vis.length ∧ nth vis 0 < 100000 ∧ Es.run b inner 5000 0 0 0 rot (vis.set 0 (nth vis 0 + 1)) = some (e, s, rot1, vis1) := by
    unfold Es.chip at hrun
    split at hrun
    · rename_i h; exact ⟨h.1, h.2, hrun⟩
    · cases hrun
  clear hrun
  obtain ⟨hv0', hv1, hrun⟩ := hrun'
  have R0 := Aside0.mk hrun
  clear hrun
  have F := Aside0.mk H
  have hv0 : 0 < nv := by rw [← row_len H.v]; exact hv0'
  clear H hv0'
  obtain ⟨gr, cr, rfl, hgr, hcr⟩ := F.out.r.form (by omega)
  obtain ⟨gv, cv, rfl, hgv, hcv⟩ := F.out.v.form (by omega)
  have HN : ∀ W, Calls Try.prog 57 #[.int .i64 (b : Int), .int .i64 ((d : Int) - 1)] W fun e w' => e = .returned (.int .i64 (inner : Int)) ∧ ∃ m, w' = W.drewN m := fun W =>
    (impl_nodesOf.calls 30 (b : Int) ((d : Int) - 1) (inner : Int) W hfi).mono fun e w' h => ⟨h.1, h.2.out⟩
  have HN := Aside0.mk HN
  clear hfi
  have c0 := blk_cell F.out.blk 0
  have c1 := blk_cell F.out.blk 1
  simp at c0 c1
  have hw1 : IntKind.i64.wrap ((d : Int) - 1) = (d : Int) - 1 := IntWalk.i64_in _ (by omega)
  go_enter Try.func86, Try.ntmps86
  go_wp2_with (fail)
  go_quiet ((go_at_call 57; exact Calls.quiet_of (HN.out _)))
  have F0 := Aside0.mk (F.out.heap_eq (w' := w.drewN nq) rfl)
  have B0 := Aside0.mk (pw_below_drewN (Below.refl base w) nq)
  generalize w.drewN nq = W at *
  clear F c0 c1 hw1 HN
  have c5 := blk_cell F0.out.blk 5
  have fz : ∀ i, W.frozen? ⟨g, i, none⟩ = false := blk_frozen F0.out.blk
  have cv0 := (row_at F0.out.v 0 (by omega)).1
  have fv0 := (row_at F0.out.v 0 (by omega)).2
  have n1 := F0.out.gr_ne
  have n2 := F0.out.gv_ne
  have n3 := F0.out.gr_gv
  simp at c5
  go_wp2_with (fail)
  clear c5 fz cv0 fv0
  have F1 := Aside0.mk (F0.out.setV 0 (nth vis 0 + 1))
  have BW := Aside0.mk (B0.out.setCell (p := ⟨gv, 0, none⟩) hgv (.int .i64 ((nth vis 0 : Int) + 1)))
  rw [show ((nth vis 0 + 1 : Nat) : Int) = (nth vis 0 : Int) + 1 from by omega] at F1
  go_loopg [2, 3, 4] 5000 (fun kq v2 v3 v4 wr => ∃ (at_ lv : Int) (st : Nat) (rot2 vis2 : List Nat), v2 = .int .i64 at_ ∧ v3 = .int .i64 lv ∧ v4 = .int .i64 (st : Int) ∧
    Aside0 ((∃ a l : Nat, at_ = (a : Int) ∧ lv = (l : Int) ∧ Es.run b inner kq a l st rot2 vis2 = some (e, s, rot1, vis1)) ∨ (at_ = -1 ∧ e = false ∧ s = st ∧ rot1 = rot2 ∧ vis1 = vis2)) ∧
    Aside0 (FoAt wr base g b d (.slice (some ⟨gr, 0, none⟩) inner cr) ve vt (.slice (some ⟨gv, 0, none⟩) nv cv) inner nv rot2 ends trips vis2) ∧ Aside0 (Below base w wr))
  case atStart => exact ⟨0, 0, 0, rot, _, rfl, rfl, rfl, ⟨.inl ⟨0, 0, rfl, rfl, R0.out⟩⟩, F1, BW⟩
  case round =>
    clear F0 F1 BW R0 B0
    obtain ⟨at_, lv, st, rot2, vis2, rfl, rfl, rfl, HR, HF, HB⟩ := hrel
    rcases HR.out with ⟨a, l, rfl, rfl, hr⟩ | ⟨rfl, he, hs, h1, h2⟩
    · clear HR
      have c0 := blk_cell HF.out.blk 0
      have c2 := blk_cell HF.out.blk 2
      have c5 := blk_cell HF.out.blk 5
      simp at c0 c2 c5
      cases gk with
      | zero => exact absurd hr (by simp [Es.run])
      | succ k =>
      simp only [Es.run] at hr
      by_cases h1 : a < inner
      · rw [if_pos h1] at hr
        by_cases h2 : st < 100000 ∧ nth rot2 a ≤ b
        · rw [if_pos h2] at hr
          obtain ⟨h2, h3⟩ := h2
          have ca := (row_at HF.out.r a h1).1
          have fa := (row_at HF.out.r a h1).2
          have hA := Aside0.mk hr
          clear hr
          go_wp2_with (fail)
          go_region
          obtain ⟨r, er, er', hrb⟩ := rot_step (nth rot2 a) b
          rw [er'] at hA
          simp only [er]
          clear er er'
          have ER := Aside0.mk (HF.out.setR a r).drew
          have BR := Aside0.mk ((HB.out.setCell (p := ⟨gr, a, none⟩) hgr (.int .i64 (r : Int))).drew)
          have hab := mul_small (a := a) (b := b) (by omega) hb
          by_cases h4 : 0 < r
          · have hr := hA.out
            rw [if_pos h4] at hr
            by_cases h5 : l + 1 < vis2.length ∧ nth vis2 (l + 1) < 100000
            · rw [if_pos h5] at hr
              have hA2 := Aside0.mk hr
              rw [row_len HF.out.v] at h5
              have cl := (row_at HF.out.v (l + 1) h5.1).1
              have fl := (row_at HF.out.v (l + 1) h5.1).2
              obtain ⟨h6, h7⟩ := h5
              clear hr hA
              go_wp2_with (fail)
              go_roundg k
              case measure => omega
              case rel => exact ⟨_, _, st + 1, _, _, rfl, rfl, by go_num, ⟨.inl ⟨_, _, (by push_cast; rfl), (by push_cast; rfl), hA2.out⟩⟩, ⟨by have := ER.out.setV (l + 1) (nth vis2 (l + 1) + 1); exact this⟩, ⟨by have := BR.out.setCell (p := ⟨gv, l + 1, none⟩) hgv (.int .i64 ((nth vis2 (l + 1) + 1 : Nat) : Int)); exact this⟩⟩
            · rw [if_neg h5] at hr; cases hr
          · have hr := hA.out
            rw [if_neg h4] at hr
            by_cases h8 : a = 0
            · rw [if_pos h8] at hr
              subst h8
              by_cases h9 : l = 0
              · rw [if_pos h9] at hr
                subst h9
                have hA2 := Aside0.mk hr
                clear hr hA
                go_wp2_with (fail)
                go_roundg k
                case measure => omega
                case rel => exact ⟨-1, _, st + 1, _, _, rfl, rfl, by go_num, ⟨.inr ⟨rfl, by have := hA2.out; simp at this; simp [this]⟩⟩, ⟨ER.out⟩, BR⟩
              · rw [if_neg h9] at hr; cases hr
            · rw [if_neg h8] at hr
              by_cases h10 : 0 < l ∧ l - 1 < vis2.length ∧ nth vis2 (l - 1) < 100000
              · rw [if_pos h10] at hr
                have hA2 := Aside0.mk hr
                rw [row_len HF.out.v] at h10
                have cl := (row_at HF.out.v (l - 1) h10.2.1).1
                have fl := (row_at HF.out.v (l - 1) h10.2.1).2
                obtain ⟨h5, h6, h7⟩ := h10
                have hd : (((a - 1) / b : Nat) : Int) = ((a : Int) - 1) / (b : Int) := by rw [Int.natCast_ediv, Int.natCast_sub (by omega)]; rfl
                have hl1 : ((l - 1 : Nat) : Int) = (l : Int) - 1 := by omega
                have hq0 : 0 ≤ ((a : Int) - 1) / (b : Int) := by rw [← hd]; exact Int.natCast_nonneg _
                have hq1 : ((((a : Int) - 1) / (b : Int)) == -1) = false := by rw [beq_eq_false_iff_ne]; omega
                have hq2 : ((((a : Int) - 1) / (b : Int)) != -1) = true := by rw [bne_iff_ne]; omega
                have HD := Aside0.mk hd
                have HL1 := Aside0.mk hl1
                clear hr hA hd hl1
                go_wp2_with (fail)
                go_roundg k
                case measure => omega
                case rel => exact ⟨_, _, st + 1, _, _, rfl, rfl, by go_num, ⟨.inl ⟨_, _, HD.out.symm, HL1.out.symm, hA2.out⟩⟩, ⟨by have := ER.out.setV (l - 1) (nth vis2 (l - 1) + 1); exact this⟩, ⟨by have := BR.out.setCell (p := ⟨gv, l - 1, none⟩) hgv (.int .i64 ((nth vis2 (l - 1) + 1 : Nat) : Int)); exact this⟩⟩
              · rw [if_neg h10] at hr; cases hr
        · rw [if_neg h2] at hr; cases hr
      · rw [if_neg h1] at hr
        obtain ⟨rfl, rfl, rfl, rfl⟩ : true = e ∧ st = s ∧ rot2 = rot1 ∧ vis2 = vis1 := by simpa using hr
        clear hr
        have FINE := Aside0.mk (rfl : Es.endN true = 1)
        have MM := Aside0.mk (FoMid.of HF.out).drew
        have HH := Aside0.mk (below_drew HB.out)
        have c3 := (blk_cell MM.out.blk 3).trans rfl
        have c4 := (blk_cell MM.out.blk 4).trans rfl
        have HHs : base ≤ wr.drew.heap.size := (by have := HB.out.size; have := HF.out.hg; have := blk_lt HF.out.blk; show base ≤ wr.heap.size; omega)
        have HWs : wr.heap.size ≤ wr.drew.heap.size := Nat.le_refl _
        have LE : ∀ k, ve.ownBlock = some k → k < wr.heap.size := own_lt HF.out.e
        have LT : ∀ k, vt.ownBlock = some k → k < wr.heap.size := own_lt HF.out.t
        clear c0 c2 c5 HF HB
        go_upto_region 16 with (fail)
        refine start_ (n := 22) (S := fun w' => w'.cell? ⟨g, 3, none⟩ = some ve ∧ w'.cell? ⟨g, 4, none⟩ = some vt) (ds := [18, 21]) #[false, false, false, false, false, false, false, false, false, false, false, false, false, false, false, false, false, false, false, false, false, false] (by kernel_rfl) rfl rfl ⟨c3, c4⟩ (fun hHeld => ?_)
        refine with_tabW tab16 bits16 (fun HT_ HW_ => ?_)
        clear c3 c4
        generalize wr.drew = W9 at MM HH HHs HWs hHeld ⊢
        refine pure_ (i := 0) (N := some 100) (v := ?_) (a' := ?_) #[true, false, false, false, false, false, false, false, false, false, false, false, false, false, false, false, false, false, false, false, false, false] rfl rfl (any_of HT_.out (by kernel_rfl)) (fun _ _ _ h => h) (Or.inl ⟨by rfl, ?_⟩) ?_ ?_
        rotate_left
        · intro w'
          go_simp
          with_reducible rfl
        rotate_left
        · simp only [Act.put, List.setIfInBounds_toArray, List.set_cons_zero, List.set_cons_succ, i64_w, i32_w]
          rfl
        refine pure_ (i := 1) (N := some 101) (v := ?_) (a' := ?_) #[true, true, false, false, false, false, false, false, false, false, false, false, false, false, false, false, false, false, false, false, false, false] rfl rfl (any_of HT_.out (by kernel_rfl)) (fun _ _ _ h => h) (Or.inl ⟨by rfl, ?_⟩) ?_ ?_
        rotate_left
        · intro w'
          go_simp
          with_reducible rfl
        rotate_left
        · simp only [Act.put, List.setIfInBounds_toArray, List.set_cons_zero, List.set_cons_succ, i64_w, i32_w]
          rfl
        refine pure_ (i := 2) (N := some 102) (v := ?_) (a' := ?_) #[true, true, true, false, false, false, false, false, false, false, false, false, false, false, false, false, false, false, false, false, false, false] rfl rfl (any_of HT_.out (by kernel_rfl)) (fun _ _ _ h => h) (Or.inl ⟨by rfl, ?_⟩) ?_ ?_
        rotate_left
        · intro w'
          go_simp
          with_reducible rfl
        rotate_left
        · simp only [Act.put, List.setIfInBounds_toArray, List.set_cons_zero, List.set_cons_succ, i64_w, i32_w]
          rfl
        refine pure_ (i := 3) (N := some 103) (v := ?_) (a' := ?_) #[true, true, true, true, false, false, false, false, false, false, false, false, false, false, false, false, false, false, false, false, false, false] rfl rfl (any_of HT_.out (by kernel_rfl)) (fun _ _ _ h => h) (Or.inl ⟨by rfl, ?_⟩) ?_ ?_
        rotate_left
        · intro w'
          go_simp
          with_reducible rfl
        rotate_left
        · simp only [Act.put, List.setIfInBounds_toArray, List.set_cons_zero, List.set_cons_succ, i64_w, i32_w]
          rfl
        refine pure_ (i := 4) (N := some 104) (v := ?_) (a' := ?_) #[true, true, true, true, true, false, false, false, false, false, false, false, false, false, false, false, false, false, false, false, false, false] rfl rfl (any_of HT_.out (by kernel_rfl)) (fun _ _ _ h => h) (Or.inl ⟨by rfl, ?_⟩) ?_ ?_
        rotate_left
        · intro w'
          go_simp
          with_reducible rfl
        rotate_left
        · simp only [Act.put, List.setIfInBounds_toArray, List.set_cons_zero, List.set_cons_succ, i64_w, i32_w]
          rfl
        refine take_ (i := 5) (N := some 105) (v := ?_) (a' := ?_) #[true, true, true, true, true, true, false, false, false, false, false, false, false, false, false, false, false, false, false, false, false, false] rfl rfl (take_ofW HT_.out HW_.out (by kernel_rfl)) (fun _ _ _ h => h) (Or.inl ⟨by rfl, ?_⟩) hHeld ?_ ?_
        rotate_left
        · intro w' hSw
          obtain ⟨hS3, hS4⟩ := hSw
          go_simp
          with_reducible rfl
        rotate_left
        · simp only [Act.put, List.setIfInBounds_toArray, List.set_cons_zero, List.set_cons_succ, i64_w, i32_w]
          rfl
        refine pure_ (i := 6) (N := some 106) (v := ?_) (a' := ?_) #[true, true, true, true, true, true, true, false, false, false, false, false, false, false, false, false, false, false, false, false, false, false] rfl rfl (any_of HT_.out (by kernel_rfl)) (fun _ _ _ h => h) (Or.inl ⟨by rfl, ?_⟩) ?_ ?_
        rotate_left
        · intro w'
          go_simp
          with_reducible rfl
        rotate_left
        · simp only [Act.put, List.setIfInBounds_toArray, List.set_cons_zero, List.set_cons_succ, i64_w, i32_w]
          rfl
        refine pure_ (i := 9) (N := some 109) (v := ?_) (a' := ?_) #[true, true, true, true, true, true, true, false, false, true, false, false, false, false, false, false, false, false, false, false, false, false] rfl rfl (any_of HT_.out (by kernel_rfl)) (fun _ _ _ h => h) (Or.inl ⟨by rfl, ?_⟩) ?_ ?_
        rotate_left
        · intro w'
          go_simp
          with_reducible rfl
        rotate_left
        · simp only [Act.put, List.setIfInBounds_toArray, List.set_cons_zero, List.set_cons_succ, i64_w, i32_w]
          rfl
        refine pure_ (i := 10) (N := some 110) (v := ?_) (a' := ?_) #[true, true, true, true, true, true, true, false, false, true, true, false, false, false, false, false, false, false, false, false, false, false] rfl rfl (any_of HT_.out (by kernel_rfl)) (fun _ _ _ h => h) (Or.inl ⟨by rfl, ?_⟩) ?_ ?_
        rotate_left
        · intro w'
          go_simp
          with_reducible rfl
        rotate_left
        · simp only [Act.put, List.setIfInBounds_toArray, List.set_cons_zero, List.set_cons_succ, i64_w, i32_w]
          rfl
        refine pure_ (i := 11) (N := some 111) (v := ?_) (a' := ?_) #[true, true, true, true, true, true, true, false, false, true, true, true, false, false, false, false, false, false, false, false, false, false] rfl rfl (any_of HT_.out (by kernel_rfl)) (fun _ _ _ h => h) (Or.inl ⟨by rfl, ?_⟩) ?_ ?_
        rotate_left
        · intro w'
          go_simp
          with_reducible rfl
        rotate_left
        · simp only [Act.put, List.setIfInBounds_toArray, List.set_cons_zero, List.set_cons_succ, i64_w, i32_w]
          rfl
        refine take_ (i := 12) (N := some 112) (v := ?_) (a' := ?_) #[true, true, true, true, true, true, true, false, false, true, true, true, true, false, false, false, false, false, false, false, false, false] rfl rfl (take_ofW HT_.out HW_.out (by kernel_rfl)) (fun _ _ _ h => h) (Or.inl ⟨by rfl, ?_⟩) hHeld ?_ ?_
        rotate_left
        · intro w' hSw
          obtain ⟨hS3, hS4⟩ := hSw
          go_simp
          with_reducible rfl
        rotate_left
        · simp only [Act.put, List.setIfInBounds_toArray, List.set_cons_zero, List.set_cons_succ, i64_w, i32_w]
          rfl
        refine pure_ (i := 13) (N := some 113) (v := ?_) (a' := ?_) #[true, true, true, true, true, true, true, false, false, true, true, true, true, true, false, false, false, false, false, false, false, false] rfl rfl (any_of HT_.out (by kernel_rfl)) (fun _ _ _ h => h) (Or.inl ⟨by rfl, ?_⟩) ?_ ?_
        rotate_left
        · intro w'
          go_simp
          with_reducible rfl
        rotate_left
        · simp only [Act.put, List.setIfInBounds_toArray, List.set_cons_zero, List.set_cons_succ, i64_w, i32_w]
          rfl
        refine two_ (i := 7) (j := 14) (Ni := some 107) (Nj := some 114) #[true, true, true, true, true, true, true, true, false, true, true, true, true, true, false, false, false, false, false, false, false, false] #[true, true, true, true, true, true, true, false, false, true, true, true, true, true, true, false, false, false, false, false, false, false] rfl rfl rfl rfl (two_of HT_.out (by kernel_rfl)) (by decide) (by decide) (fun K hK => ?_) (fun K hK => ?_)
        · skip
          refine value_ (v := .slice (some ⟨W9.heap.size, 0, none⟩) 1 1) (w1 := W9.alloc (.cells #[.int .i64 ((1 : Nat) : Int)] 3)) (by rfl) rfl (by go_simp) ?_
          have b1 : (W9.alloc (.cells #[.int .i64 ((1 : Nat) : Int)] 3)).cell? ⟨W9.heap.size, 0, none⟩ = some (.int .i64 ((1 : Nat) : Int)) := (blk_cell (blk_new _ _) 0).trans rfl
          have b2 : W9.heap.size < (W9.alloc (.cells #[.int .i64 ((1 : Nat) : Int)] 3)).heap.size := by simp
          have b3 : ∀ k, ve.ownBlock = some k → k < wr.heap.size := LE
          have m1 := Aside0.mk (MM.out.alloc (.cells #[.int .i64 ((1 : Nat) : Int)] 3))
          have h1 := Aside0.mk (HH.out.alloc HHs (.cells #[.int .i64 ((1 : Nat) : Int)] 3))
          have s1 : base ≤ (W9.alloc (.cells #[.int .i64 ((1 : Nat) : Int)] 3)).heap.size ∧ wr.heap.size ≤ (W9.alloc (.cells #[.int .i64 ((1 : Nat) : Int)] 3)).heap.size := by simp; omega
          have g1 : wr.heap.size ≤ W9.heap.size := HWs
          clear MM HH HHs HWs hHeld
          generalize W9.alloc (.cells #[.int .i64 ((1 : Nat) : Int)] 3) = X1 at *
          generalize W9.heap.size = BE at *
          have MM := m1
          have HH := h1
          have HHs := s1.1
          have HWs := s1.2
          have boxE := b1
          have ltbE := b2
          have gebE := g1
          clear b1 b2 b3 m1 h1 s1 g1
          refine hK.out _ _ ⟨(blk_cell MM.out.blk 3).trans rfl, (blk_cell MM.out.blk 4).trans rfl⟩ (fun hHeld => ?_)
          clear hK K
          (try simp only [Act.put, List.setIfInBounds_toArray, List.set_cons_zero, List.set_cons_succ])
          refine two_ (i := 8) (j := 14) (Ni := some 108) (Nj := some 114) #[true, true, true, true, true, true, true, true, true, true, true, true, true, true, false, false, false, false, false, false, false, false] #[true, true, true, true, true, true, true, true, false, true, true, true, true, true, true, false, false, false, false, false, false, false] rfl rfl rfl rfl (two_of HT_.out (by kernel_rfl)) (by decide) (by decide) (fun K hK => ?_) (fun K hK => ?_)
          · skip
            refine step_appE rfl (.tmp 105) (.tmp 107) rfl Try.underlying34 info3 _ BE rfl rfl MM.out HHs (by omega) boxE ?_
            intro gE capE X2 m1 s1 st1 h1
            have m1 := Aside0.mk m1
            have h1 := Aside0.mk (HH.out.trans h1)
            have s2 : base ≤ X2.heap.size ∧ wr.heap.size ≤ X2.heap.size := by omega
            clear MM HH HHs HWs hHeld st1 s1 boxE ltbE
            have MM := m1
            have HH := h1
            have HHs := s2.1
            have HWs := s2.2
            clear m1 h1 s2
            refine hK.out _ _ ⟨(blk_cell MM.out.blk 3).trans rfl, (blk_cell MM.out.blk 4).trans rfl⟩ (fun hHeld => ?_)
            clear hK K
            (try simp only [Act.put, List.setIfInBounds_toArray, List.set_cons_zero, List.set_cons_succ])
            refine one_ (i := 14) (N := some 114) #[true, true, true, true, true, true, true, true, true, true, true, true, true, true, true, false, false, false, false, false, false, false] rfl rfl (one_of HT_.out (by kernel_rfl)) (by decide) (fun K hK => ?_)
            refine value_ (v := .slice (some ⟨X2.heap.size, 0, none⟩) 1 1) (w1 := X2.alloc (.cells #[.int .i64 (st : Int)] 3)) (by rfl) rfl (by go_simp) ?_
            have b1 : (X2.alloc (.cells #[.int .i64 (st : Int)] 3)).cell? ⟨X2.heap.size, 0, none⟩ = some (.int .i64 (st : Int)) := (blk_cell (blk_new _ _) 0).trans rfl
            have b2 : X2.heap.size < (X2.alloc (.cells #[.int .i64 (st : Int)] 3)).heap.size := by simp
            have b3 : ∀ k, ve.ownBlock = some k → k < wr.heap.size := LE
            have m1 := Aside0.mk (MM.out.alloc (.cells #[.int .i64 (st : Int)] 3))
            have h1 := Aside0.mk (HH.out.alloc HHs (.cells #[.int .i64 (st : Int)] 3))
            have s1 : base ≤ (X2.alloc (.cells #[.int .i64 (st : Int)] 3)).heap.size ∧ wr.heap.size ≤ (X2.alloc (.cells #[.int .i64 (st : Int)] 3)).heap.size := by simp; omega
            have g1 : wr.heap.size ≤ X2.heap.size := HWs
            clear MM HH HHs HWs hHeld
            generalize X2.alloc (.cells #[.int .i64 (st : Int)] 3) = X3 at *
            generalize X2.heap.size = BT at *
            have MM := m1
            have HH := h1
            have HHs := s1.1
            have HWs := s1.2
            have boxT := b1
            have ltbT := b2
            have gebT := g1
            clear b1 b2 b3 m1 h1 s1 g1
            refine hK.out _ _ ⟨(blk_cell MM.out.blk 3).trans rfl, (blk_cell MM.out.blk 4).trans rfl⟩ (fun hHeld => ?_)
            clear hK K
            (try simp only [Act.put, List.setIfInBounds_toArray, List.set_cons_zero, List.set_cons_succ])
            refine one_ (i := 15) (N := some 115) #[true, true, true, true, true, true, true, true, true, true, true, true, true, true, true, true, false, false, false, false, false, false] rfl rfl (one_of HT_.out (by kernel_rfl)) (by decide) (fun K hK => ?_)
            refine step_appT rfl (.tmp 112) (.tmp 114) rfl Try.underlying34 info3 _ BT rfl rfl MM.out HHs (by omega) boxT ?_
            intro gT capT X4 m1 s1 st1 h1
            have m1 := Aside0.mk m1
            have h1 := Aside0.mk (HH.out.trans h1)
            have s2 : base ≤ X4.heap.size ∧ wr.heap.size ≤ X4.heap.size := by omega
            clear MM HH HHs HWs hHeld st1 s1 boxT ltbT
            have MM := m1
            have HH := h1
            have HHs := s2.1
            have HWs := s2.2
            clear m1 h1 s2
            refine hK.out _ _ ⟨(blk_cell MM.out.blk 3).trans rfl, (blk_cell MM.out.blk 4).trans rfl⟩ (fun hHeld => ?_)
            clear hK K
            (try simp only [Act.put, List.setIfInBounds_toArray, List.set_cons_zero, List.set_cons_succ])
            refine pure_ (i := 16) (N := some 116) (v := ?_) (a' := ?_) #[true, true, true, true, true, true, true, true, true, true, true, true, true, true, true, true, true, false, false, false, false, false] rfl rfl (any_of HT_.out (by kernel_rfl)) (fun _ _ _ h => h) (Or.inl ⟨by rfl, ?_⟩) ?_ ?_
            rotate_left
            · intro w'
              go_simp
              with_reducible rfl
            rotate_left
            · simp only [Act.put, List.setIfInBounds_toArray, List.set_cons_zero, List.set_cons_succ, i64_w, i32_w]
              rfl
            refine pure_ (i := 17) (N := some 117) (v := ?_) (a' := ?_) #[true, true, true, true, true, true, true, true, true, true, true, true, true, true, true, true, true, true, false, false, false, false] rfl rfl (any_of HT_.out (by kernel_rfl)) (fun _ _ _ h => h) (Or.inl ⟨by rfl, ?_⟩) ?_ ?_
            rotate_left
            · intro w'
              go_simp
              with_reducible rfl
            rotate_left
            · simp only [Act.put, List.setIfInBounds_toArray, List.set_cons_zero, List.set_cons_succ, i64_w, i32_w]
              rfl
            have z3 := (blk_cell MM.out.blk 3).trans rfl
            have y3 := blk_frozen MM.out.blk 3
            have z4 := (blk_cell (blk_set MM.out.blk 3 (.slice (some ⟨gE, 0, none⟩) (ends.length + 1) capE)) 4).trans rfl
            have y4 := blk_frozen (blk_set MM.out.blk 3 (.slice (some ⟨gE, 0, none⟩) (ends.length + 1) capE)) 4
            have hFin := Aside0.mk MM.out.done
            have hBel := Aside0.mk ((HH.out.setCell (p := ⟨g, 3, none⟩) MM.out.hg (.slice (some ⟨gE, 0, none⟩) (ends.length + 1) capE)).setCell (p := ⟨g, 4, none⟩) MM.out.hg (.slice (some ⟨gT, 0, none⟩) (trips.length + 1) capT))
            refine lastS_ (i := 18) (w1 := X4.setCell ⟨g, 3, none⟩ (.slice (some ⟨gE, 0, none⟩) (ends.length + 1) capE)) #[true, true, true, true, true, true, true, true, true, true, true, true, true, true, true, true, true, true, true, false, false, false] rfl rfl (one_of HT_.out (by kernel_rfl)) (by decide) (by rfl) ?_ ?_
            · clear hFin hBel HH MM z4 y4
              go_simp
            clear z3 y3 MM HH
            (try simp only [Act.put, List.setIfInBounds_toArray, List.set_cons_zero, List.set_cons_succ])
            generalize X4.setCell ⟨g, 3, none⟩ (.slice (some ⟨gE, 0, none⟩) (ends.length + 1) capE) = Y at *
            refine pure_ (i := 19) (N := some 118) (v := ?_) (a' := ?_) #[true, true, true, true, true, true, true, true, true, true, true, true, true, true, true, true, true, true, true, true, false, false] rfl rfl (any_of HT_.out (by kernel_rfl)) (fun _ _ _ h => h) (Or.inl ⟨by rfl, ?_⟩) ?_ ?_
            rotate_left
            · intro w'
              go_simp
              with_reducible rfl
            rotate_left
            · simp only [Act.put, List.setIfInBounds_toArray, List.set_cons_zero, List.set_cons_succ, i64_w, i32_w]
              rfl
            refine pure_ (i := 20) (N := some 119) (v := ?_) (a' := ?_) #[true, true, true, true, true, true, true, true, true, true, true, true, true, true, true, true, true, true, true, true, true, false] rfl rfl (any_of HT_.out (by kernel_rfl)) (fun _ _ _ h => h) (Or.inl ⟨by rfl, ?_⟩) ?_ ?_
            rotate_left
            · intro w'
              go_simp
              with_reducible rfl
            rotate_left
            · simp only [Act.put, List.setIfInBounds_toArray, List.set_cons_zero, List.set_cons_succ, i64_w, i32_w]
              rfl
            refine lastS_ (i := 21) (w1 := Y.setCell ⟨g, 4, none⟩ (.slice (some ⟨gT, 0, none⟩) (trips.length + 1) capT)) #[true, true, true, true, true, true, true, true, true, true, true, true, true, true, true, true, true, true, true, true, true, true] rfl rfl (one_of HT_.out (by kernel_rfl)) (by decide) (by rfl) ?_ ?_
            · clear hFin hBel
              go_simp
            clear z4 y4
            (try simp only [Act.put, List.setIfInBounds_toArray, List.set_cons_zero, List.set_cons_succ])
            refine done_ (done_of HT_.out (by kernel_rfl)) ?_
            try go_wp2_with (fail)
            go_end0
            exact ⟨rfl, hBel.out, _, _, by first | exact hFin.out | (rw [show Es.endN true = 1 from rfl]; exact hFin.out) | (rw [show Es.endN false = 0 from rfl]; exact hFin.out) | (rw [he]; rw [show Es.endN false = 0 from rfl]; exact hFin.out)⟩
          · skip
            refine value_ (v := .slice (some ⟨X1.heap.size, 0, none⟩) 1 1) (w1 := X1.alloc (.cells #[.int .i64 (st : Int)] 3)) (by rfl) rfl (by go_simp) ?_
            have b1 : (X1.alloc (.cells #[.int .i64 (st : Int)] 3)).cell? ⟨X1.heap.size, 0, none⟩ = some (.int .i64 (st : Int)) := (blk_cell (blk_new _ _) 0).trans rfl
            have b2 : X1.heap.size < (X1.alloc (.cells #[.int .i64 (st : Int)] 3)).heap.size := by simp
            have b3 : ∀ k, ve.ownBlock = some k → k < wr.heap.size := LE
            have b1E' := cell_kept_alloc boxE (.cells #[.int .i64 (st : Int)] 3)
            have b2E' : BE < (X1.alloc (.cells #[.int .i64 (st : Int)] 3)).heap.size := by simp; omega
            have m1 := Aside0.mk (MM.out.alloc (.cells #[.int .i64 (st : Int)] 3))
            have h1 := Aside0.mk (HH.out.alloc HHs (.cells #[.int .i64 (st : Int)] 3))
            have s1 : base ≤ (X1.alloc (.cells #[.int .i64 (st : Int)] 3)).heap.size ∧ wr.heap.size ≤ (X1.alloc (.cells #[.int .i64 (st : Int)] 3)).heap.size := by simp; omega
            have g1 : wr.heap.size ≤ X1.heap.size := HWs
            clear MM HH HHs HWs hHeld boxE ltbE
            generalize X1.alloc (.cells #[.int .i64 (st : Int)] 3) = X5 at *
            generalize X1.heap.size = BT at *
            have MM := m1
            have HH := h1
            have HHs := s1.1
            have HWs := s1.2
            have boxT := b1
            have ltbT := b2
            have gebT := g1
            have boxE := b1E'
            have ltbE := b2E'
            clear b1 b2 b3 m1 h1 s1 g1 b1E' b2E'
            refine hK.out _ _ ⟨(blk_cell MM.out.blk 3).trans rfl, (blk_cell MM.out.blk 4).trans rfl⟩ (fun hHeld => ?_)
            clear hK K
            (try simp only [Act.put, List.setIfInBounds_toArray, List.set_cons_zero, List.set_cons_succ])
            refine one_ (i := 8) (N := some 108) #[true, true, true, true, true, true, true, true, true, true, true, true, true, true, true, false, false, false, false, false, false, false] rfl rfl (one_of HT_.out (by kernel_rfl)) (by decide) (fun K hK => ?_)
            refine step_appE rfl (.tmp 105) (.tmp 107) rfl Try.underlying34 info3 _ BE rfl rfl MM.out HHs (by omega) boxE ?_
            intro gE capE X6 m1 s1 st1 h1
            have b1 := st1 ⟨BT, 0, none⟩ _ ltbT (fun e => by have hq_ : BT < wr.heap.size := LE _ e.symm; omega) boxT
            have b2 : BT < X6.heap.size := by omega
            have m1 := Aside0.mk m1
            have h1 := Aside0.mk (HH.out.trans h1)
            have s2 : base ≤ X6.heap.size ∧ wr.heap.size ≤ X6.heap.size := by omega
            clear MM HH HHs HWs hHeld st1 s1 boxE ltbE boxT ltbT
            have MM := m1
            have HH := h1
            have HHs := s2.1
            have HWs := s2.2
            have boxT := b1
            have ltbT := b2
            clear b1 b2
            clear m1 h1 s2
            refine hK.out _ _ ⟨(blk_cell MM.out.blk 3).trans rfl, (blk_cell MM.out.blk 4).trans rfl⟩ (fun hHeld => ?_)
            clear hK K
            (try simp only [Act.put, List.setIfInBounds_toArray, List.set_cons_zero, List.set_cons_succ])
            refine one_ (i := 15) (N := some 115) #[true, true, true, true, true, true, true, true, true, true, true, true, true, true, true, true, false, false, false, false, false, false] rfl rfl (one_of HT_.out (by kernel_rfl)) (by decide) (fun K hK => ?_)
            refine step_appT rfl (.tmp 112) (.tmp 114) rfl Try.underlying34 info3 _ BT rfl rfl MM.out HHs (by omega) boxT ?_
            intro gT capT X7 m1 s1 st1 h1
            have m1 := Aside0.mk m1
            have h1 := Aside0.mk (HH.out.trans h1)
            have s2 : base ≤ X7.heap.size ∧ wr.heap.size ≤ X7.heap.size := by omega
            clear MM HH HHs HWs hHeld st1 s1 boxT ltbT
            have MM := m1
            have HH := h1
            have HHs := s2.1
            have HWs := s2.2
            clear m1 h1 s2
            refine hK.out _ _ ⟨(blk_cell MM.out.blk 3).trans rfl, (blk_cell MM.out.blk 4).trans rfl⟩ (fun hHeld => ?_)
            clear hK K
            (try simp only [Act.put, List.setIfInBounds_toArray, List.set_cons_zero, List.set_cons_succ])
            refine pure_ (i := 16) (N := some 116) (v := ?_) (a' := ?_) #[true, true, true, true, true, true, true, true, true, true, true, true, true, true, true, true, true, false, false, false, false, false] rfl rfl (any_of HT_.out (by kernel_rfl)) (fun _ _ _ h => h) (Or.inl ⟨by rfl, ?_⟩) ?_ ?_
            rotate_left
            · intro w'
              go_simp
              with_reducible rfl
            rotate_left
            · simp only [Act.put, List.setIfInBounds_toArray, List.set_cons_zero, List.set_cons_succ, i64_w, i32_w]
              rfl
            refine pure_ (i := 17) (N := some 117) (v := ?_) (a' := ?_) #[true, true, true, true, true, true, true, true, true, true, true, true, true, true, true, true, true, true, false, false, false, false] rfl rfl (any_of HT_.out (by kernel_rfl)) (fun _ _ _ h => h) (Or.inl ⟨by rfl, ?_⟩) ?_ ?_
            rotate_left
            · intro w'
              go_simp
              with_reducible rfl
            rotate_left
            · simp only [Act.put, List.setIfInBounds_toArray, List.set_cons_zero, List.set_cons_succ, i64_w, i32_w]
              rfl
            have z3 := (blk_cell MM.out.blk 3).trans rfl
            have y3 := blk_frozen MM.out.blk 3
            have z4 := (blk_cell (blk_set MM.out.blk 3 (.slice (some ⟨gE, 0, none⟩) (ends.length + 1) capE)) 4).trans rfl
            have y4 := blk_frozen (blk_set MM.out.blk 3 (.slice (some ⟨gE, 0, none⟩) (ends.length + 1) capE)) 4
            have hFin := Aside0.mk MM.out.done
            have hBel := Aside0.mk ((HH.out.setCell (p := ⟨g, 3, none⟩) MM.out.hg (.slice (some ⟨gE, 0, none⟩) (ends.length + 1) capE)).setCell (p := ⟨g, 4, none⟩) MM.out.hg (.slice (some ⟨gT, 0, none⟩) (trips.length + 1) capT))
            refine lastS_ (i := 18) (w1 := X7.setCell ⟨g, 3, none⟩ (.slice (some ⟨gE, 0, none⟩) (ends.length + 1) capE)) #[true, true, true, true, true, true, true, true, true, true, true, true, true, true, true, true, true, true, true, false, false, false] rfl rfl (one_of HT_.out (by kernel_rfl)) (by decide) (by rfl) ?_ ?_
            · clear hFin hBel HH MM z4 y4
              go_simp
            clear z3 y3 MM HH
            (try simp only [Act.put, List.setIfInBounds_toArray, List.set_cons_zero, List.set_cons_succ])
            generalize X7.setCell ⟨g, 3, none⟩ (.slice (some ⟨gE, 0, none⟩) (ends.length + 1) capE) = Y at *
            refine pure_ (i := 19) (N := some 118) (v := ?_) (a' := ?_) #[true, true, true, true, true, true, true, true, true, true, true, true, true, true, true, true, true, true, true, true, false, false] rfl rfl (any_of HT_.out (by kernel_rfl)) (fun _ _ _ h => h) (Or.inl ⟨by rfl, ?_⟩) ?_ ?_
            rotate_left
            · intro w'
              go_simp
              with_reducible rfl
            rotate_left
            · simp only [Act.put, List.setIfInBounds_toArray, List.set_cons_zero, List.set_cons_succ, i64_w, i32_w]
              rfl
            refine pure_ (i := 20) (N := some 119) (v := ?_) (a' := ?_) #[true, true, true, true, true, true, true, true, true, true, true, true, true, true, true, true, true, true, true, true, true, false] rfl rfl (any_of HT_.out (by kernel_rfl)) (fun _ _ _ h => h) (Or.inl ⟨by rfl, ?_⟩) ?_ ?_
            rotate_left
            · intro w'
              go_simp
              with_reducible rfl
            rotate_left
            · simp only [Act.put, List.setIfInBounds_toArray, List.set_cons_zero, List.set_cons_succ, i64_w, i32_w]
              rfl
            refine lastS_ (i := 21) (w1 := Y.setCell ⟨g, 4, none⟩ (.slice (some ⟨gT, 0, none⟩) (trips.length + 1) capT)) #[true, true, true, true, true, true, true, true, true, true, true, true, true, true, true, true, true, true, true, true, true, true] rfl rfl (one_of HT_.out (by kernel_rfl)) (by decide) (by rfl) ?_ ?_
            · clear hFin hBel
              go_simp
            clear z4 y4
            (try simp only [Act.put, List.setIfInBounds_toArray, List.set_cons_zero, List.set_cons_succ])
            refine done_ (done_of HT_.out (by kernel_rfl)) ?_
            try go_wp2_with (fail)
            go_end0
            exact ⟨rfl, hBel.out, _, _, by first | exact hFin.out | (rw [show Es.endN true = 1 from rfl]; exact hFin.out) | (rw [show Es.endN false = 0 from rfl]; exact hFin.out) | (rw [he]; rw [show Es.endN false = 0 from rfl]; exact hFin.out)⟩
        · skip
          refine value_ (v := .slice (some ⟨W9.heap.size, 0, none⟩) 1 1) (w1 := W9.alloc (.cells #[.int .i64 (st : Int)] 3)) (by rfl) rfl (by go_simp) ?_
          have b1 : (W9.alloc (.cells #[.int .i64 (st : Int)] 3)).cell? ⟨W9.heap.size, 0, none⟩ = some (.int .i64 (st : Int)) := (blk_cell (blk_new _ _) 0).trans rfl
          have b2 : W9.heap.size < (W9.alloc (.cells #[.int .i64 (st : Int)] 3)).heap.size := by simp
          have b3 : ∀ k, ve.ownBlock = some k → k < wr.heap.size := LE
          have m1 := Aside0.mk (MM.out.alloc (.cells #[.int .i64 (st : Int)] 3))
          have h1 := Aside0.mk (HH.out.alloc HHs (.cells #[.int .i64 (st : Int)] 3))
          have s1 : base ≤ (W9.alloc (.cells #[.int .i64 (st : Int)] 3)).heap.size ∧ wr.heap.size ≤ (W9.alloc (.cells #[.int .i64 (st : Int)] 3)).heap.size := by simp; omega
          have g1 : wr.heap.size ≤ W9.heap.size := HWs
          clear MM HH HHs HWs hHeld
          generalize W9.alloc (.cells #[.int .i64 (st : Int)] 3) = X8 at *
          generalize W9.heap.size = BT at *
          have MM := m1
          have HH := h1
          have HHs := s1.1
          have HWs := s1.2
          have boxT := b1
          have ltbT := b2
          have gebT := g1
          clear b1 b2 b3 m1 h1 s1 g1
          refine hK.out _ _ ⟨(blk_cell MM.out.blk 3).trans rfl, (blk_cell MM.out.blk 4).trans rfl⟩ (fun hHeld => ?_)
          clear hK K
          (try simp only [Act.put, List.setIfInBounds_toArray, List.set_cons_zero, List.set_cons_succ])
          refine one_ (i := 7) (N := some 107) #[true, true, true, true, true, true, true, true, false, true, true, true, true, true, true, false, false, false, false, false, false, false] rfl rfl (one_of HT_.out (by kernel_rfl)) (by decide) (fun K hK => ?_)
          refine value_ (v := .slice (some ⟨X8.heap.size, 0, none⟩) 1 1) (w1 := X8.alloc (.cells #[.int .i64 ((1 : Nat) : Int)] 3)) (by rfl) rfl (by go_simp) ?_
          have b1 : (X8.alloc (.cells #[.int .i64 ((1 : Nat) : Int)] 3)).cell? ⟨X8.heap.size, 0, none⟩ = some (.int .i64 ((1 : Nat) : Int)) := (blk_cell (blk_new _ _) 0).trans rfl
          have b2 : X8.heap.size < (X8.alloc (.cells #[.int .i64 ((1 : Nat) : Int)] 3)).heap.size := by simp
          have b3 : ∀ k, ve.ownBlock = some k → k < wr.heap.size := LE
          have b1T' := cell_kept_alloc boxT (.cells #[.int .i64 ((1 : Nat) : Int)] 3)
          have b2T' : BT < (X8.alloc (.cells #[.int .i64 ((1 : Nat) : Int)] 3)).heap.size := by simp; omega
          have m1 := Aside0.mk (MM.out.alloc (.cells #[.int .i64 ((1 : Nat) : Int)] 3))
          have h1 := Aside0.mk (HH.out.alloc HHs (.cells #[.int .i64 ((1 : Nat) : Int)] 3))
          have s1 : base ≤ (X8.alloc (.cells #[.int .i64 ((1 : Nat) : Int)] 3)).heap.size ∧ wr.heap.size ≤ (X8.alloc (.cells #[.int .i64 ((1 : Nat) : Int)] 3)).heap.size := by simp; omega
          have g1 : wr.heap.size ≤ X8.heap.size := HWs
          clear MM HH HHs HWs hHeld boxT ltbT
          generalize X8.alloc (.cells #[.int .i64 ((1 : Nat) : Int)] 3) = X9 at *
          generalize X8.heap.size = BE at *
          have MM := m1
          have HH := h1
          have HHs := s1.1
          have HWs := s1.2
          have boxE := b1
          have ltbE := b2
          have gebE := g1
          have boxT := b1T'
          have ltbT := b2T'
          clear b1 b2 b3 m1 h1 s1 g1 b1T' b2T'
          refine hK.out _ _ ⟨(blk_cell MM.out.blk 3).trans rfl, (blk_cell MM.out.blk 4).trans rfl⟩ (fun hHeld => ?_)
          clear hK K
          (try simp only [Act.put, List.setIfInBounds_toArray, List.set_cons_zero, List.set_cons_succ])
          refine one_ (i := 8) (N := some 108) #[true, true, true, true, true, true, true, true, true, true, true, true, true, true, true, false, false, false, false, false, false, false] rfl rfl (one_of HT_.out (by kernel_rfl)) (by decide) (fun K hK => ?_)
          refine step_appE rfl (.tmp 105) (.tmp 107) rfl Try.underlying34 info3 _ BE rfl rfl MM.out HHs (by omega) boxE ?_
          intro gE capE X10 m1 s1 st1 h1
          have b1 := st1 ⟨BT, 0, none⟩ _ ltbT (fun e => by have hq_ : BT < wr.heap.size := LE _ e.symm; omega) boxT
          have b2 : BT < X10.heap.size := by omega
          have m1 := Aside0.mk m1
          have h1 := Aside0.mk (HH.out.trans h1)
          have s2 : base ≤ X10.heap.size ∧ wr.heap.size ≤ X10.heap.size := by omega
          clear MM HH HHs HWs hHeld st1 s1 boxE ltbE boxT ltbT
          have MM := m1
          have HH := h1
          have HHs := s2.1
          have HWs := s2.2
          have boxT := b1
          have ltbT := b2
          clear b1 b2
          clear m1 h1 s2
          refine hK.out _ _ ⟨(blk_cell MM.out.blk 3).trans rfl, (blk_cell MM.out.blk 4).trans rfl⟩ (fun hHeld => ?_)
          clear hK K
          (try simp only [Act.put, List.setIfInBounds_toArray, List.set_cons_zero, List.set_cons_succ])
          refine one_ (i := 15) (N := some 115) #[true, true, true, true, true, true, true, true, true, true, true, true, true, true, true, true, false, false, false, false, false, false] rfl rfl (one_of HT_.out (by kernel_rfl)) (by decide) (fun K hK => ?_)
          refine step_appT rfl (.tmp 112) (.tmp 114) rfl Try.underlying34 info3 _ BT rfl rfl MM.out HHs (by omega) boxT ?_
          intro gT capT X11 m1 s1 st1 h1
          have m1 := Aside0.mk m1
          have h1 := Aside0.mk (HH.out.trans h1)
          have s2 : base ≤ X11.heap.size ∧ wr.heap.size ≤ X11.heap.size := by omega
          clear MM HH HHs HWs hHeld st1 s1 boxT ltbT
          have MM := m1
          have HH := h1
          have HHs := s2.1
          have HWs := s2.2
          clear m1 h1 s2
          refine hK.out _ _ ⟨(blk_cell MM.out.blk 3).trans rfl, (blk_cell MM.out.blk 4).trans rfl⟩ (fun hHeld => ?_)
          clear hK K
          (try simp only [Act.put, List.setIfInBounds_toArray, List.set_cons_zero, List.set_cons_succ])
          refine pure_ (i := 16) (N := some 116) (v := ?_) (a' := ?_) #[true, true, true, true, true, true, true, true, true, true, true, true, true, true, true, true, true, false, false, false, false, false] rfl rfl (any_of HT_.out (by kernel_rfl)) (fun _ _ _ h => h) (Or.inl ⟨by rfl, ?_⟩) ?_ ?_
          rotate_left
          · intro w'
            go_simp
            with_reducible rfl
          rotate_left
          · simp only [Act.put, List.setIfInBounds_toArray, List.set_cons_zero, List.set_cons_succ, i64_w, i32_w]
            rfl
          refine pure_ (i := 17) (N := some 117) (v := ?_) (a' := ?_) #[true, true, true, true, true, true, true, true, true, true, true, true, true, true, true, true, true, true, false, false, false, false] rfl rfl (any_of HT_.out (by kernel_rfl)) (fun _ _ _ h => h) (Or.inl ⟨by rfl, ?_⟩) ?_ ?_
          rotate_left
          · intro w'
            go_simp
            with_reducible rfl
          rotate_left
          · simp only [Act.put, List.setIfInBounds_toArray, List.set_cons_zero, List.set_cons_succ, i64_w, i32_w]
            rfl
          have z3 := (blk_cell MM.out.blk 3).trans rfl
          have y3 := blk_frozen MM.out.blk 3
          have z4 := (blk_cell (blk_set MM.out.blk 3 (.slice (some ⟨gE, 0, none⟩) (ends.length + 1) capE)) 4).trans rfl
          have y4 := blk_frozen (blk_set MM.out.blk 3 (.slice (some ⟨gE, 0, none⟩) (ends.length + 1) capE)) 4
          have hFin := Aside0.mk MM.out.done
          have hBel := Aside0.mk ((HH.out.setCell (p := ⟨g, 3, none⟩) MM.out.hg (.slice (some ⟨gE, 0, none⟩) (ends.length + 1) capE)).setCell (p := ⟨g, 4, none⟩) MM.out.hg (.slice (some ⟨gT, 0, none⟩) (trips.length + 1) capT))
          refine lastS_ (i := 18) (w1 := X11.setCell ⟨g, 3, none⟩ (.slice (some ⟨gE, 0, none⟩) (ends.length + 1) capE)) #[true, true, true, true, true, true, true, true, true, true, true, true, true, true, true, true, true, true, true, false, false, false] rfl rfl (one_of HT_.out (by kernel_rfl)) (by decide) (by rfl) ?_ ?_
          · clear hFin hBel HH MM z4 y4
            go_simp
          clear z3 y3 MM HH
          (try simp only [Act.put, List.setIfInBounds_toArray, List.set_cons_zero, List.set_cons_succ])
          generalize X11.setCell ⟨g, 3, none⟩ (.slice (some ⟨gE, 0, none⟩) (ends.length + 1) capE) = Y at *
          refine pure_ (i := 19) (N := some 118) (v := ?_) (a' := ?_) #[true, true, true, true, true, true, true, true, true, true, true, true, true, true, true, true, true, true, true, true, false, false] rfl rfl (any_of HT_.out (by kernel_rfl)) (fun _ _ _ h => h) (Or.inl ⟨by rfl, ?_⟩) ?_ ?_
          rotate_left
          · intro w'
            go_simp
            with_reducible rfl
          rotate_left
          · simp only [Act.put, List.setIfInBounds_toArray, List.set_cons_zero, List.set_cons_succ, i64_w, i32_w]
            rfl
          refine pure_ (i := 20) (N := some 119) (v := ?_) (a' := ?_) #[true, true, true, true, true, true, true, true, true, true, true, true, true, true, true, true, true, true, true, true, true, false] rfl rfl (any_of HT_.out (by kernel_rfl)) (fun _ _ _ h => h) (Or.inl ⟨by rfl, ?_⟩) ?_ ?_
          rotate_left
          · intro w'
            go_simp
            with_reducible rfl
          rotate_left
          · simp only [Act.put, List.setIfInBounds_toArray, List.set_cons_zero, List.set_cons_succ, i64_w, i32_w]
            rfl
          refine lastS_ (i := 21) (w1 := Y.setCell ⟨g, 4, none⟩ (.slice (some ⟨gT, 0, none⟩) (trips.length + 1) capT)) #[true, true, true, true, true, true, true, true, true, true, true, true, true, true, true, true, true, true, true, true, true, true] rfl rfl (one_of HT_.out (by kernel_rfl)) (by decide) (by rfl) ?_ ?_
          · clear hFin hBel
            go_simp
          clear z4 y4
          (try simp only [Act.put, List.setIfInBounds_toArray, List.set_cons_zero, List.set_cons_succ])
          refine done_ (done_of HT_.out (by kernel_rfl)) ?_
          try go_wp2_with (fail)
          go_end0
          exact ⟨rfl, hBel.out, _, _, by first | exact hFin.out | (rw [show Es.endN true = 1 from rfl]; exact hFin.out) | (rw [show Es.endN false = 0 from rfl]; exact hFin.out) | (rw [he]; rw [show Es.endN false = 0 from rfl]; exact hFin.out)⟩
    · clear HR
      obtain rfl := he
      have FINE := Aside0.mk (rfl : Es.endN false = 0)
      obtain rfl := hs
      obtain rfl := h1
      obtain rfl := h2
      have c0 := blk_cell HF.out.blk 0
      have c2 := blk_cell HF.out.blk 2
      have c5 := blk_cell HF.out.blk 5
      simp at c0 c2 c5
      have MM := Aside0.mk (FoMid.of HF.out).drew
      have HH := Aside0.mk (below_drew HB.out)
      have c3 := (blk_cell MM.out.blk 3).trans rfl
      have c4 := (blk_cell MM.out.blk 4).trans rfl
      have HHs : base ≤ wr.drew.heap.size := (by have := HB.out.size; have := HF.out.hg; have := blk_lt HF.out.blk; show base ≤ wr.heap.size; omega)
      have HWs : wr.heap.size ≤ wr.drew.heap.size := Nat.le_refl _
      have LE : ∀ k, ve.ownBlock = some k → k < wr.heap.size := own_lt HF.out.e
      have LT : ∀ k, vt.ownBlock = some k → k < wr.heap.size := own_lt HF.out.t
      clear c0 c2 c5 HF HB
      go_upto_region 16 with (fail)
      refine start_ (n := 22) (S := fun w' => w'.cell? ⟨g, 3, none⟩ = some ve ∧ w'.cell? ⟨g, 4, none⟩ = some vt) (ds := [18, 21]) #[false, false, false, false, false, false, false, false, false, false, false, false, false, false, false, false, false, false, false, false, false, false] (by kernel_rfl) rfl rfl ⟨c3, c4⟩ (fun hHeld => ?_)
      refine with_tabW tab16 bits16 (fun HT_ HW_ => ?_)
      clear c3 c4
      generalize wr.drew = W9 at MM HH HHs HWs hHeld ⊢
      refine pure_ (i := 0) (N := some 100) (v := ?_) (a' := ?_) #[true, false, false, false, false, false, false, false, false, false, false, false, false, false, false, false, false, false, false, false, false, false] rfl rfl (any_of HT_.out (by kernel_rfl)) (fun _ _ _ h => h) (Or.inl ⟨by rfl, ?_⟩) ?_ ?_
      rotate_left
      · intro w'
        go_simp
        with_reducible rfl
      rotate_left
      · simp only [Act.put, List.setIfInBounds_toArray, List.set_cons_zero, List.set_cons_succ, i64_w, i32_w]
        rfl
      refine pure_ (i := 1) (N := some 101) (v := ?_) (a' := ?_) #[true, true, false, false, false, false, false, false, false, false, false, false, false, false, false, false, false, false, false, false, false, false] rfl rfl (any_of HT_.out (by kernel_rfl)) (fun _ _ _ h => h) (Or.inl ⟨by rfl, ?_⟩) ?_ ?_
      rotate_left
      · intro w'
        go_simp
        with_reducible rfl
      rotate_left
      · simp only [Act.put, List.setIfInBounds_toArray, List.set_cons_zero, List.set_cons_succ, i64_w, i32_w]
        rfl
      refine pure_ (i := 2) (N := some 102) (v := ?_) (a' := ?_) #[true, true, true, false, false, false, false, false, false, false, false, false, false, false, false, false, false, false, false, false, false, false] rfl rfl (any_of HT_.out (by kernel_rfl)) (fun _ _ _ h => h) (Or.inl ⟨by rfl, ?_⟩) ?_ ?_
      rotate_left
      · intro w'
        go_simp
        with_reducible rfl
      rotate_left
      · simp only [Act.put, List.setIfInBounds_toArray, List.set_cons_zero, List.set_cons_succ, i64_w, i32_w]
        rfl
      refine pure_ (i := 3) (N := some 103) (v := ?_) (a' := ?_) #[true, true, true, true, false, false, false, false, false, false, false, false, false, false, false, false, false, false, false, false, false, false] rfl rfl (any_of HT_.out (by kernel_rfl)) (fun _ _ _ h => h) (Or.inl ⟨by rfl, ?_⟩) ?_ ?_
      rotate_left
      · intro w'
        go_simp
        with_reducible rfl
      rotate_left
      · simp only [Act.put, List.setIfInBounds_toArray, List.set_cons_zero, List.set_cons_succ, i64_w, i32_w]
        rfl
      refine pure_ (i := 4) (N := some 104) (v := ?_) (a' := ?_) #[true, true, true, true, true, false, false, false, false, false, false, false, false, false, false, false, false, false, false, false, false, false] rfl rfl (any_of HT_.out (by kernel_rfl)) (fun _ _ _ h => h) (Or.inl ⟨by rfl, ?_⟩) ?_ ?_
      rotate_left
      · intro w'
        go_simp
        with_reducible rfl
      rotate_left
      · simp only [Act.put, List.setIfInBounds_toArray, List.set_cons_zero, List.set_cons_succ, i64_w, i32_w]
        rfl
      refine take_ (i := 5) (N := some 105) (v := ?_) (a' := ?_) #[true, true, true, true, true, true, false, false, false, false, false, false, false, false, false, false, false, false, false, false, false, false] rfl rfl (take_ofW HT_.out HW_.out (by kernel_rfl)) (fun _ _ _ h => h) (Or.inl ⟨by rfl, ?_⟩) hHeld ?_ ?_
      rotate_left
      · intro w' hSw
        obtain ⟨hS3, hS4⟩ := hSw
        go_simp
        with_reducible rfl
      rotate_left
      · simp only [Act.put, List.setIfInBounds_toArray, List.set_cons_zero, List.set_cons_succ, i64_w, i32_w]
        rfl
      refine pure_ (i := 6) (N := some 106) (v := ?_) (a' := ?_) #[true, true, true, true, true, true, true, false, false, false, false, false, false, false, false, false, false, false, false, false, false, false] rfl rfl (any_of HT_.out (by kernel_rfl)) (fun _ _ _ h => h) (Or.inl ⟨by rfl, ?_⟩) ?_ ?_
      rotate_left
      · intro w'
        go_simp
        with_reducible rfl
      rotate_left
      · simp only [Act.put, List.setIfInBounds_toArray, List.set_cons_zero, List.set_cons_succ, i64_w, i32_w]
        rfl
      refine pure_ (i := 9) (N := some 109) (v := ?_) (a' := ?_) #[true, true, true, true, true, true, true, false, false, true, false, false, false, false, false, false, false, false, false, false, false, false] rfl rfl (any_of HT_.out (by kernel_rfl)) (fun _ _ _ h => h) (Or.inl ⟨by rfl, ?_⟩) ?_ ?_
      rotate_left
      · intro w'
        go_simp
        with_reducible rfl
      rotate_left
      · simp only [Act.put, List.setIfInBounds_toArray, List.set_cons_zero, List.set_cons_succ, i64_w, i32_w]
        rfl
      refine pure_ (i := 10) (N := some 110) (v := ?_) (a' := ?_) #[true, true, true, true, true, true, true, false, false, true, true, false, false, false, false, false, false, false, false, false, false, false] rfl rfl (any_of HT_.out (by kernel_rfl)) (fun _ _ _ h => h) (Or.inl ⟨by rfl, ?_⟩) ?_ ?_
      rotate_left
      · intro w'
        go_simp
        with_reducible rfl
      rotate_left
      · simp only [Act.put, List.setIfInBounds_toArray, List.set_cons_zero, List.set_cons_succ, i64_w, i32_w]
        rfl
      refine pure_ (i := 11) (N := some 111) (v := ?_) (a' := ?_) #[true, true, true, true, true, true, true, false, false, true, true, true, false, false, false, false, false, false, false, false, false, false] rfl rfl (any_of HT_.out (by kernel_rfl)) (fun _ _ _ h => h) (Or.inl ⟨by rfl, ?_⟩) ?_ ?_
      rotate_left
      · intro w'
        go_simp
        with_reducible rfl
      rotate_left
      · simp only [Act.put, List.setIfInBounds_toArray, List.set_cons_zero, List.set_cons_succ, i64_w, i32_w]
        rfl
      refine take_ (i := 12) (N := some 112) (v := ?_) (a' := ?_) #[true, true, true, true, true, true, true, false, false, true, true, true, true, false, false, false, false, false, false, false, false, false] rfl rfl (take_ofW HT_.out HW_.out (by kernel_rfl)) (fun _ _ _ h => h) (Or.inl ⟨by rfl, ?_⟩) hHeld ?_ ?_
      rotate_left
      · intro w' hSw
        obtain ⟨hS3, hS4⟩ := hSw
        go_simp
        with_reducible rfl
      rotate_left
      · simp only [Act.put, List.setIfInBounds_toArray, List.set_cons_zero, List.set_cons_succ, i64_w, i32_w]
        rfl
      refine pure_ (i := 13) (N := some 113) (v := ?_) (a' := ?_) #[true, true, true, true, true, true, true, false, false, true, true, true, true, true, false, false, false, false, false, false, false, false] rfl rfl (any_of HT_.out (by kernel_rfl)) (fun _ _ _ h => h) (Or.inl ⟨by rfl, ?_⟩) ?_ ?_
      rotate_left
      · intro w'
        go_simp
        with_reducible rfl
      rotate_left
      · simp only [Act.put, List.setIfInBounds_toArray, List.set_cons_zero, List.set_cons_succ, i64_w, i32_w]
        rfl
      refine two_ (i := 7) (j := 14) (Ni := some 107) (Nj := some 114) #[true, true, true, true, true, true, true, true, false, true, true, true, true, true, false, false, false, false, false, false, false, false] #[true, true, true, true, true, true, true, false, false, true, true, true, true, true, true, false, false, false, false, false, false, false] rfl rfl rfl rfl (two_of HT_.out (by kernel_rfl)) (by decide) (by decide) (fun K hK => ?_) (fun K hK => ?_)
      · skip
        refine value_ (v := .slice (some ⟨W9.heap.size, 0, none⟩) 1 1) (w1 := W9.alloc (.cells #[.int .i64 ((0 : Nat) : Int)] 3)) (by rfl) rfl (by go_simp) ?_
        have b1 : (W9.alloc (.cells #[.int .i64 ((0 : Nat) : Int)] 3)).cell? ⟨W9.heap.size, 0, none⟩ = some (.int .i64 ((0 : Nat) : Int)) := (blk_cell (blk_new _ _) 0).trans rfl
        have b2 : W9.heap.size < (W9.alloc (.cells #[.int .i64 ((0 : Nat) : Int)] 3)).heap.size := by simp
        have b3 : ∀ k, ve.ownBlock = some k → k < wr.heap.size := LE
        have m1 := Aside0.mk (MM.out.alloc (.cells #[.int .i64 ((0 : Nat) : Int)] 3))
        have h1 := Aside0.mk (HH.out.alloc HHs (.cells #[.int .i64 ((0 : Nat) : Int)] 3))
        have s1 : base ≤ (W9.alloc (.cells #[.int .i64 ((0 : Nat) : Int)] 3)).heap.size ∧ wr.heap.size ≤ (W9.alloc (.cells #[.int .i64 ((0 : Nat) : Int)] 3)).heap.size := by simp; omega
        have g1 : wr.heap.size ≤ W9.heap.size := HWs
        clear MM HH HHs HWs hHeld
        generalize W9.alloc (.cells #[.int .i64 ((0 : Nat) : Int)] 3) = X1 at *
        generalize W9.heap.size = BE at *
        have MM := m1
        have HH := h1
        have HHs := s1.1
        have HWs := s1.2
        have boxE := b1
        have ltbE := b2
        have gebE := g1
        clear b1 b2 b3 m1 h1 s1 g1
        refine hK.out _ _ ⟨(blk_cell MM.out.blk 3).trans rfl, (blk_cell MM.out.blk 4).trans rfl⟩ (fun hHeld => ?_)
        clear hK K
        (try simp only [Act.put, List.setIfInBounds_toArray, List.set_cons_zero, List.set_cons_succ])
        refine two_ (i := 8) (j := 14) (Ni := some 108) (Nj := some 114) #[true, true, true, true, true, true, true, true, true, true, true, true, true, true, false, false, false, false, false, false, false, false] #[true, true, true, true, true, true, true, true, false, true, true, true, true, true, true, false, false, false, false, false, false, false] rfl rfl rfl rfl (two_of HT_.out (by kernel_rfl)) (by decide) (by decide) (fun K hK => ?_) (fun K hK => ?_)
        · skip
          refine step_appE rfl (.tmp 105) (.tmp 107) rfl Try.underlying34 info3 _ BE rfl rfl MM.out HHs (by omega) boxE ?_
          intro gE capE X2 m1 s1 st1 h1
          have m1 := Aside0.mk m1
          have h1 := Aside0.mk (HH.out.trans h1)
          have s2 : base ≤ X2.heap.size ∧ wr.heap.size ≤ X2.heap.size := by omega
          clear MM HH HHs HWs hHeld st1 s1 boxE ltbE
          have MM := m1
          have HH := h1
          have HHs := s2.1
          have HWs := s2.2
          clear m1 h1 s2
          refine hK.out _ _ ⟨(blk_cell MM.out.blk 3).trans rfl, (blk_cell MM.out.blk 4).trans rfl⟩ (fun hHeld => ?_)
          clear hK K
          (try simp only [Act.put, List.setIfInBounds_toArray, List.set_cons_zero, List.set_cons_succ])
          refine one_ (i := 14) (N := some 114) #[true, true, true, true, true, true, true, true, true, true, true, true, true, true, true, false, false, false, false, false, false, false] rfl rfl (one_of HT_.out (by kernel_rfl)) (by decide) (fun K hK => ?_)
          refine value_ (v := .slice (some ⟨X2.heap.size, 0, none⟩) 1 1) (w1 := X2.alloc (.cells #[.int .i64 (s : Int)] 3)) (by rfl) rfl (by go_simp) ?_
          have b1 : (X2.alloc (.cells #[.int .i64 (s : Int)] 3)).cell? ⟨X2.heap.size, 0, none⟩ = some (.int .i64 (s : Int)) := (blk_cell (blk_new _ _) 0).trans rfl
          have b2 : X2.heap.size < (X2.alloc (.cells #[.int .i64 (s : Int)] 3)).heap.size := by simp
          have b3 : ∀ k, ve.ownBlock = some k → k < wr.heap.size := LE
          have m1 := Aside0.mk (MM.out.alloc (.cells #[.int .i64 (s : Int)] 3))
          have h1 := Aside0.mk (HH.out.alloc HHs (.cells #[.int .i64 (s : Int)] 3))
          have s1 : base ≤ (X2.alloc (.cells #[.int .i64 (s : Int)] 3)).heap.size ∧ wr.heap.size ≤ (X2.alloc (.cells #[.int .i64 (s : Int)] 3)).heap.size := by simp; omega
          have g1 : wr.heap.size ≤ X2.heap.size := HWs
          clear MM HH HHs HWs hHeld
          generalize X2.alloc (.cells #[.int .i64 (s : Int)] 3) = X3 at *
          generalize X2.heap.size = BT at *
          have MM := m1
          have HH := h1
          have HHs := s1.1
          have HWs := s1.2
          have boxT := b1
          have ltbT := b2
          have gebT := g1
          clear b1 b2 b3 m1 h1 s1 g1
          refine hK.out _ _ ⟨(blk_cell MM.out.blk 3).trans rfl, (blk_cell MM.out.blk 4).trans rfl⟩ (fun hHeld => ?_)
          clear hK K
          (try simp only [Act.put, List.setIfInBounds_toArray, List.set_cons_zero, List.set_cons_succ])
          refine one_ (i := 15) (N := some 115) #[true, true, true, true, true, true, true, true, true, true, true, true, true, true, true, true, false, false, false, false, false, false] rfl rfl (one_of HT_.out (by kernel_rfl)) (by decide) (fun K hK => ?_)
          refine step_appT rfl (.tmp 112) (.tmp 114) rfl Try.underlying34 info3 _ BT rfl rfl MM.out HHs (by omega) boxT ?_
          intro gT capT X4 m1 s1 st1 h1
          have m1 := Aside0.mk m1
          have h1 := Aside0.mk (HH.out.trans h1)
          have s2 : base ≤ X4.heap.size ∧ wr.heap.size ≤ X4.heap.size := by omega
          clear MM HH HHs HWs hHeld st1 s1 boxT ltbT
          have MM := m1
          have HH := h1
          have HHs := s2.1
          have HWs := s2.2
          clear m1 h1 s2
          refine hK.out _ _ ⟨(blk_cell MM.out.blk 3).trans rfl, (blk_cell MM.out.blk 4).trans rfl⟩ (fun hHeld => ?_)
          clear hK K
          (try simp only [Act.put, List.setIfInBounds_toArray, List.set_cons_zero, List.set_cons_succ])
          refine pure_ (i := 16) (N := some 116) (v := ?_) (a' := ?_) #[true, true, true, true, true, true, true, true, true, true, true, true, true, true, true, true, true, false, false, false, false, false] rfl rfl (any_of HT_.out (by kernel_rfl)) (fun _ _ _ h => h) (Or.inl ⟨by rfl, ?_⟩) ?_ ?_
          rotate_left
          · intro w'
            go_simp
            with_reducible rfl
          rotate_left
          · simp only [Act.put, List.setIfInBounds_toArray, List.set_cons_zero, List.set_cons_succ, i64_w, i32_w]
            rfl
          refine pure_ (i := 17) (N := some 117) (v := ?_) (a' := ?_) #[true, true, true, true, true, true, true, true, true, true, true, true, true, true, true, true, true, true, false, false, false, false] rfl rfl (any_of HT_.out (by kernel_rfl)) (fun _ _ _ h => h) (Or.inl ⟨by rfl, ?_⟩) ?_ ?_
          rotate_left
          · intro w'
            go_simp
            with_reducible rfl
          rotate_left
          · simp only [Act.put, List.setIfInBounds_toArray, List.set_cons_zero, List.set_cons_succ, i64_w, i32_w]
            rfl
          have z3 := (blk_cell MM.out.blk 3).trans rfl
          have y3 := blk_frozen MM.out.blk 3
          have z4 := (blk_cell (blk_set MM.out.blk 3 (.slice (some ⟨gE, 0, none⟩) (ends.length + 1) capE)) 4).trans rfl
          have y4 := blk_frozen (blk_set MM.out.blk 3 (.slice (some ⟨gE, 0, none⟩) (ends.length + 1) capE)) 4
          have hFin := Aside0.mk MM.out.done
          have hBel := Aside0.mk ((HH.out.setCell (p := ⟨g, 3, none⟩) MM.out.hg (.slice (some ⟨gE, 0, none⟩) (ends.length + 1) capE)).setCell (p := ⟨g, 4, none⟩) MM.out.hg (.slice (some ⟨gT, 0, none⟩) (trips.length + 1) capT))
          refine lastS_ (i := 18) (w1 := X4.setCell ⟨g, 3, none⟩ (.slice (some ⟨gE, 0, none⟩) (ends.length + 1) capE)) #[true, true, true, true, true, true, true, true, true, true, true, true, true, true, true, true, true, true, true, false, false, false] rfl rfl (one_of HT_.out (by kernel_rfl)) (by decide) (by rfl) ?_ ?_
          · clear hFin hBel HH MM z4 y4
            go_simp
          clear z3 y3 MM HH
          (try simp only [Act.put, List.setIfInBounds_toArray, List.set_cons_zero, List.set_cons_succ])
          generalize X4.setCell ⟨g, 3, none⟩ (.slice (some ⟨gE, 0, none⟩) (ends.length + 1) capE) = Y at *
          refine pure_ (i := 19) (N := some 118) (v := ?_) (a' := ?_) #[true, true, true, true, true, true, true, true, true, true, true, true, true, true, true, true, true, true, true, true, false, false] rfl rfl (any_of HT_.out (by kernel_rfl)) (fun _ _ _ h => h) (Or.inl ⟨by rfl, ?_⟩) ?_ ?_
          rotate_left
          · intro w'
            go_simp
            with_reducible rfl
          rotate_left
          · simp only [Act.put, List.setIfInBounds_toArray, List.set_cons_zero, List.set_cons_succ, i64_w, i32_w]
            rfl
          refine pure_ (i := 20) (N := some 119) (v := ?_) (a' := ?_) #[true, true, true, true, true, true, true, true, true, true, true, true, true, true, true, true, true, true, true, true, true, false] rfl rfl (any_of HT_.out (by kernel_rfl)) (fun _ _ _ h => h) (Or.inl ⟨by rfl, ?_⟩) ?_ ?_
          rotate_left
          · intro w'
            go_simp
            with_reducible rfl
          rotate_left
          · simp only [Act.put, List.setIfInBounds_toArray, List.set_cons_zero, List.set_cons_succ, i64_w, i32_w]
            rfl
          refine lastS_ (i := 21) (w1 := Y.setCell ⟨g, 4, none⟩ (.slice (some ⟨gT, 0, none⟩) (trips.length + 1) capT)) #[true, true, true, true, true, true, true, true, true, true, true, true, true, true, true, true, true, true, true, true, true, true] rfl rfl (one_of HT_.out (by kernel_rfl)) (by decide) (by rfl) ?_ ?_
          · clear hFin hBel
            go_simp
          clear z4 y4
          (try simp only [Act.put, List.setIfInBounds_toArray, List.set_cons_zero, List.set_cons_succ])
          refine done_ (done_of HT_.out (by kernel_rfl)) ?_
          try go_wp2_with (fail)
          go_end0
          exact ⟨rfl, hBel.out, _, _, by first | exact hFin.out | (rw [show Es.endN true = 1 from rfl]; exact hFin.out) | (rw [show Es.endN false = 0 from rfl]; exact hFin.out) | (rw [he]; rw [show Es.endN false = 0 from rfl]; exact hFin.out)⟩
        · skip
          refine value_ (v := .slice (some ⟨X1.heap.size, 0, none⟩) 1 1) (w1 := X1.alloc (.cells #[.int .i64 (s : Int)] 3)) (by rfl) rfl (by go_simp) ?_
          have b1 : (X1.alloc (.cells #[.int .i64 (s : Int)] 3)).cell? ⟨X1.heap.size, 0, none⟩ = some (.int .i64 (s : Int)) := (blk_cell (blk_new _ _) 0).trans rfl
          have b2 : X1.heap.size < (X1.alloc (.cells #[.int .i64 (s : Int)] 3)).heap.size := by simp
          have b3 : ∀ k, ve.ownBlock = some k → k < wr.heap.size := LE
          have b1E' := cell_kept_alloc boxE (.cells #[.int .i64 (s : Int)] 3)
          have b2E' : BE < (X1.alloc (.cells #[.int .i64 (s : Int)] 3)).heap.size := by simp; omega
          have m1 := Aside0.mk (MM.out.alloc (.cells #[.int .i64 (s : Int)] 3))
          have h1 := Aside0.mk (HH.out.alloc HHs (.cells #[.int .i64 (s : Int)] 3))
          have s1 : base ≤ (X1.alloc (.cells #[.int .i64 (s : Int)] 3)).heap.size ∧ wr.heap.size ≤ (X1.alloc (.cells #[.int .i64 (s : Int)] 3)).heap.size := by simp; omega
          have g1 : wr.heap.size ≤ X1.heap.size := HWs
          clear MM HH HHs HWs hHeld boxE ltbE
          generalize X1.alloc (.cells #[.int .i64 (s : Int)] 3) = X5 at *
          generalize X1.heap.size = BT at *
          have MM := m1
          have HH := h1
          have HHs := s1.1
          have HWs := s1.2
          have boxT := b1
          have ltbT := b2
          have gebT := g1
          have boxE := b1E'
          have ltbE := b2E'
          clear b1 b2 b3 m1 h1 s1 g1 b1E' b2E'
          refine hK.out _ _ ⟨(blk_cell MM.out.blk 3).trans rfl, (blk_cell MM.out.blk 4).trans rfl⟩ (fun hHeld => ?_)
          clear hK K
          (try simp only [Act.put, List.setIfInBounds_toArray, List.set_cons_zero, List.set_cons_succ])
          refine one_ (i := 8) (N := some 108) #[true, true, true, true, true, true, true, true, true, true, true, true, true, true, true, false, false, false, false, false, false, false] rfl rfl (one_of HT_.out (by kernel_rfl)) (by decide) (fun K hK => ?_)
          refine step_appE rfl (.tmp 105) (.tmp 107) rfl Try.underlying34 info3 _ BE rfl rfl MM.out HHs (by omega) boxE ?_
          intro gE capE X6 m1 s1 st1 h1
          have b1 := st1 ⟨BT, 0, none⟩ _ ltbT (fun e => by have hq_ : BT < wr.heap.size := LE _ e.symm; omega) boxT
          have b2 : BT < X6.heap.size := by omega
          have m1 := Aside0.mk m1
          have h1 := Aside0.mk (HH.out.trans h1)
          have s2 : base ≤ X6.heap.size ∧ wr.heap.size ≤ X6.heap.size := by omega
          clear MM HH HHs HWs hHeld st1 s1 boxE ltbE boxT ltbT
          have MM := m1
          have HH := h1
          have HHs := s2.1
          have HWs := s2.2
          have boxT := b1
          have ltbT := b2
          clear b1 b2
          clear m1 h1 s2
          refine hK.out _ _ ⟨(blk_cell MM.out.blk 3).trans rfl, (blk_cell MM.out.blk 4).trans rfl⟩ (fun hHeld => ?_)
          clear hK K
          (try simp only [Act.put, List.setIfInBounds_toArray, List.set_cons_zero, List.set_cons_succ])
          refine one_ (i := 15) (N := some 115) #[true, true, true, true, true, true, true, true, true, true, true, true, true, true, true, true, false, false, false, false, false, false] rfl rfl (one_of HT_.out (by kernel_rfl)) (by decide) (fun K hK => ?_)
          refine step_appT rfl (.tmp 112) (.tmp 114) rfl Try.underlying34 info3 _ BT rfl rfl MM.out HHs (by omega) boxT ?_
          intro gT capT X7 m1 s1 st1 h1
          have m1 := Aside0.mk m1
          have h1 := Aside0.mk (HH.out.trans h1)
          have s2 : base ≤ X7.heap.size ∧ wr.heap.size ≤ X7.heap.size := by omega
          clear MM HH HHs HWs hHeld st1 s1 boxT ltbT
          have MM := m1
          have HH := h1
          have HHs := s2.1
          have HWs := s2.2
          clear m1 h1 s2
          refine hK.out _ _ ⟨(blk_cell MM.out.blk 3).trans rfl, (blk_cell MM.out.blk 4).trans rfl⟩ (fun hHeld => ?_)
          clear hK K
          (try simp only [Act.put, List.setIfInBounds_toArray, List.set_cons_zero, List.set_cons_succ])
          refine pure_ (i := 16) (N := some 116) (v := ?_) (a' := ?_) #[true, true, true, true, true, true, true, true, true, true, true, true, true, true, true, true, true, false, false, false, false, false] rfl rfl (any_of HT_.out (by kernel_rfl)) (fun _ _ _ h => h) (Or.inl ⟨by rfl, ?_⟩) ?_ ?_
          rotate_left
          · intro w'
            go_simp
            with_reducible rfl
          rotate_left
          · simp only [Act.put, List.setIfInBounds_toArray, List.set_cons_zero, List.set_cons_succ, i64_w, i32_w]
            rfl
          refine pure_ (i := 17) (N := some 117) (v := ?_) (a' := ?_) #[true, true, true, true, true, true, true, true, true, true, true, true, true, true, true, true, true, true, false, false, false, false] rfl rfl (any_of HT_.out (by kernel_rfl)) (fun _ _ _ h => h) (Or.inl ⟨by rfl, ?_⟩) ?_ ?_
          rotate_left
          · intro w'
            go_simp
            with_reducible rfl
          rotate_left
          · simp only [Act.put, List.setIfInBounds_toArray, List.set_cons_zero, List.set_cons_succ, i64_w, i32_w]
            rfl
          have z3 := (blk_cell MM.out.blk 3).trans rfl
          have y3 := blk_frozen MM.out.blk 3
          have z4 := (blk_cell (blk_set MM.out.blk 3 (.slice (some ⟨gE, 0, none⟩) (ends.length + 1) capE)) 4).trans rfl
          have y4 := blk_frozen (blk_set MM.out.blk 3 (.slice (some ⟨gE, 0, none⟩) (ends.length + 1) capE)) 4
          have hFin := Aside0.mk MM.out.done
          have hBel := Aside0.mk ((HH.out.setCell (p := ⟨g, 3, none⟩) MM.out.hg (.slice (some ⟨gE, 0, none⟩) (ends.length + 1) capE)).setCell (p := ⟨g, 4, none⟩) MM.out.hg (.slice (some ⟨gT, 0, none⟩) (trips.length + 1) capT))
          refine lastS_ (i := 18) (w1 := X7.setCell ⟨g, 3, none⟩ (.slice (some ⟨gE, 0, none⟩) (ends.length + 1) capE)) #[true, true, true, true, true, true, true, true, true, true, true, true, true, true, true, true, true, true, true, false, false, false] rfl rfl (one_of HT_.out (by kernel_rfl)) (by decide) (by rfl) ?_ ?_
          · clear hFin hBel HH MM z4 y4
            go_simp
          clear z3 y3 MM HH
          (try simp only [Act.put, List.setIfInBounds_toArray, List.set_cons_zero, List.set_cons_succ])
          generalize X7.setCell ⟨g, 3, none⟩ (.slice (some ⟨gE, 0, none⟩) (ends.length + 1) capE) = Y at *
          refine pure_ (i := 19) (N := some 118) (v := ?_) (a' := ?_) #[true, true, true, true, true, true, true, true, true, true, true, true, true, true, true, true, true, true, true, true, false, false] rfl rfl (any_of HT_.out (by kernel_rfl)) (fun _ _ _ h => h) (Or.inl ⟨by rfl, ?_⟩) ?_ ?_
          rotate_left
          · intro w'
            go_simp
            with_reducible rfl
          rotate_left
          · simp only [Act.put, List.setIfInBounds_toArray, List.set_cons_zero, List.set_cons_succ, i64_w, i32_w]
            rfl
          refine pure_ (i := 20) (N := some 119) (v := ?_) (a' := ?_) #[true, true, true, true, true, true, true, true, true, true, true, true, true, true, true, true, true, true, true, true, true, false] rfl rfl (any_of HT_.out (by kernel_rfl)) (fun _ _ _ h => h) (Or.inl ⟨by rfl, ?_⟩) ?_ ?_
          rotate_left
          · intro w'
            go_simp
            with_reducible rfl
          rotate_left
          · simp only [Act.put, List.setIfInBounds_toArray, List.set_cons_zero, List.set_cons_succ, i64_w, i32_w]
            rfl
          refine lastS_ (i := 21) (w1 := Y.setCell ⟨g, 4, none⟩ (.slice (some ⟨gT, 0, none⟩) (trips.length + 1) capT)) #[true, true, true, true, true, true, true, true, true, true, true, true, true, true, true, true, true, true, true, true, true, true] rfl rfl (one_of HT_.out (by kernel_rfl)) (by decide) (by rfl) ?_ ?_
          · clear hFin hBel
            go_simp
          clear z4 y4
          (try simp only [Act.put, List.setIfInBounds_toArray, List.set_cons_zero, List.set_cons_succ])
          refine done_ (done_of HT_.out (by kernel_rfl)) ?_
          try go_wp2_with (fail)
          go_end0
          exact ⟨rfl, hBel.out, _, _, by first | exact hFin.out | (rw [show Es.endN true = 1 from rfl]; exact hFin.out) | (rw [show Es.endN false = 0 from rfl]; exact hFin.out) | (rw [he]; rw [show Es.endN false = 0 from rfl]; exact hFin.out)⟩
      · skip
        refine value_ (v := .slice (some ⟨W9.heap.size, 0, none⟩) 1 1) (w1 := W9.alloc (.cells #[.int .i64 (s : Int)] 3)) (by rfl) rfl (by go_simp) ?_
        have b1 : (W9.alloc (.cells #[.int .i64 (s : Int)] 3)).cell? ⟨W9.heap.size, 0, none⟩ = some (.int .i64 (s : Int)) := (blk_cell (blk_new _ _) 0).trans rfl
        have b2 : W9.heap.size < (W9.alloc (.cells #[.int .i64 (s : Int)] 3)).heap.size := by simp
        have b3 : ∀ k, ve.ownBlock = some k → k < wr.heap.size := LE
        have m1 := Aside0.mk (MM.out.alloc (.cells #[.int .i64 (s : Int)] 3))
        have h1 := Aside0.mk (HH.out.alloc HHs (.cells #[.int .i64 (s : Int)] 3))
        have s1 : base ≤ (W9.alloc (.cells #[.int .i64 (s : Int)] 3)).heap.size ∧ wr.heap.size ≤ (W9.alloc (.cells #[.int .i64 (s : Int)] 3)).heap.size := by simp; omega
        have g1 : wr.heap.size ≤ W9.heap.size := HWs
        clear MM HH HHs HWs hHeld
        generalize W9.alloc (.cells #[.int .i64 (s : Int)] 3) = X8 at *
        generalize W9.heap.size = BT at *
        have MM := m1
        have HH := h1
        have HHs := s1.1
        have HWs := s1.2
        have boxT := b1
        have ltbT := b2
        have gebT := g1
        clear b1 b2 b3 m1 h1 s1 g1
        refine hK.out _ _ ⟨(blk_cell MM.out.blk 3).trans rfl, (blk_cell MM.out.blk 4).trans rfl⟩ (fun hHeld => ?_)
        clear hK K
        (try simp only [Act.put, List.setIfInBounds_toArray, List.set_cons_zero, List.set_cons_succ])
        refine one_ (i := 7) (N := some 107) #[true, true, true, true, true, true, true, true, false, true, true, true, true, true, true, false, false, false, false, false, false, false] rfl rfl (one_of HT_.out (by kernel_rfl)) (by decide) (fun K hK => ?_)
        refine value_ (v := .slice (some ⟨X8.heap.size, 0, none⟩) 1 1) (w1 := X8.alloc (.cells #[.int .i64 ((0 : Nat) : Int)] 3)) (by rfl) rfl (by go_simp) ?_
        have b1 : (X8.alloc (.cells #[.int .i64 ((0 : Nat) : Int)] 3)).cell? ⟨X8.heap.size, 0, none⟩ = some (.int .i64 ((0 : Nat) : Int)) := (blk_cell (blk_new _ _) 0).trans rfl
        have b2 : X8.heap.size < (X8.alloc (.cells #[.int .i64 ((0 : Nat) : Int)] 3)).heap.size := by simp
        have b3 : ∀ k, ve.ownBlock = some k → k < wr.heap.size := LE
        have b1T' := cell_kept_alloc boxT (.cells #[.int .i64 ((0 : Nat) : Int)] 3)
        have b2T' : BT < (X8.alloc (.cells #[.int .i64 ((0 : Nat) : Int)] 3)).heap.size := by simp; omega
        have m1 := Aside0.mk (MM.out.alloc (.cells #[.int .i64 ((0 : Nat) : Int)] 3))
        have h1 := Aside0.mk (HH.out.alloc HHs (.cells #[.int .i64 ((0 : Nat) : Int)] 3))
        have s1 : base ≤ (X8.alloc (.cells #[.int .i64 ((0 : Nat) : Int)] 3)).heap.size ∧ wr.heap.size ≤ (X8.alloc (.cells #[.int .i64 ((0 : Nat) : Int)] 3)).heap.size := by simp; omega
        have g1 : wr.heap.size ≤ X8.heap.size := HWs
        clear MM HH HHs HWs hHeld boxT ltbT
        generalize X8.alloc (.cells #[.int .i64 ((0 : Nat) : Int)] 3) = X9 at *
        generalize X8.heap.size = BE at *
        have MM := m1
        have HH := h1
        have HHs := s1.1
        have HWs := s1.2
        have boxE := b1
        have ltbE := b2
        have gebE := g1
        have boxT := b1T'
        have ltbT := b2T'
        clear b1 b2 b3 m1 h1 s1 g1 b1T' b2T'
        refine hK.out _ _ ⟨(blk_cell MM.out.blk 3).trans rfl, (blk_cell MM.out.blk 4).trans rfl⟩ (fun hHeld => ?_)
        clear hK K
        (try simp only [Act.put, List.setIfInBounds_toArray, List.set_cons_zero, List.set_cons_succ])
        refine one_ (i := 8) (N := some 108) #[true, true, true, true, true, true, true, true, true, true, true, true, true, true, true, false, false, false, false, false, false, false] rfl rfl (one_of HT_.out (by kernel_rfl)) (by decide) (fun K hK => ?_)
        refine step_appE rfl (.tmp 105) (.tmp 107) rfl Try.underlying34 info3 _ BE rfl rfl MM.out HHs (by omega) boxE ?_
        intro gE capE X10 m1 s1 st1 h1
        have b1 := st1 ⟨BT, 0, none⟩ _ ltbT (fun e => by have hq_ : BT < wr.heap.size := LE _ e.symm; omega) boxT
        have b2 : BT < X10.heap.size := by omega
        have m1 := Aside0.mk m1
        have h1 := Aside0.mk (HH.out.trans h1)
        have s2 : base ≤ X10.heap.size ∧ wr.heap.size ≤ X10.heap.size := by omega
        clear MM HH HHs HWs hHeld st1 s1 boxE ltbE boxT ltbT
        have MM := m1
        have HH := h1
        have HHs := s2.1
        have HWs := s2.2
        have boxT := b1
        have ltbT := b2
        clear b1 b2
        clear m1 h1 s2
        refine hK.out _ _ ⟨(blk_cell MM.out.blk 3).trans rfl, (blk_cell MM.out.blk 4).trans rfl⟩ (fun hHeld => ?_)
        clear hK K
        (try simp only [Act.put, List.setIfInBounds_toArray, List.set_cons_zero, List.set_cons_succ])
        refine one_ (i := 15) (N := some 115) #[true, true, true, true, true, true, true, true, true, true, true, true, true, true, true, true, false, false, false, false, false, false] rfl rfl (one_of HT_.out (by kernel_rfl)) (by decide) (fun K hK => ?_)
        refine step_appT rfl (.tmp 112) (.tmp 114) rfl Try.underlying34 info3 _ BT rfl rfl MM.out HHs (by omega) boxT ?_
        intro gT capT X11 m1 s1 st1 h1
        have m1 := Aside0.mk m1
        have h1 := Aside0.mk (HH.out.trans h1)
        have s2 : base ≤ X11.heap.size ∧ wr.heap.size ≤ X11.heap.size := by omega
        clear MM HH HHs HWs hHeld st1 s1 boxT ltbT
        have MM := m1
        have HH := h1
        have HHs := s2.1
        have HWs := s2.2
        clear m1 h1 s2
        refine hK.out _ _ ⟨(blk_cell MM.out.blk 3).trans rfl, (blk_cell MM.out.blk 4).trans rfl⟩ (fun hHeld => ?_)
        clear hK K
        (try simp only [Act.put, List.setIfInBounds_toArray, List.set_cons_zero, List.set_cons_succ])
        refine pure_ (i := 16) (N := some 116) (v := ?_) (a' := ?_) #[true, true, true, true, true, true, true, true, true, true, true, true, true, true, true, true, true, false, false, false, false, false] rfl rfl (any_of HT_.out (by kernel_rfl)) (fun _ _ _ h => h) (Or.inl ⟨by rfl, ?_⟩) ?_ ?_
        rotate_left
        · intro w'
          go_simp
          with_reducible rfl
        rotate_left
        · simp only [Act.put, List.setIfInBounds_toArray, List.set_cons_zero, List.set_cons_succ, i64_w, i32_w]
          rfl
        refine pure_ (i := 17) (N := some 117) (v := ?_) (a' := ?_) #[true, true, true, true, true, true, true, true, true, true, true, true, true, true, true, true, true, true, false, false, false, false] rfl rfl (any_of HT_.out (by kernel_rfl)) (fun _ _ _ h => h) (Or.inl ⟨by rfl, ?_⟩) ?_ ?_
        rotate_left
        · intro w'
          go_simp
          with_reducible rfl
        rotate_left
        · simp only [Act.put, List.setIfInBounds_toArray, List.set_cons_zero, List.set_cons_succ, i64_w, i32_w]
          rfl
        have z3 := (blk_cell MM.out.blk 3).trans rfl
        have y3 := blk_frozen MM.out.blk 3
        have z4 := (blk_cell (blk_set MM.out.blk 3 (.slice (some ⟨gE, 0, none⟩) (ends.length + 1) capE)) 4).trans rfl
        have y4 := blk_frozen (blk_set MM.out.blk 3 (.slice (some ⟨gE, 0, none⟩) (ends.length + 1) capE)) 4
        have hFin := Aside0.mk MM.out.done
        have hBel := Aside0.mk ((HH.out.setCell (p := ⟨g, 3, none⟩) MM.out.hg (.slice (some ⟨gE, 0, none⟩) (ends.length + 1) capE)).setCell (p := ⟨g, 4, none⟩) MM.out.hg (.slice (some ⟨gT, 0, none⟩) (trips.length + 1) capT))
        refine lastS_ (i := 18) (w1 := X11.setCell ⟨g, 3, none⟩ (.slice (some ⟨gE, 0, none⟩) (ends.length + 1) capE)) #[true, true, true, true, true, true, true, true, true, true, true, true, true, true, true, true, true, true, true, false, false, false] rfl rfl (one_of HT_.out (by kernel_rfl)) (by decide) (by rfl) ?_ ?_
        · clear hFin hBel HH MM z4 y4
          go_simp
        clear z3 y3 MM HH
        (try simp only [Act.put, List.setIfInBounds_toArray, List.set_cons_zero, List.set_cons_succ])
        generalize X11.setCell ⟨g, 3, none⟩ (.slice (some ⟨gE, 0, none⟩) (ends.length + 1) capE) = Y at *
        refine pure_ (i := 19) (N := some 118) (v := ?_) (a' := ?_) #[true, true, true, true, true, true, true, true, true, true, true, true, true, true, true, true, true, true, true, true, false, false] rfl rfl (any_of HT_.out (by kernel_rfl)) (fun _ _ _ h => h) (Or.inl ⟨by rfl, ?_⟩) ?_ ?_
        rotate_left
        · intro w'
          go_simp
          with_reducible rfl
        rotate_left
        · simp only [Act.put, List.setIfInBounds_toArray, List.set_cons_zero, List.set_cons_succ, i64_w, i32_w]
          rfl
        refine pure_ (i := 20) (N := some 119) (v := ?_) (a' := ?_) #[true, true, true, true, true, true, true, true, true, true, true, true, true, true, true, true, true, true, true, true, true, false] rfl rfl (any_of HT_.out (by kernel_rfl)) (fun _ _ _ h => h) (Or.inl ⟨by rfl, ?_⟩) ?_ ?_
        rotate_left
        · intro w'
          go_simp
          with_reducible rfl
        rotate_left
        · simp only [Act.put, List.setIfInBounds_toArray, List.set_cons_zero, List.set_cons_succ, i64_w, i32_w]
          rfl
        refine lastS_ (i := 21) (w1 := Y.setCell ⟨g, 4, none⟩ (.slice (some ⟨gT, 0, none⟩) (trips.length + 1) capT)) #[true, true, true, true, true, true, true, true, true, true, true, true, true, true, true, true, true, true, true, true, true, true] rfl rfl (one_of HT_.out (by kernel_rfl)) (by decide) (by rfl) ?_ ?_
        · clear hFin hBel
          go_simp
        clear z4 y4
        (try simp only [Act.put, List.setIfInBounds_toArray, List.set_cons_zero, List.set_cons_succ])
        refine done_ (done_of HT_.out (by kernel_rfl)) ?_
        try go_wp2_with (fail)
        go_end0
        exact ⟨rfl, hBel.out, _, _, by first | exact hFin.out | (rw [show Es.endN true = 1 from rfl]; exact hFin.out) | (rw [show Es.endN false = 0 from rfl]; exact hFin.out) | (rw [he]; rw [show Es.endN false = 0 from rfl]; exact hFin.out)⟩
end Go.Proofs.Ytmechelmnpoddaa.H7
