/-
  The walk of the reference's chip on a branching tree, by a contract.
-/
import Derived.Test.YtmechelmnpoddaaA7
import Derived.Test.YtmechelmnpoddaaEs
import Derived.BigRegion
import Derived.StillTailTactics
namespace Go.Proofs.Ytmechelmnpoddaa.H7
open Go.RowKit Go.Proofs.YtmechelmnpoddaaW.PrintWords Go.Proofs.YtmechelmnpoddaaW.PrintLast Go.Proofs.YtmechelmnpoddaaW.PrintMore
open Go.Proofs.Ytmechelmnpoddaa.A7
open Es (nth)

/-- The numbers of a list, as Go has them. -/
def ints (l : List Nat) : List Int := l.map Int.ofNat
theorem ints_length (l : List Nat) : (ints l).length = l.length := by simp [ints]
theorem rd_ints (l : List Nat) (i : Nat) : rd (ints l) (i : Int) = (nth l i : Nat) := by
  unfold rd ints nth
  rw [List.getD_eq_getElem?_getD, List.getElem?_map, Int.toNat_natCast, List.getD_eq_getElem?_getD]
  cases l[i]? <;> rfl
theorem ints_set (l : List Nat) (i r : Nat) : (ints l).set i (r : Int) = ints (l.set i r) := by simp [ints, List.map_set]

/-- A row's cell, read. -/
theorem row_at {W : World} {base g n cap : Nat} {l : List Nat} (h : W.ownsRow base 3 1 (.slice (some ⟨g, 0, none⟩) n cap) n (nums .i64 (ints l))) (i : Nat) (hi : i < n) :
    W.cell? ⟨g, i, none⟩ = some (.int .i64 (nth l i : Int)) ∧ W.frozen? ⟨g, i, none⟩ = false := by
  have := own_at h (i : Int) (by omega) (by omega)
  rw [rd_ints, Int.toNat_natCast] at this
  exact this
/-- A row's cell, written. -/
theorem row_set {W : World} {base g n cap : Nat} {l : List Nat} (h : W.ownsRow base 3 1 (.slice (some ⟨g, 0, none⟩) n cap) n (nums .i64 (ints l))) (i x : Nat) :
    (W.setCell ⟨g, i, none⟩ (.int .i64 (x : Int))).ownsRow base 3 1 (.slice (some ⟨g, 0, none⟩) n cap) n (nums .i64 (ints (l.set i x))) := by
  have := (own_store h (i : Int) (x : Int)).1
  rw [Int.toNat_natCast, ints_set] at this
  exact this
theorem row_far {W : World} {base g m n : Nat} {v : Value} {xs : List Value} (h : W.ownsRow base 3 1 v n xs) (hne : v.ownBlock ≠ some g) (u : Value) :
    (W.setCell ⟨g, m, none⟩ u).ownsRow base 3 1 v n xs := ownsRow_setCell_other h hne u
theorem row_len {W : World} {base n : Nat} {v : Value} {l : List Nat} (h : W.ownsRow base 3 1 v n (nums .i64 (ints l))) : l.length = n := by
  have := h.1; simp [nums, ints] at this; exact this

/-- The state of the reference's run at block g: four rows of the call's own, each apart from the others. -/
structure EsAt (w : World) (base g : Nat) (b d inner : Nat) (vr ve vt vv : Value) (nr nv : Nat) (rot ends trips vis : List Nat) : Prop where
  blk : w.heap[g]? = some (.cells #[.int .i64 (b : Int), .int .i64 (d : Int), .int .i64 (inner : Int), vr, ve, vt, vv] 58 (0, 0))
  hg : base ≤ g
  r : w.ownsRow base 3 1 vr nr (nums .i64 (ints rot))
  e : w.ownsRow base 3 1 ve ends.length (nums .i64 (ints ends))
  t : w.ownsRow base 3 1 vt trips.length (nums .i64 (ints trips))
  v : w.ownsRow base 3 1 vv nv (nums .i64 (ints vis))
  re : NeRow vr ve
  rt : NeRow vr vt
  rv : NeRow vr vv
  et : NeRow ve vt
  ev : NeRow ve vv
  tv : NeRow vt vv

variable {w : World} {base g b d inner gr cr gv cv nr nv : Nat} {ve vt vr vv : Value} {rot ends trips vis : List Nat}
theorem EsAt.gr_ne (h : EsAt w base g b d inner (.slice (some ⟨gr, 0, none⟩) nr cr) ve vt vv nr nv rot ends trips vis) : gr ≠ g := by
  have := own_ne h.r h.blk (by decide)
  rintro rfl
  exact this rfl
theorem EsAt.gv_ne (h : EsAt w base g b d inner vr ve vt (.slice (some ⟨gv, 0, none⟩) nv cv) nr nv rot ends trips vis) : gv ≠ g := by
  have := own_ne h.v h.blk (by decide)
  rintro rfl
  exact this rfl
theorem EsAt.gr_gv (h : EsAt w base g b d inner (.slice (some ⟨gr, 0, none⟩) nr cr) ve vt (.slice (some ⟨gv, 0, none⟩) nv cv) nr nv rot ends trips vis) : gr ≠ gv := by
  have := h.rv gr rfl
  rintro rfl
  exact this rfl
/-- A rotor is written. -/
theorem EsAt.setR (h : EsAt w base g b d inner (.slice (some ⟨gr, 0, none⟩) nr cr) ve vt vv nr nv rot ends trips vis) (i x : Nat) :
    EsAt (w.setCell ⟨gr, i, none⟩ (.int .i64 (x : Int))) base g b d inner (.slice (some ⟨gr, 0, none⟩) nr cr) ve vt vv nr nv (rot.set i x) ends trips vis where
  blk := blk_far h.blk (p := ⟨gr, i, none⟩) (fun e => h.gr_ne e.symm) _
  hg := h.hg
  r := row_set h.r i x
  e := row_far h.e (h.re gr rfl) _
  t := row_far h.t (h.rt gr rfl) _
  v := row_far h.v (h.rv gr rfl) _
  re := h.re
  rt := h.rt
  rv := h.rv
  et := h.et
  ev := h.ev
  tv := h.tv
/-- A number of visits is written. -/
theorem EsAt.setV (h : EsAt w base g b d inner vr ve vt (.slice (some ⟨gv, 0, none⟩) nv cv) nr nv rot ends trips vis) (i x : Nat) :
    EsAt (w.setCell ⟨gv, i, none⟩ (.int .i64 (x : Int))) base g b d inner vr ve vt (.slice (some ⟨gv, 0, none⟩) nv cv) nr nv rot ends trips (vis.set i x) where
  blk := blk_far h.blk (p := ⟨gv, i, none⟩) (fun e => h.gv_ne e.symm) _
  hg := h.hg
  r := row_far h.r (fun e => (ne_symm h.rv) gv rfl e) _
  e := row_far h.e (fun e => (ne_symm h.ev) gv rfl e) _
  t := row_far h.t (fun e => (ne_symm h.tv) gv rfl e) _
  v := row_set h.v i x
  re := h.re
  rt := h.rt
  rv := h.rv
  et := h.et
  ev := h.ev
  tv := h.tv

theorem EsAt.drew (h : EsAt w base g b d inner vr ve vt vv nr nv rot ends trips vis) : EsAt w.drew base g b d inner vr ve vt vv nr nv rot ends trips vis :=
  ⟨h.blk, h.hg, h.r, h.e, h.t, h.v, h.re, h.rt, h.rv, h.et, h.ev, h.tv⟩
/-- A number is appended to 'ends'. -/
theorem EsAt.appE {w1 : World} {v1 : Value} {n : Nat} (h : EsAt w base g b d inner vr ve vt vv nr nv rot ends trips vis)
    {y : Int} (hown : w1.ownsRow base 3 1 v1 ((ints ends).length + 1) (nums .i64 (ints ends ++ [y]))) (hg : w.grownBy w1 ve.ownBlock) (hat : v1.ownBlock = ve.ownBlock ∨ ∃ b, v1.ownBlock = some b ∧ w.heap.size ≤ b) (hy : y = (n : Int)) :
    w1.heap[g]? = some (.cells #[.int .i64 (b : Int), .int .i64 (d : Int), .int .i64 (inner : Int), vr, ve, vt, vv] 58 (0, 0)) ∧
    EsAt (w1.setCell ⟨g, 4, none⟩ v1) base g b d inner vr v1 vt vv nr nv rot (ends ++ [n]) trips vis := by
  have hb := blk_grown h.blk hg (own_ne h.e h.blk (by decide))
  have e1 : ints ends ++ [(n : Int)] = ints (ends ++ [n]) := by simp [ints]
  have e2 : (ints ends).length + 1 = (ends ++ [n]).length := by simp [ints]
  subst hy
  rw [e1, e2] at hown
  have k1 := own_other h.r hg (ne_other (ne_symm h.re))
  have k2 := own_other h.t hg (ne_other h.et)
  have k3 := own_other h.v hg (ne_other h.ev)
  have q1 := own_ne k1 hb (by decide)
  have q2 := own_ne k2 hb (by decide)
  have q3 := own_ne k3 hb (by decide)
  have q4 := own_ne hown hb (by decide)
  refine ⟨hb, ?_, h.hg, row_far k1 (fun e => q1 e.symm) _, row_far hown (fun e => q4 e.symm) _, row_far k2 (fun e => q2 e.symm) _, row_far k3 (fun e => q3 e.symm) _, ne_append' h.re hat h.r, h.rt, h.rv, ne_append h.et hat h.t, ne_append h.ev hat h.v, h.tv⟩
  have := blk_set hb 4 v1
  simpa using this
/-- A number is appended to 'trips'. -/
theorem EsAt.appT {w1 : World} {v1 : Value} {n : Nat} (h : EsAt w base g b d inner vr ve vt vv nr nv rot ends trips vis)
    {y : Int} (hown : w1.ownsRow base 3 1 v1 ((ints trips).length + 1) (nums .i64 (ints trips ++ [y]))) (hg : w.grownBy w1 vt.ownBlock) (hat : v1.ownBlock = vt.ownBlock ∨ ∃ b, v1.ownBlock = some b ∧ w.heap.size ≤ b) (hy : y = (n : Int)) :
    w1.heap[g]? = some (.cells #[.int .i64 (b : Int), .int .i64 (d : Int), .int .i64 (inner : Int), vr, ve, vt, vv] 58 (0, 0)) ∧
    EsAt (w1.setCell ⟨g, 5, none⟩ v1) base g b d inner vr ve v1 vv nr nv rot ends (trips ++ [n]) vis := by
  have hb := blk_grown h.blk hg (own_ne h.t h.blk (by decide))
  have e1 : ints trips ++ [(n : Int)] = ints (trips ++ [n]) := by simp [ints]
  have e2 : (ints trips).length + 1 = (trips ++ [n]).length := by simp [ints]
  subst hy
  rw [e1, e2] at hown
  have k1 := own_other h.r hg (ne_other (ne_symm h.rt))
  have k2 := own_other h.e hg (ne_other (ne_symm h.et))
  have k3 := own_other h.v hg (ne_other h.tv)
  have q1 := own_ne k1 hb (by decide)
  have q2 := own_ne k2 hb (by decide)
  have q3 := own_ne k3 hb (by decide)
  have q4 := own_ne hown hb (by decide)
  refine ⟨hb, ?_, h.hg, row_far k1 (fun e => q1 e.symm) _, row_far k2 (fun e => q2 e.symm) _, row_far hown (fun e => q4 e.symm) _, row_far k3 (fun e => q3 e.symm) _, h.re, ne_append' h.rt hat h.r, h.rv, ne_append' h.et hat h.e, h.ev, ne_append h.tv hat h.v⟩
  have := blk_set hb 5 v1
  simpa using this
theorem rot_step (x b : Nat) : ∃ r : Nat, ((x : Int) + 1) % ((b : Int) + 1) = (r : Int) ∧ (x + 1) % (b + 1) = r ∧ r ≤ b := by
  refine ⟨(x + 1) % (b + 1), by rw [Int.natCast_emod]; rfl, rfl, ?_⟩
  have := Nat.mod_lt (x + 1) (show b + 1 > 0 by omega)
  omega
theorem mul_small {a b : Nat} (ha : a ≤ 200) (hb : b ≤ 3) : 0 ≤ (a : Int) * (b : Int) ∧ (a : Int) * (b : Int) ≤ 600 := by
  have h : a * b ≤ 200 * 3 := Nat.mul_le_mul ha hb
  have e : ((a * b : Nat) : Int) = (a : Int) * (b : Int) := Int.natCast_mul a b
  omega

set_option maxHeartbeats 4000000 in
set_option maxRecDepth 100000 in
theorem chip_calls (base g b d inner : Nat) (vr ve vt vv : Value) (nv : Nat) (rot ends trips vis : List Nat) (e : Bool) (s : Nat) (rot1 vis1 : List Nat) (w : World)
    (hb : b ≤ 3) (hb2 : 2 ≤ b) (hi : inner ≤ 130) (hi0 : 0 < inner) (hnv : nv ≤ 100) (hel : ends.length ≤ 100000) (htl : trips.length ≤ 100000)
    (H : EsAt w base g b d inner vr ve vt vv inner nv rot ends trips vis) (hrun : Es.chip b inner rot vis = some (e, s, rot1, vis1)) :
    Calls Try.prog 84 #[.pointer (some ⟨g, 0, none⟩)] w fun e' w' => e' = .returned (.tuple #[]) ∧ Below base w w' ∧
      ∃ ve1 vt1, EsAt w' base g b d inner vr ve1 vt1 vv inner nv rot1 (ends ++ [Es.endN e]) (trips ++ [s]) vis1 := by
  have hrun' : 0 < vis.length ∧ nth vis 0 < 100000 ∧ Es.run b inner 5000 0 0 0 rot (vis.set 0 (nth vis 0 + 1)) = some (e, s, rot1, vis1) := by
    unfold Es.chip at hrun
    split at hrun
    · rename_i h; exact ⟨h.1, h.2, hrun⟩
    · cases hrun
  clear hrun
  obtain ⟨hv0', hv1, hrun⟩ := hrun'
  have R0 := Aside0.mk hrun
  clear hrun
  have F := Aside0.mk H
  have hv0 : 0 < nv := by rw [← row_len H.v]; exact hv0'
  clear H hv0'
  obtain ⟨gr, cr, rfl, hgr, hcr⟩ := F.out.r.form (by omega)
  obtain ⟨gv, cv, rfl, hgv, hcv⟩ := F.out.v.form (by omega)
  have c6 := blk_cell F.out.blk 6
  have fz : ∀ i, w.frozen? ⟨g, i, none⟩ = false := blk_frozen F.out.blk
  have cv0 := (row_at F.out.v 0 (by omega)).1
  have fv0 := (row_at F.out.v 0 (by omega)).2
  have n1 := F.out.gr_ne
  have n2 := F.out.gv_ne
  have n3 := F.out.gr_gv
  simp at c6
  go_enter Try.func84, Try.ntmps84
  go_wp2_with (fail)
  clear c6 fz cv0 fv0
  have F1 := Aside0.mk (F.out.setV 0 (nth vis 0 + 1))
  have BW := Aside0.mk ((Below.refl base w).setCell (p := ⟨gv, 0, none⟩) hgv (.int .i64 ((nth vis 0 : Int) + 1)))
  rw [show ((nth vis 0 + 1 : Nat) : Int) = (nth vis 0 : Int) + 1 from by omega] at F1
  go_loopg [2, 3, 4] 5000 (fun kq v2 v3 v4 wr => ∃ (at_ lv : Int) (st : Nat) (rot2 vis2 : List Nat), v2 = .int .i64 at_ ∧ v3 = .int .i64 lv ∧ v4 = .int .i64 (st : Int) ∧
    Aside0 ((∃ a l : Nat, at_ = (a : Int) ∧ lv = (l : Int) ∧ Es.run b inner kq a l st rot2 vis2 = some (e, s, rot1, vis1)) ∨ (at_ = -1 ∧ lv = -1 ∧ e = false ∧ s = st ∧ rot1 = rot2 ∧ vis1 = vis2)) ∧
    Aside0 (EsAt wr base g b d inner (.slice (some ⟨gr, 0, none⟩) inner cr) ve vt (.slice (some ⟨gv, 0, none⟩) nv cv) inner nv rot2 ends trips vis2) ∧ Aside0 (Below base w wr))
  case atStart => exact ⟨0, 0, 0, rot, _, rfl, rfl, rfl, ⟨.inl ⟨0, 0, rfl, rfl, R0.out⟩⟩, F1, BW⟩
  case round =>
    clear F F1 BW R0
    obtain ⟨at_, lv, st, rot2, vis2, rfl, rfl, rfl, HR, HF, HB⟩ := hrel
    rcases HR.out with ⟨a, l, rfl, rfl, hr⟩ | ⟨rfl, rfl, he, hs, h1, h2⟩
    · clear HR
      have c0 := blk_cell HF.out.blk 0
      have c2 := blk_cell HF.out.blk 2
      have c3 := blk_cell HF.out.blk 3
      have c6 := blk_cell HF.out.blk 6
      simp at c0 c2 c3 c6
      cases gk with
      | zero => exact absurd hr (by simp [Es.run])
      | succ k =>
      simp only [Es.run] at hr
      by_cases h1 : a < inner
      · rw [if_pos h1] at hr
        by_cases h2 : st < 100000 ∧ nth rot2 a ≤ b
        · rw [if_pos h2] at hr
          obtain ⟨h2, h3⟩ := h2
          have ca := (row_at HF.out.r a h1).1
          have fa := (row_at HF.out.r a h1).2
          have hA := Aside0.mk hr
          clear hr
          go_wp2_with (fail)
          go_region
          obtain ⟨r, er, er', hrb⟩ := rot_step (nth rot2 a) b
          rw [er'] at hA
          simp only [er]
          clear er er'
          have ER := Aside0.mk (HF.out.setR a r).drew
          have BR := Aside0.mk ((HB.out.setCell (p := ⟨gr, a, none⟩) hgr (.int .i64 (r : Int))).drew)
          have hab := mul_small (a := a) (b := b) (by omega) hb
          by_cases h4 : 0 < r
          · have hr := hA.out
            rw [if_pos h4] at hr
            by_cases h5 : l + 1 < vis2.length ∧ nth vis2 (l + 1) < 100000
            · rw [if_pos h5] at hr
              have hA2 := Aside0.mk hr
              rw [row_len HF.out.v] at h5
              have cl := (row_at HF.out.v (l + 1) h5.1).1
              have fl := (row_at HF.out.v (l + 1) h5.1).2
              obtain ⟨h6, h7⟩ := h5
              clear hr hA
              go_wp2_with (fail)
              go_roundg k
              case measure => omega
              case rel => exact ⟨_, _, st + 1, _, _, rfl, rfl, by go_num, ⟨.inl ⟨_, _, (by push_cast; rfl), (by push_cast; rfl), hA2.out⟩⟩, ⟨by have := ER.out.setV (l + 1) (nth vis2 (l + 1) + 1); exact this⟩, ⟨by have := BR.out.setCell (p := ⟨gv, l + 1, none⟩) hgv (.int .i64 ((nth vis2 (l + 1) + 1 : Nat) : Int)); exact this⟩⟩
            · rw [if_neg h5] at hr; cases hr
          · have hr := hA.out
            rw [if_neg h4] at hr
            by_cases h8 : a = 0
            · rw [if_pos h8] at hr
              subst h8
              by_cases h9 : l = 0
              · rw [if_pos h9] at hr
                subst h9
                have hA2 := Aside0.mk hr
                clear hr hA
                go_wp2_with (fail)
                go_roundg k
                case measure => omega
                case rel => exact ⟨-1, -1, st + 1, _, _, rfl, rfl, by go_num, ⟨.inr ⟨rfl, rfl, by have := hA2.out; simp at this; simp [this]⟩⟩, ⟨ER.out⟩, BR⟩
              · rw [if_neg h9] at hr; cases hr
            · rw [if_neg h8] at hr
              by_cases h10 : 0 < l ∧ l - 1 < vis2.length ∧ nth vis2 (l - 1) < 100000
              · rw [if_pos h10] at hr
                have hA2 := Aside0.mk hr
                rw [row_len HF.out.v] at h10
                have cl := (row_at HF.out.v (l - 1) h10.2.1).1
                have fl := (row_at HF.out.v (l - 1) h10.2.1).2
                obtain ⟨h5, h6, h7⟩ := h10
                have hd : (((a - 1) / b : Nat) : Int) = ((a : Int) - 1) / (b : Int) := by rw [Int.natCast_ediv, Int.natCast_sub (by omega)]; rfl
                have hl1 : ((l - 1 : Nat) : Int) = (l : Int) - 1 := by omega
                have HD := Aside0.mk hd
                have HL1 := Aside0.mk hl1
                clear hr hA hd hl1
                go_wp2_with (fail)
                go_roundg k
                case measure => omega
                case rel => exact ⟨_, _, st + 1, _, _, rfl, rfl, by go_num, ⟨.inl ⟨_, _, HD.out.symm, HL1.out.symm, hA2.out⟩⟩, ⟨by have := ER.out.setV (l - 1) (nth vis2 (l - 1) + 1); exact this⟩, ⟨by have := BR.out.setCell (p := ⟨gv, l - 1, none⟩) hgv (.int .i64 ((nth vis2 (l - 1) + 1 : Nat) : Int)); exact this⟩⟩
              · rw [if_neg h10] at hr; cases hr
        · rw [if_neg h2] at hr; cases hr
      · rw [if_neg h1] at hr
        obtain ⟨rfl, rfl, rfl, rfl⟩ : true = e ∧ st = s ∧ rot2 = rot1 ∧ vis2 = vis1 := by simpa using hr
        clear hr
        have c4 := blk_cell HF.out.blk 4
        simp at c4
        have ws : base ≤ wr.heap.size := by have := HB.out.size; omega
        have HO := HF.out.e
        rw [← ints_length] at HO
        go_wp2_with (at_builtin; refine print_append_num (w0 := w) base rfl (.tmp 94) (.tmp 96) 34 3 .i64 8 rfl Try.underlying34 info3 (by decide) ve (ints ends) ((1 : Nat) : Int) rfl rfl HO HB.out ws (by rw [ints_length]; omega) ?_)
        intro v1 w1 hown hbel hg hat
        replace hown : w1.ownsRow base 3 1 v1 ((ints ends).length + 1) (nums .i64 (ints ends ++ [1])) := by simpa using hown
        obtain ⟨A1, m1, rfl⟩ := own_slice hown
        obtain ⟨hb1, F1⟩ := HF.out.appE (n := 1) hown hg hat rfl
        have B1 := Aside0.mk (hbel.setCell (p := ⟨g, 4, none⟩) HF.out.hg (.slice A1 ((ints ends).length + 1) m1))
        have F1 := Aside0.mk F1
        clear hown hbel hg hat HO ws
        have k4 := blk_cell hb1 4
        have z4 := blk_frozen hb1 4
        simp at k4
        clear hb1
        go_upto_region 19 with (fail)
        generalize w1.setCell ⟨g, 4, none⟩ (Value.slice A1 ((ints ends).length + 1) m1) = W2 at *
        clear k4 z4 c0 c2 c3 c4 c6 HF HB
        have c5 := blk_cell F1.out.blk 5
        simp at c5
        have ws : base ≤ W2.heap.size := by have := B1.out.size; omega
        have HO := F1.out.t
        rw [← ints_length] at HO
        go_wp2_with (at_builtin; refine print_append_num (w0 := w) base rfl (.tmp 104) (.tmp 106) 34 3 .i64 8 rfl Try.underlying34 info3 (by decide) vt (ints trips) (st : Int) rfl rfl HO B1.out ws (by rw [ints_length]; omega) ?_)
        intro v2 w2 hown hbel hg hat
        replace hown : w2.ownsRow base 3 1 v2 ((ints trips).length + 1) (nums .i64 (ints trips ++ [(st : Int)])) := by simpa using hown
        obtain ⟨A2, m2, rfl⟩ := own_slice hown
        obtain ⟨hb2, F2⟩ := F1.out.appT (n := st) hown hg hat rfl
        have B2 := Aside0.mk (hbel.setCell (p := ⟨g, 5, none⟩) F1.out.hg (.slice A2 ((ints trips).length + 1) m2))
        have F2 := Aside0.mk F2
        clear hown hbel hg hat HO ws
        have k5 := blk_cell hb2 5
        have z5 := blk_frozen hb2 5
        simp at k5
        clear hb2
        go_wp2_with (fail)
        go_end0
        exact ⟨rfl, B2.out, _, _, F2.out⟩
    · clear HR
      have HE := Aside0.mk he
      obtain rfl := hs
      obtain rfl := h1
      obtain rfl := h2
      clear he
      have c0 := blk_cell HF.out.blk 0
      have c2 := blk_cell HF.out.blk 2
      have c3 := blk_cell HF.out.blk 3
      have c6 := blk_cell HF.out.blk 6
      simp at c0 c2 c3 c6
      have c4 := blk_cell HF.out.blk 4
      simp at c4
      have ws : base ≤ wr.heap.size := by have := HB.out.size; omega
      have HO := HF.out.e
      rw [← ints_length] at HO
      go_wp2_with (at_builtin; refine print_append_num (w0 := w) base rfl (.tmp 94) (.tmp 96) 34 3 .i64 8 rfl Try.underlying34 info3 (by decide) ve (ints ends) ((0 : Nat) : Int) rfl rfl HO HB.out ws (by rw [ints_length]; omega) ?_)
      intro v1 w1 hown hbel hg hat
      replace hown : w1.ownsRow base 3 1 v1 ((ints ends).length + 1) (nums .i64 (ints ends ++ [0])) := by simpa using hown
      obtain ⟨A1, m1, rfl⟩ := own_slice hown
      obtain ⟨hb1, F1⟩ := HF.out.appE (n := 0) hown hg hat rfl
      have B1 := Aside0.mk (hbel.setCell (p := ⟨g, 4, none⟩) HF.out.hg (.slice A1 ((ints ends).length + 1) m1))
      have F1 := Aside0.mk F1
      clear hown hbel hg hat HO ws
      have k4 := blk_cell hb1 4
      have z4 := blk_frozen hb1 4
      simp at k4
      clear hb1
      go_upto_region 19 with (fail)
      generalize w1.setCell ⟨g, 4, none⟩ (Value.slice A1 ((ints ends).length + 1) m1) = W2 at *
      clear k4 z4 c0 c2 c3 c4 c6 HF HB
      have c5 := blk_cell F1.out.blk 5
      simp at c5
      have ws : base ≤ W2.heap.size := by have := B1.out.size; omega
      have HO := F1.out.t
      rw [← ints_length] at HO
      go_wp2_with (at_builtin; refine print_append_num (w0 := w) base rfl (.tmp 104) (.tmp 106) 34 3 .i64 8 rfl Try.underlying34 info3 (by decide) vt (ints trips) (s : Int) rfl rfl HO B1.out ws (by rw [ints_length]; omega) ?_)
      intro v2 w2 hown hbel hg hat
      replace hown : w2.ownsRow base 3 1 v2 ((ints trips).length + 1) (nums .i64 (ints trips ++ [(s : Int)])) := by simpa using hown
      obtain ⟨A2, m2, rfl⟩ := own_slice hown
      obtain ⟨hb2, F2⟩ := F1.out.appT (n := s) hown hg hat rfl
      have B2 := Aside0.mk (hbel.setCell (p := ⟨g, 5, none⟩) F1.out.hg (.slice A2 ((ints trips).length + 1) m2))
      have F2 := Aside0.mk F2
      clear hown hbel hg hat HO ws
      have k5 := blk_cell hb2 5
      have z5 := blk_frozen hb2 5
      simp at k5
      clear hb2
      go_wp2_with (fail)
      go_end0
      obtain rfl := HE.out
      exact ⟨rfl, B2.out, _, _, F2.out⟩
end Go.Proofs.Ytmechelmnpoddaa.H7
