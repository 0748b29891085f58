/-
  The walks of the reference's start and of its chips one after the other, by contracts.
-/
import Derived.Test.YtmechelmnpoddaaHa
import Derived.Deep.RegionWith
namespace Go.Proofs.Ytmechelmnpoddaa.H7
open Go.RowKit Go.Proofs.YtmechelmnpoddaaW.PrintWords Go.Proofs.YtmechelmnpoddaaW.PrintLast Go.Proofs.YtmechelmnpoddaaW.PrintMore
open Go.Proofs.Ytmechelmnpoddaa.A7
open Es (nth)
set_option linter.unusedVariables false

variable {w : World} {base g b d inner gr cr gv cv nr nv : Nat} {ve vt vr vv : Value} {rot ends trips vis : List Nat}
/-- A number is appended to 'rotors'. -/
theorem EsAt.appR {w1 : World} {v1 : Value} {n : Nat} (h : EsAt w base g b d inner vr ve vt vv nr nv rot ends trips vis)
    {y : Int} (hown : w1.ownsRow base 3 1 v1 ((ints rot).length + 1) (nums .i64 (ints rot ++ [y]))) (hg : w.grownBy w1 vr.ownBlock) (hat : v1.ownBlock = vr.ownBlock ∨ ∃ b, v1.ownBlock = some b ∧ w.heap.size ≤ b) (hy : y = (n : Int)) :
    w1.heap[g]? = some (.cells #[.int .i64 (b : Int), .int .i64 (d : Int), .int .i64 (inner : Int), vr, ve, vt, vv] 58 (0, 0)) ∧
    EsAt (w1.setCell ⟨g, 3, none⟩ v1) base g b d inner v1 ve vt vv (nr + 1) nv (rot ++ [n]) ends trips vis := by
  have hb := blk_grown h.blk hg (own_ne h.r h.blk (by decide))
  have e1 : ints rot ++ [(n : Int)] = ints (rot ++ [n]) := by simp [ints]
  have e2 : (ints rot).length + 1 = nr + 1 := by rw [ints_length, row_len h.r]
  subst hy
  rw [e1, e2] at hown
  have k1 := own_other h.e hg (ne_other h.re)
  have k2 := own_other h.t hg (ne_other h.rt)
  have k3 := own_other h.v hg (ne_other h.rv)
  have q1 := own_ne k1 hb (by decide)
  have q2 := own_ne k2 hb (by decide)
  have q3 := own_ne k3 hb (by decide)
  have q4 := own_ne hown hb (by decide)
  refine ⟨hb, ?_, h.hg, row_far hown (fun e => q4 e.symm) _, row_far k1 (fun e => q1 e.symm) _, row_far k2 (fun e => q2 e.symm) _, row_far k3 (fun e => q3 e.symm) _, ne_append h.re hat h.e, ne_append h.rt hat h.t, ne_append h.rv hat h.v, h.et, h.ev, h.tv⟩
  have := blk_set hb 3 v1
  simpa using this
/-- The state as it is made. -/
theorem EsAt.made (W : World) (b d inner base : Nat) (hb : base ≤ W.heap.size) (hd : d ≤ 100) :
    EsAt ((W.alloc (.cells (madeCells #[.int .i64 0] (d + 1)) 3)).alloc (.cells #[.int .i64 (b : Int), .int .i64 (d : Int), .int .i64 (inner : Int), .slice none 0 0, .slice none 0 0, .slice none 0 0, .slice (some ⟨W.heap.size, 0, none⟩) (d + 1) (d + 1)] 58))
      base (W.heap.size + 1) b d inner (.slice none 0 0) (.slice none 0 0) (.slice none 0 0) (.slice (some ⟨W.heap.size, 0, none⟩) (d + 1) (d + 1)) 0 (d + 1) [] [] [] (List.replicate (d + 1) 0) where
  blk := by
    have := blk_new (W.alloc (.cells (madeCells #[.int .i64 0] (d + 1)) 3)) (.cells #[.int .i64 (b : Int), .int .i64 (d : Int), .int .i64 (inner : Int), .slice none 0 0, .slice none 0 0, .slice none 0 0, .slice (some ⟨W.heap.size, 0, none⟩) (d + 1) (d + 1)] 58)
    simpa using this
  hg := by omega
  r := own_nil _ _ _ _
  e := own_nil _ _ _ _
  t := own_nil _ _ _ _
  v := by
    have h := own_made W base 3 .i64 (d + 1) hb (by omega)
    have e : ints (List.replicate (d + 1) 0) = List.replicate (d + 1) (0 : Int) := by simp [ints]
    rw [e]
    exact h.alloc _
  re := ne_nil _
  rt := ne_nil _
  rv := ne_nil _
  et := ne_nil _
  ev := ne_nil _
  tv := ne_nil _

theorem EsAt.heap_eq {w' : World} (h : EsAt w base g b d inner vr ve vt vv nr nv rot ends trips vis) (e : w'.heap = w.heap) : EsAt w' base g b d inner vr ve vt vv nr nv rot ends trips vis :=
  ⟨by rw [e]; exact h.blk, h.hg, own_move h.r (fun k _ => by rw [e]), own_move h.e (fun k _ => by rw [e]), own_move h.t (fun k _ => by rw [e]), own_move h.v (fun k _ => by rw [e]), h.re, h.rt, h.rv, h.et, h.ev, h.tv⟩

set_option maxHeartbeats 4000000 in
set_option maxRecDepth 100000 in
theorem start_calls (kk b d inner k N p : Nat) (w : World) (hN : spec_esNodes.f kk (b : Int) (d : Int) = some (N : Int)) (hP : spec_esPower.f kk (b : Int) (d : Int) = some (p : Int)) (hNp : N = inner + p) (hN2 : N ≤ 130) (hd : d ≤ 100) (hk : k ≤ 3) :
    Calls Try.prog 83 #[.int .i64 (b : Int), .int .i64 (d : Int), .int .i64 (k : Int)] w fun e' w' => ∃ g vr vv, e' = .returned (.pointer (some ⟨g, 0, none⟩)) ∧ Below w.heap.size w w' ∧
      EsAt w' w.heap.size g b d inner vr (.slice none 0 0) (.slice none 0 0) vv inner (d + 1) (List.replicate inner k) [] [] (List.replicate (d + 1) 0) := by
  have HN := Aside0.mk hN
  have HP := Aside0.mk hP
  clear hN hP
  have hmk := print_make (P := Try.prog) 34 3 .i64 8 Try.underlying34 info3 (by decide) (d + 1) (by omega)
  rw [show ((d + 1 : Nat) : Int) = (d : Int) + 1 from by omega] at hmk
  have hw1 : IntKind.i64.wrap ((d : Int) + 1) = (d : Int) + 1 := IntWalk.i64_in _ (by omega)
  have hw2 : IntKind.i64.wrap ((N : Int) - (p : Int)) = (inner : Int) := by rw [show (N : Int) - (p : Int) = (inner : Int) from by omega]; exact IntWalk.i64_in _ (by omega)
  have hw3 : IntKind.i64.wrap (inner : Int) = (inner : Int) := IntWalk.i64_in _ (by omega)
  have HW3 := Aside0.mk hw3
  clear hw3
  have hu58 := Try.underlying58
  go_enter Try.func83, Try.ntmps83
  go_upto_region 1 with (fail)
  go_cut [7] (fun v7 wc => ∃ g vv, v7 = .pointer (some ⟨g, 0, none⟩) ∧ Aside0 (Below w.heap.size w wc) ∧ Aside0 (EsAt wc w.heap.size g b d inner (.slice none 0 0) (.slice none 0 0) (.slice none 0 0) vv 0 (d + 1) [] [] [] (List.replicate (d + 1) 0)))
  case first =>
    go_region_with (first | (go_at_call 55; (with_reducible refine (spec_esNodes.calls kk b d N _ HN.out).mono ?_); rintro e w' ⟨rfl, ⟨nd, rfl⟩⟩) | (go_at_call 59; (with_reducible refine (spec_esPower.calls kk b d p _ HP.out).mono ?_); rintro e w' ⟨rfl, ⟨nd, rfl⟩⟩))
    all_goals go_wp2_with (fail)
    all_goals go_meet
    case rel => exact ⟨_, _, rfl, ⟨by repeat (first | exact Below.refl _ _ | apply below_alloc | apply pw_below_drewN)⟩, ⟨by rw [HW3.out]; exact (EsAt.made w b d inner w.heap.size (Nat.le_refl _) hd).heap_eq rfl⟩⟩
    case rel => exact ⟨_, _, rfl, ⟨by repeat (first | exact Below.refl _ _ | apply below_alloc | apply pw_below_drewN)⟩, ⟨by rw [HW3.out]; exact (EsAt.made w b d inner w.heap.size (Nat.le_refl _) hd).heap_eq rfl⟩⟩
    case rel => exact ⟨_, _, rfl, ⟨by repeat (first | exact Below.refl _ _ | apply below_alloc | apply pw_below_drewN)⟩, ⟨by rw [HW3.out]; exact (EsAt.made w b d inner w.heap.size (Nat.le_refl _) hd).heap_eq rfl⟩⟩
  case rest =>
    obtain ⟨g, vv, rfl, HB, HF⟩ := hcut
    go_wp2_with (fail)
    go_loopg [8] inner (fun kq v8 wr => ∃ (i : Nat) (vr : Value), v8 = .int .i64 (i : Int) ∧ Aside0 (i + kq = inner) ∧ Aside0 (Below w.heap.size w wr) ∧ Aside0 (EsAt wr w.heap.size g b d inner vr (.slice none 0 0) (.slice none 0 0) vv i (d + 1) (List.replicate i k) [] [] (List.replicate (d + 1) 0)))
    case atStart => exact ⟨0, _, rfl, ⟨by omega⟩, HB, HF⟩
    case round =>
      clear HB HF
      obtain ⟨i, vr, rfl, HI, HB, HF⟩ := hrel
      have c2 := blk_cell HF.out.blk 2
      have c3 := blk_cell HF.out.blk 3
      simp at c2 c3
      by_cases hlt : i < inner
      · have hin : inner ≤ 200 := by omega
        have ws := HB.out.size
        have HO := HF.out.r
        have e1 : (ints (List.replicate i k)).length = i := by simp [ints]
        obtain ⟨A0, m0, rfl⟩ := own_slice HO
        have HO' : wr.ownsRow w.heap.size 3 1 (.slice A0 i m0) (ints (List.replicate i k)).length (nums .i64 (ints (List.replicate i k))) := by rw [e1]; exact HO
        have E1 := Aside0.mk e1
        clear e1 HO
        go_wp2_with (at_builtin; refine print_append_num (w0 := w) w.heap.size rfl (.tmp 35) (.tmp 37) 34 3 .i64 8 rfl Try.underlying34 info3 (by decide) _ (ints (List.replicate i k)) (k : Int) rfl rfl HO' HB.out ws (by rw [E1.out]; omega) ?_)
        intro v1 w1 hown hbel hg hat
        replace hown : w1.ownsRow w.heap.size 3 1 v1 ((ints (List.replicate i k)).length + 1) (nums .i64 (ints (List.replicate i k) ++ [(k : Int)])) := by simpa using hown
        have h4 := HF.out.appR (n := k) hown hg hat rfl
        rw [E1.out] at hown
        obtain ⟨A1, m1, rfl⟩ := own_slice hown
        obtain ⟨hb1, F1⟩ := h4
        have F1 := Aside0.mk F1
        have B1 := Aside0.mk (hbel.setCell (p := ⟨g, 3, none⟩) HF.out.hg (.slice A1 (i + 1) m1))
        clear hown hbel hg hat HO' E1 ws HF HB c2 c3
        have k3 := blk_cell hb1 3
        have z3 := blk_frozen hb1 3
        simp at k3
        clear hb1
        go_wp2_with (fail)
        have HK := HI.out
        go_roundg (gk - 1)
        case measure => omega
        case rel => exact ⟨i + 1, _, by go_num, ⟨by omega⟩, B1, ⟨by have := F1.out; rw [← List.replicate_succ'] at this; exact this⟩⟩
      · have hi : i = inner := by have := HI.out; omega
        subst hi
        go_wp2_with (fail)
        go_ret
        exact ⟨_, _, _, rfl, HB.out, HF.out⟩

/-- What the reference's chips leave: a new state. -/
def EsOut (w : World) (b d inner : Nat) (S : Es.St) (e' : Ending) (w' : World) : Prop := ∃ g vr ve vt vv, e' = .returned (.pointer (some ⟨g, 0, none⟩)) ∧ Below w.heap.size w w' ∧
      EsAt w' w.heap.size g b d inner vr ve vt vv inner (d + 1) S.rot S.ends S.trips S.vis

set_option maxHeartbeats 4000000 in
set_option maxRecDepth 100000 in
theorem go_calls (kk b d inner k N p n : Nat) (S : Es.St) (w : World) (hN : spec_esNodes.f kk (b : Int) (d : Int) = some (N : Int)) (hP : spec_esPower.f kk (b : Int) (d : Int) = some (p : Int)) (hNp : N = inner + p) (hN2 : N ≤ 130) (hd : d ≤ 90) (hk : k ≤ 3)
    (hb : b ≤ 3) (hb2 : 2 ≤ b) (hi0 : 0 < inner) (hn : n ≤ 1000) (hS : Es.chips b inner n (Es.start d inner k) = some S) :
    Calls Try.prog 63 #[.int .i64 (b : Int), .int .i64 (d : Int), .int .i64 (k : Int), .int .i64 (n : Int)] w (EsOut w b d inner S) := by
  have HS := Aside0.mk hS
  clear hS
  have HC := start_calls kk b d inner k N p w hN hP hNp hN2 (by omega) hk
  have HC := Aside0.mk HC
  clear hN hP
  go_enter Try.func63, Try.ntmps63
  go_wp2_with (go_at_call 83; refine HC.out.mono ?_; rintro e' w1 ⟨g, vr, vv, rfl, hB, hF⟩; have HB := Aside0.mk hB; have HF := Aside0.mk hF; clear hB hF)
  go_loopg [10] n (fun kq v10 wr => ∃ (i : Nat) (vr1 ve1 vt1 vv1 : Value) (s : Es.St), v10 = .int .i64 (i : Int) ∧ Aside0 (i + kq = n ∧ Es.chips b inner kq s = some S ∧ s.ends.length = i ∧ s.trips.length = i) ∧ Aside0 (Below w.heap.size w wr) ∧
    Aside0 (EsAt wr w.heap.size g b d inner vr1 ve1 vt1 vv1 inner (d + 1) s.rot s.ends s.trips s.vis))
  case atStart => exact ⟨0, _, _, _, _, Es.start d inner k, rfl, ⟨by omega, HS.out, rfl, rfl⟩, HB, HF⟩
  case round =>
    clear HB HF HS HC
    obtain ⟨i, vr1, ve1, vt1, vv1, s, rfl, HI, HB, HF⟩ := hrel
    by_cases hlt : i < n
    · obtain ⟨kq, rfl⟩ : ∃ m, gk = m + 1 := ⟨gk - 1, by have := HI.out.1; omega⟩
      have hc := HI.out.2.1
      simp only [Es.chips] at hc
      cases hch : Es.chip b inner s.rot s.vis with
      | none => rw [hch] at hc; cases hc
      | some q =>
      obtain ⟨e, st, rot1, vis1⟩ := q
      rw [hch] at hc
      have HC2 := Aside0.mk hc
      have HC1 := Aside0.mk hch
      clear hc hch
      go_wp2_with (go_at_call 84; refine (chip_calls w.heap.size g b d inner vr1 ve1 vt1 vv1 (d + 1) s.rot s.ends s.trips s.vis e st rot1 vis1 _ hb hb2 (by omega) hi0 (by omega) (by have := HI.out; omega) (by have := HI.out; omega) HF.out HC1.out).mono ?_; rintro e' w2 ⟨rfl, hB, ve2, vt2, hF⟩; have HB2 := Aside0.mk (HB.out.trans hB); have HF2 := Aside0.mk hF; clear hB hF)
      go_roundg kq
      case measure => omega
      case rel => exact ⟨i + 1, _, _, _, _, ⟨rot1, vis1, s.ends ++ [Es.endN e], s.trips ++ [st]⟩, by go_num, ⟨by have := HI.out; omega, HC2.out, by have := HI.out; simp; omega, by have := HI.out; simp; omega⟩, HB2, HF2⟩
    · have h0 : gk = 0 := by have := HI.out.1; omega
      subst h0
      have hs := HI.out.2.1
      simp only [Es.chips] at hs
      have hs := Option.some.inj hs
      subst hs
      go_wp2_with (fail)
      go_ret
      exact ⟨_, _, _, _, _, rfl, HB.out, HF.out⟩
end Go.Proofs.Ytmechelmnpoddaa.H7
