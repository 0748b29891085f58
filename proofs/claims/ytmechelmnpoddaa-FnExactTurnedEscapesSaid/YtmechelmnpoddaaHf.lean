/-
  The walk of the program's forestOf, by contracts.
-/
import Derived.Test.YtmechelmnpoddaaHr
namespace Go.Proofs.Ytmechelmnpoddaa.H7
open Go.RowKit Go.Proofs.YtmechelmnpoddaaW.PrintWords Go.Proofs.YtmechelmnpoddaaW.PrintLast Go.Proofs.YtmechelmnpoddaaW.PrintMore
open Go.Proofs.Ytmechelmnpoddaa.A7
open Es (nth)
set_option linter.unusedVariables false
set_option linter.unusedSimpArgs false

theorem FoAt.made {W : World} {base b d inner k : Nat} {vr : Value} {gv : Nat} (hb : base ≤ W.heap.size) (hr : W.ownsRow base 3 1 vr inner (nums .i64 (ints (List.replicate inner k))))
    (hv : W.ownsRow base 3 1 (.slice (some ⟨gv, 0, none⟩) (d + 1) (d + 1)) (d + 1) (nums .i64 (List.replicate (d + 1) 0))) (hne : NeRow vr (.slice (some ⟨gv, 0, none⟩) (d + 1) (d + 1))) :
    FoAt (W.alloc (.cells #[.int .i64 (b : Int), .int .i64 (d : Int), vr, .slice none 0 0, .slice none 0 0, .slice (some ⟨gv, 0, none⟩) (d + 1) (d + 1)] 67)) base W.heap.size b d vr (.slice none 0 0) (.slice none 0 0) (.slice (some ⟨gv, 0, none⟩) (d + 1) (d + 1)) inner (d + 1) (List.replicate inner k) [] [] (List.replicate (d + 1) 0) where
  blk := by simpa using blk_new W (.cells #[.int .i64 (b : Int), .int .i64 (d : Int), vr, .slice none 0 0, .slice none 0 0, .slice (some ⟨gv, 0, none⟩) (d + 1) (d + 1)] 67)
  hg := hb
  r := hr.alloc _
  e := own_nil _ _ _ _
  t := own_nil _ _ _ _
  v := by
    have e : ints (List.replicate (d + 1) 0) = List.replicate (d + 1) (0 : Int) := by simp [ints]
    rw [e]
    exact hv.alloc _
  re := ne_symm (ne_nil _)
  rt := ne_symm (ne_nil _)
  rv := hne
  et := ne_nil _
  ev := ne_nil _
  tv := ne_nil _

/-- What the program's chips leave: a new forest. -/
def FoOut (w : World) (b d inner : Nat) (S : Es.St) (e' : Ending) (w' : World) : Prop := ∃ g vr ve vt vv, e' = .returned (.tuple #[.pointer (some ⟨g, 0, none⟩), .bool true]) ∧ Below w.heap.size w w' ∧
      FoAt w' w.heap.size g b d vr ve vt vv inner (d + 1) S.rot S.ends S.trips S.vis

theorem pay_in (a lo hi : Int) (x : Bool) (w : World) (h : impl_in.f a lo hi = some x) : Calls Try.prog 73 #[.int .i64 a, .int .i64 lo, .int .i64 hi] w fun e w' => e = .returned (.bool x) ∧ ∃ m, w' = w.drewN m :=
  (impl_in.calls a lo hi x w h).mono fun e w' h => ⟨h.1, h.2.out⟩
set_option maxHeartbeats 4000000 in
set_option maxRecDepth 100000 in
theorem forest_no (a0 a1 a2 a3 : Int) (x y z : Bool) (w : World) (hx : impl_isBranching.f 30 a0 a1 = some x) (hy : impl_in.f a2 0 a0 = some y) (hz : impl_in.f a3 0 200 = some z) (hno : (x && y && z) = false) :
    Calls Try.prog 66 #[.int .i64 a0, .int .i64 a1, .int .i64 a2, .int .i64 a3] w fun e w' => e = .returned (.tuple #[.pointer none, .bool false]) ∧ Below w.heap.size w w' := by
  have HX := Aside0.mk hx
  have HY := Aside0.mk hy
  have HZ := Aside0.mk hz
  clear hx hy hz
  cases x <;> cases y <;> cases z <;> first | (exfalso; exact absurd hno (by decide)) | skip
  all_goals clear hno
  all_goals go_enter Try.func66, Try.ntmps66
  all_goals go_wp2_with (first | (go_at_call 56; (with_reducible refine (impl_isBranching.calls 30 a0 a1 _ _ HX.out).mono ?_); rintro e w' ⟨rfl, ⟨nd, rfl⟩⟩) | (go_at_call 73; first | ((with_reducible refine (pay_in a2 0 a0 _ _ HY.out).mono ?_); rintro e w' ⟨rfl, ⟨nd, rfl⟩⟩) | ((with_reducible refine (pay_in a3 0 200 _ _ HZ.out).mono ?_); rintro e w' ⟨rfl, ⟨nd, rfl⟩⟩)))
  all_goals go_ret2
  all_goals exact ⟨rfl, by repeat (first | exact Below.refl _ _ | apply pw_below_drewN)⟩

theorem box_new (W : World) (v : Value) : (W.alloc (.cells #[v] 3)).cell? ⟨W.heap.size, 0, none⟩ = some v := (blk_cell (blk_new _ _) 0).trans rfl
theorem box_new' (W : World) (v : Value) (o : Obj) : ((W.alloc o).alloc (.cells #[v] 3)).cell? ⟨W.heap.size + 1, 0, none⟩ = some v := by
  have := box_new (W.alloc o) v
  rwa [show (W.alloc o).heap.size = W.heap.size + 1 by simp] at this
theorem own_madeZ (W : World) (base d : Nat) (hb : base ≤ W.heap.size) (hd : d ≤ 90) : (W.alloc (.cells (madeCells #[.int .i64 0] (d + 1)) 3)).ownsRow base 3 1 (.slice (some ⟨W.heap.size, 0, none⟩) (d + 1) (d + 1)) (d + 1) (nums .i64 (List.replicate (d + 1) 0)) :=
  own_made W base 3 .i64 (d + 1) hb (by omega)
theorem own_madeZ' (W : World) (o : Obj) (base d : Nat) (hb : base ≤ W.heap.size) (hd : d ≤ 90) : ((W.alloc o).alloc (.cells (madeCells #[.int .i64 0] (d + 1)) 3)).ownsRow base 3 1 (.slice (some ⟨W.heap.size + 1, 0, none⟩) (d + 1) (d + 1)) (d + 1) (nums .i64 (List.replicate (d + 1) 0)) := by
  have := own_madeZ (W.alloc o) base d (by simp; omega) hd
  rwa [show (W.alloc o).heap.size = W.heap.size + 1 by simp] at this
/-- The list is made behind the copy of the rotor. -/
theorem fo_after {w X w5 wc : World} {b d inner k g5 c5 g : Nat} (hw : Below w.heap.size w X) (hd : d ≤ 90) (hO : w5.ownsRow X.heap.size 3 1 (.slice (some ⟨g5, 0, none⟩) inner c5) inner (nums .i64 (ints (List.replicate inner k)))) (hB : Below X.heap.size X w5)
    (hg : g = w5.heap.size + 1) (e : wc = ((w5.alloc (.cells (madeCells #[.int .i64 0] (d + 1)) 3)).alloc (.cells #[.int .i64 (b : Int), .int .i64 (d : Int), .slice (some ⟨g5, 0, none⟩) inner c5, .slice none 0 0, .slice none 0 0, .slice (some ⟨w5.heap.size, 0, none⟩) (d + 1) (d + 1)] 67))) :
    ∃ g' vr vv, Value.pointer (some ⟨g, 0, none⟩) = .pointer (some ⟨g', 0, none⟩) ∧ Aside0 (Below w.heap.size w wc) ∧ Aside0 (FoAt wc w.heap.size g' b d vr (.slice none 0 0) (.slice none 0 0) vv inner (d + 1) (List.replicate inner k) [] [] (List.replicate (d + 1) 0)) := by
  subst hg e
  have hs := hw.size
  have hs2 := hB.size
  have h5 := own_weaken hO (base' := w.heap.size) hs
  have hb5 : Below w.heap.size w w5 := below_weaken hw hs hB
  refine ⟨w5.heap.size + 1, .slice (some ⟨g5, 0, none⟩) inner c5, .slice (some ⟨w5.heap.size, 0, none⟩) (d + 1) (d + 1), rfl, ⟨(hb5.alloc (by omega) _).alloc (by simp; omega) _⟩, ⟨?_⟩⟩
  have := FoAt.made (b := b) (k := k) (W := w5.alloc (.cells (madeCells #[.int .i64 0] (d + 1)) 3)) (base := w.heap.size) (by simp; omega) (h5.alloc _) (own_madeZ w5 w.heap.size d (by omega) hd) (ne_symm (ne_made h5))
  simpa using this
/-- The list is made before. -/
theorem fo_before {w X w5 wc : World} {b d inner k g5 c5 g gv : Nat} (hw : Below w.heap.size w X) (hd : d ≤ 90) (hO : w5.ownsRow X.heap.size 3 1 (.slice (some ⟨g5, 0, none⟩) inner c5) inner (nums .i64 (ints (List.replicate inner k)))) (hB : Below X.heap.size X w5)
    (hV : X.ownsRow w.heap.size 3 1 (.slice (some ⟨gv, 0, none⟩) (d + 1) (d + 1)) (d + 1) (nums .i64 (List.replicate (d + 1) 0)))
    (hg : g = w5.heap.size) (e : wc = (w5.alloc (.cells #[.int .i64 (b : Int), .int .i64 (d : Int), .slice (some ⟨g5, 0, none⟩) inner c5, .slice none 0 0, .slice none 0 0, .slice (some ⟨gv, 0, none⟩) (d + 1) (d + 1)] 67))) :
    ∃ g' vr vv, Value.pointer (some ⟨g, 0, none⟩) = .pointer (some ⟨g', 0, none⟩) ∧ Aside0 (Below w.heap.size w wc) ∧ Aside0 (FoAt wc w.heap.size g' b d vr (.slice none 0 0) (.slice none 0 0) vv inner (d + 1) (List.replicate inner k) [] [] (List.replicate (d + 1) 0)) := by
  subst hg e
  have hs := hw.size
  have hs2 := hB.size
  have h5 := own_weaken hO (base' := w.heap.size) hs
  have hb5 : Below w.heap.size w w5 := below_weaken hw hs hB
  exact ⟨w5.heap.size, .slice (some ⟨g5, 0, none⟩) inner c5, .slice (some ⟨gv, 0, none⟩) (d + 1) (d + 1), rfl, ⟨hb5.alloc (by omega) _⟩, ⟨FoAt.made (by omega) h5 (pw_own_below hV hB) (ne_below hO hV)⟩⟩
theorem cell_kept_drewN {w : World} {p : Addr} {u : Value} (h : w.cell? p = some u) (m : Nat) : (w.drewN m).cell? p = some u := h
set_option maxHeartbeats 4000000 in
set_option maxRecDepth 100000 in
theorem forest_yes (b d inner k n : Nat) (S : Es.St) (w : World) (hx : impl_isBranching.f 30 (b : Int) (d : Int) = some true) (hfi : impl_nodesOf.f 30 (b : Int) ((d : Int) - 1) = some (inner : Int)) (hd : d ≤ 90) (hk : k ≤ b)
    (hb : b ≤ 3) (hb2 : 2 ≤ b) (hi : inner ≤ 130) (hi0 : 0 < inner) (hn : n ≤ 200) (hS : Es.chips b inner n (Es.start d inner k) = some S) :
    Calls Try.prog 66 #[.int .i64 (b : Int), .int .i64 (d : Int), .int .i64 (k : Int), .int .i64 (n : Int)] w (FoOut w b d inner S) := by
  have HS := Aside0.mk hS
  have HX := Aside0.mk hx
  have HN := Aside0.mk hfi
  have HY := Aside0.mk (in_yes (k : Int) 0 (b : Int) (by omega)).2
  have HZ := Aside0.mk (in_yes (n : Int) 0 200 (by omega)).2
  have hfi := Aside0.mk hfi
  clear hS hx
  have hmk := print_make (P := Try.prog) 34 3 .i64 8 Try.underlying34 info3 (by decide) (d + 1) (by omega)
  rw [show ((d + 1 : Nat) : Int) = (d : Int) + 1 from by omega] at hmk
  have hw1 : IntKind.i64.wrap ((d : Int) + 1) = (d : Int) + 1 := IntWalk.i64_in _ (by omega)
  have hw2 : IntKind.i64.wrap ((d : Int) - 1) = (d : Int) - 1 := IntWalk.i64_in _ (by omega)
  have hu67 := Try.underlying67
  go_enter Try.func66, Try.ntmps66
  go_upto_region 3 with (first | (go_at_call 56; (with_reducible refine (impl_isBranching.calls 30 b d _ _ HX.out).mono ?_); rintro e w' ⟨rfl, ⟨n1, rfl⟩⟩) | (go_at_call 73; first | ((with_reducible refine (pay_in k 0 b _ _ HY.out).mono ?_); rintro e w' ⟨rfl, ⟨n2, rfl⟩⟩) | ((with_reducible refine (pay_in n 0 200 _ _ HZ.out).mono ?_); rintro e w' ⟨rfl, ⟨n3, rfl⟩⟩)))
  have HW := Aside0.mk (pw_below_drewN (Below.refl w.heap.size w) (n1 + n2 + n3))
  have hWs : w.heap.size ≤ (w.drewN (n1 + n2 + n3)).heap.size := Nat.le_refl _
  generalize w.drewN (n1 + n2 + n3) = W at *
  go_cut [10] (fun v10 wc => ∃ g vr vv, v10 = .pointer (some ⟨g, 0, none⟩) ∧ Aside0 (Below w.heap.size w wc) ∧ Aside0 (FoAt wc w.heap.size g b d vr (.slice none 0 0) (.slice none 0 0) vv inner (d + 1) (List.replicate inner k) [] [] (List.replicate (d + 1) 0)))
  case first =>
    go_region_with (first | (go_at_call 57; (with_reducible refine (impl_nodesOf.calls 30 b ((d : Int) - 1) inner _ HN.out).mono ?_); rintro e w' ⟨rfl, ⟨nq, rfl⟩⟩) | (go_at_call 85; refine (repeat_calls _ k inner _ hi0 hi (by first | (simp; done) | (repeat (first | exact box_new _ _ | exact box_new' _ _ _ | apply cell_kept_alloc | apply cell_kept_drewN))) (by first | (simp; done) | (simp; omega))).mono ?_; rintro e w5 ⟨v5, rfl, hO5, hB5⟩; obtain ⟨g5, c5, rfl, hg5, hc5⟩ := hO5.form hi0; have HO5 := Aside0.mk hO5; have HB5 := Aside0.mk hB5; clear hO5 hB5))
    all_goals go_wp2_with (fail)
    all_goals go_meet
    all_goals clear hmk hw1 hw2 hu67
    all_goals (first
      | exact fo_after (by repeat (first | exact HW.out | apply below_alloc | apply pw_below_drewN)) hd HO5.out HB5.out rfl rfl
      | exact fo_before (by repeat (first | exact HW.out | apply below_alloc | apply pw_below_drewN)) hd HO5.out HB5.out (own_move (own_madeZ' W _ _ _ hWs hd) (fun _ _ => rfl)) rfl rfl
      | exact fo_before (by repeat (first | exact HW.out | apply below_alloc | apply pw_below_drewN)) hd HO5.out HB5.out (own_move (own_alloc (own_madeZ W _ _ hWs hd) _) (fun _ _ => rfl)) rfl rfl)
  case rest =>
    obtain ⟨g, vr, vv, rfl, HB, HF⟩ := hcut
    clear HX HN HY HZ hmk
    go_wp2_with (fail)
    go_loopg [41] n (fun kq v41 wr => ∃ (i : Nat) (vr1 ve1 vt1 vv1 : Value) (s : Es.St), v41 = .int .i64 (i : Int) ∧ Aside0 (i + kq = n ∧ Es.chips b inner kq s = some S ∧ s.ends.length = i ∧ s.trips.length = i) ∧ Aside0 (Below w.heap.size w wr) ∧
      Aside0 (FoAt wr w.heap.size g b d vr1 ve1 vt1 vv1 inner (d + 1) s.rot s.ends s.trips s.vis))
    case atStart => exact ⟨0, _, _, _, _, Es.start d inner k, rfl, ⟨by omega, HS.out, rfl, rfl⟩, HB, HF⟩
    case round =>
      clear HB HF HS
      obtain ⟨i, vr1, ve1, vt1, vv1, s, rfl, HI, HB, HF⟩ := hrel
      by_cases hlt : i < n
      · obtain ⟨kq, rfl⟩ : ∃ m, gk = m + 1 := ⟨gk - 1, by have := HI.out.1; omega⟩
        have hc := HI.out.2.1
        simp only [Es.chips] at hc
        cases hch : Es.chip b inner s.rot s.vis with
        | none => rw [hch] at hc; cases hc
        | some q =>
        obtain ⟨e, st, rot1, vis1⟩ := q
        rw [hch] at hc
        have HC2 := Aside0.mk hc
        have HC1 := Aside0.mk hch
        clear hc hch
        go_wp2_with (go_at_call 86; refine (fchip_calls w.heap.size g b d inner vr1 ve1 vt1 vv1 (d + 1) s.rot s.ends s.trips s.vis e st rot1 vis1 _ hb hb2 (by omega) hi0 (by omega) (by have := HI.out; omega) (by have := HI.out; omega) hfi.out (by omega) HF.out HC1.out).mono ?_; rintro e' w2 ⟨rfl, hB, ve2, vt2, hF⟩; have HB2 := Aside0.mk (HB.out.trans hB); have HF2 := Aside0.mk hF; clear hB hF)
        go_roundg kq
        case measure => omega
        case rel => exact ⟨i + 1, _, _, _, _, ⟨rot1, vis1, s.ends ++ [Es.endN e], s.trips ++ [st]⟩, by go_num, ⟨by have := HI.out; omega, HC2.out, by have := HI.out; simp; omega, by have := HI.out; simp; omega⟩, HB2, HF2⟩
      · have h0 : gk = 0 := by have := HI.out.1; omega
        subst h0
        have hs := HI.out.2.1
        simp only [Es.chips] at hs
        have hs := Option.some.inj hs
        subst hs
        go_wp2_with (fail)
        go_ret2
        exact ⟨_, _, _, _, _, rfl, HB.out, HF.out⟩
end Go.Proofs.Ytmechelmnpoddaa.H7
