/-
  The reference's heap: the walk of gwHeap.
-/
import Derived.Test.YtjedhjeijpbobaaFb
import Derived.Test.YtjedhjeijpbobaaHs
import Derived.Test.YtjedhjeijpbobaaHw
namespace Go.Proofs.Ytjedhjeijpbobaa.G8
open Go.RowKit Go.Maps Go.Proofs.YtjedhjeijpbobaaW.PrintWords Go.Proofs.YtjedhjeijpbobaaW.PrintLast Go.Proofs.YtjedhjeijpbobaaW.PrintMore
open Go.Proofs.Ytjedhjeijpbobaa.GA
set_option linter.unusedVariables false
set_option linter.unusedSimpArgs false
/-- Chips and toppled cells, in memory. -/
structure HhAt (w : World) (base cb tb : Nat) (M : Fld) (T : Int → Int → Bool) : Prop where
  hc : base ≤ cb
  ht : base ≤ tb
  chips : ∃ cl : Array Value, w.heap[cb]? = some (.cells cl 3 (0, 0)) ∧ cl.size = 14641 ∧ ∀ x y, Box x → Box y → cl[atN x y]? = some (.int .i64 ((M x y).getD 0))
  tops : ∃ tl : Array Value, w.heap[tb]? = some (.cells tl 4 (0, 0)) ∧ tl.size = 14641 ∧ ∀ x y, Box x → Box y → tl[atN x y]? = some (.bool (T x y))
section
variable {w w1 : World} {base cb tb : Nat} {M : Fld} {T : Int → Int → Bool}
theorem HhAt.keep (h : HhAt w base cb tb M T) (e : ∀ b, b < w.heap.size → w1.heap[b]? = w.heap[b]?) : HhAt w1 base cb tb M T := by
  obtain ⟨cl, c1, c2, c3⟩ := h.chips
  obtain ⟨tl, t1, t2, t3⟩ := h.tops
  exact ⟨h.hc, h.ht, ⟨cl, (e cb (blk_lt c1)).trans c1, c2, c3⟩, ⟨tl, (e tb (blk_lt t1)).trans t1, t2, t3⟩⟩
theorem HhAt.drewN (h : HhAt w base cb tb M T) (n : Nat) : HhAt (w.drewN n) base cb tb M T := h.keep fun _ _ => by simp
theorem HhAt.below (h : HhAt w base cb tb M T) (hB : Below w.heap.size w w1) : HhAt w1 base cb tb M T := h.keep fun b hb => hB.block b hb
theorem HhAt.ne (h : HhAt w base cb tb M T) : cb ≠ tb := by
  obtain ⟨cl, c1, _⟩ := h.chips
  obtain ⟨tl, t1, _⟩ := h.tops
  exact blk_ne c1 t1 (.inl (by decide))
theorem HhAt.chip_at (h : HhAt w base cb tb M T) {x y : Int} (hx : Box x) (hy : Box y) : w.cell? ⟨cb, atN x y, none⟩ = some (.int .i64 ((M x y).getD 0)) ∧ w.frozen? ⟨cb, atN x y, none⟩ = false := by
  obtain ⟨cl, c1, _, c3⟩ := h.chips
  exact ⟨(blk_cell c1 _).trans (c3 x y hx hy), blk_frozen c1 _⟩
theorem HhAt.top_at (h : HhAt w base cb tb M T) {x y : Int} (hx : Box x) (hy : Box y) : w.cell? ⟨tb, atN x y, none⟩ = some (.bool (T x y)) ∧ w.frozen? ⟨tb, atN x y, none⟩ = false := by
  obtain ⟨tl, t1, _, t3⟩ := h.tops
  exact ⟨(blk_cell t1 _).trans (t3 x y hx hy), blk_frozen t1 _⟩
theorem HhAt.setC (h : HhAt w base cb tb M T) {x y : Int} (hx : Box x) (hy : Box y) (r : Int) : HhAt (w.setCell ⟨cb, atN x y, none⟩ (.int .i64 r)) base cb tb (upd M x y r) T := by
  obtain ⟨cl, c1, c2, c3⟩ := h.chips
  obtain ⟨tl, t1, t2, t3⟩ := h.tops
  have hlt := atN_lt hx hy
  refine ⟨h.hc, h.ht, ⟨_, blk_set c1 _ _, by rw [Array.size_setIfInBounds]; exact c2, fun a b ha hb => ?_⟩, ⟨tl, blk_far t1 (p := ⟨cb, atN x y, none⟩) (fun e => h.ne e.symm) _, t2, t3⟩⟩
  rw [upd_get]
  by_cases e : a = x ∧ b = y
  · rw [if_pos e, e.1, e.2, Array.getElem?_setIfInBounds_self_of_lt (by omega)]
  · rw [if_neg e, Array.getElem?_setIfInBounds_ne (fun q => e ((atN_eq hx hy ha hb).1 q.symm))]; exact c3 a b ha hb
theorem HhAt.setT (h : HhAt w base cb tb M T) {x y : Int} (hx : Box x) (hy : Box y) : HhAt (w.setCell ⟨tb, atN x y, none⟩ (.bool true)) base cb tb M (fun a b => if a = x ∧ b = y then true else T a b) := by
  obtain ⟨cl, c1, c2, c3⟩ := h.chips
  obtain ⟨tl, t1, t2, t3⟩ := h.tops
  have hlt := atN_lt hx hy
  refine ⟨h.hc, h.ht, ⟨cl, blk_far c1 (p := ⟨tb, atN x y, none⟩) h.ne _, c2, c3⟩, ⟨_, blk_set t1 _ _, by rw [Array.size_setIfInBounds]; exact t2, fun a b ha hb => ?_⟩⟩
  by_cases e : a = x ∧ b = y
  · rw [if_pos e, e.1, e.2, Array.getElem?_setIfInBounds_self_of_lt (by omega)]
  · rw [if_neg e, Array.getElem?_setIfInBounds_ne (fun q => e ((atN_eq hx hy ha hb).1 q.symm))]; exact t3 a b ha hb
theorem HhAt.like (h : HhAt w base cb tb M T) {M1 : Fld} {T1 : Int → Int → Bool} (hM : ∀ a b, (M1 a b).getD 0 = (M a b).getD 0) (hT : ∀ a b, T1 a b = T a b) : HhAt w base cb tb M1 T1 := by
  obtain ⟨cl, c1, c2, c3⟩ := h.chips
  obtain ⟨tl, t1, t2, t3⟩ := h.tops
  exact ⟨h.hc, h.ht, ⟨cl, c1, c2, fun x y hx hy => by rw [hM]; exact c3 x y hx hy⟩, ⟨tl, t1, t2, fun x y hx hy => by rw [hT]; exact t3 x y hx hy⟩⟩
end
def hpM (n : Int) (u : Odo) : Fld := fun a b => some (hp n u a b)
def hpT (u : Odo) : Int → Int → Bool := fun a b => decide (0 < u a b)
def HhOut (w : World) (n : Int) (e : Ending) (w' : World) : Prop := ∃ cb tb u, e = .returned (.tuple #[.slice (some ⟨cb, 0, none⟩) 14641 14641, .slice (some ⟨tb, 0, none⟩) 14641 14641]) ∧ Below w.heap.size w w' ∧ Aside0 (HhAt w' w.heap.size cb tb (hpM n u) (hpT u)) ∧ Aside0 (Legal n u) ∧ Aside0 (∀ a b, 0 ≤ hp n u a b ∧ hp n u a b ≤ 3)
theorem hh_start {w : World} {base cb tb : Nat} (n : Int) (hc : base ≤ cb) (ht : base ≤ tb) (h1 : w.heap[cb]? = some (.cells (madeCells #[.int .i64 0] 14641) 3 (0, 0))) (h2 : w.heap[tb]? = some (.cells (madeCells #[.bool false] 14641) 4 (0, 0))) :
    HhAt (w.setCell ⟨cb, atN 0 0, none⟩ (.int .i64 n)) base cb tb (hpM n (fun _ _ => 0)) (hpT (fun _ _ => 0)) := by
  have h : HhAt w base cb tb (fun _ _ => none) (fun _ _ => false) := ⟨hc, ht, ⟨_, h1, size_madeCells _ _, fun x y hx hy => made_at _ _ _ (atN_lt hx hy)⟩, ⟨_, h2, size_madeCells _ _, fun x y hx hy => made_at _ _ _ (atN_lt hx hy)⟩⟩
  refine (h.setC (x := 0) (y := 0) ⟨by decide, by decide⟩ ⟨by decide, by decide⟩ n).like (fun a b => ?_) (fun a b => by unfold hpT; simp)
  rw [upd_get]
  unfold hpM
  rw [hp_zero]
  rfl
theorem hh_topple {w : World} {base cb tb : Nat} {n : Int} {u : Odo} {x y t : Int} (h : HhAt w base cb tb (heapM (hpM n u) x y t 4) (fun a b => if a = x ∧ b = y then true else hpT u a b)) (hu : Legal n u) (ht : 1 ≤ t) : HhAt w base cb tb (hpM n (bump u x y t)) (hpT (bump u x y t)) := by
  refine h.like (fun a b => ?_) (fun a b => ?_)
  · rw [heapM_get]
    unfold hpM
    simp only [Option.getD_some]
    rw [hp_nb]
  · unfold hpT bump
    by_cases e : a = x ∧ b = y
    · rw [if_pos e, if_pos e]
      have := hu.pos a b
      simp
      omega
    · rw [if_neg e, if_neg e]
def Th1 : Bool × List (List Nat × List Nat) := (true, [([], []), ([], []), ([0, 0], [0]), ([1, 2, 0, 1, 2], [1])])
def Bh1 : List Nat := [0, 0, 1, 7]
theorem tabh1 : rtab .any (opsOf Try.f95 1) = Th1 := by kernel_rfl
theorem bitsh1 : waitsOk Th1.2 Bh1 = true := by kernel_rfl
theorem hbJ {j q : Nat} (h : j + (q + 1) = 4) : j + 1 + q = 4 := by omega
theorem hbJ0 {j : Nat} (h : j + 0 = 4) : j = 4 := h
theorem hbJi {j q : Nat} (h : j + (q + 1) = 4) : (j : Int) < 4 := by omega
theorem hbJl {j q : Nat} (h : j + (q + 1) = 4) : j ≤ 4 := by omega
theorem hbY {y : Int} {k : Nat} (h : -59 ≤ y ∧ y + ((k + 1 : Nat) : Int) = 60) : -59 ≤ y + 1 ∧ y + 1 + (k : Int) = 60 := by omega
theorem hbP {p : Nat} (h : p < 14641) : (p : Int) < 14641 := by omega
theorem hbMv {x y : Int} {j : Nat} (h : -5 ≤ x ∧ x ≤ 5 ∧ -5 ≤ y ∧ y ≤ 5) : Box (mv4 (j : Int) x y).1 ∧ Box (mv4 (j : Int) x y).2 := by
  unfold mv4 Box
  repeat' split
  all_goals (simp only; omega)
theorem hbW {j q : Nat} (h : j + (q + 1) = 4) : wrap64 ((j : Int) + 1) = (j : Int) + 1 := wrap_id (by omega) (by omega)
theorem hbG {g t : Int} (hg : -5000 ≤ g ∧ g ≤ 10000) (h1 : 1 ≤ t) (h2 : t ≤ 1250) : wrap64 (g + t) = g + t := wrap_id (by omega) (by omega)
theorem hbT {t : Int} (h : 1 ≤ t) : 0 ≤ t := by omega
set_option maxHeartbeats 4000000 in
set_option maxRecDepth 100000 in
theorem gwHeap_calls (n : Int) (hn : 0 ≤ n ∧ n ≤ 250) (w : World) : Calls Try.prog 95 #[.int .i64 n] w (HhOut w n) := by
  have HT0 := Aside0.mk (at_quiet (x := 0) (y := 0) ⟨by decide, by decide⟩ ⟨by decide, by decide⟩)
  go_enter Try.func95, Try.ntmps95
  go_upto_region 1 with (fail)
  refine start_ (n := 4) (S := fun w' => True) (ds := []) #[false, false, false, false] (by kernel_rfl) rfl rfl trivial (fun hHeld => ?_)
  refine with_tabW tabh1 bitsh1 (fun HT_ HW_ => ?_)
  have HB := Aside0.mk (below_drew (Below.refl w.heap.size w))
  have hsz : w.heap.size ≤ w.drew.heap.size := Nat.le_refl _
  generalize w.drew = W0 at *
  refine join_ (σ := Nat × Nat) 1 #[true, true, true, false] (fun s => [(14, .slice (some ⟨s.1, 0, none⟩) 14641 14641), (15, .slice (some ⟨s.2, 0, none⟩) 14641 14641), (4, .slice (some ⟨s.1, 0, none⟩) 14641 14641)]) (fun s w' => Aside0 (w'.heap[s.1]? = some (.cells (madeCells #[.int .i64 0] 14641) 3 (0, 0)) ∧ w'.heap[s.2]? = some (.cells (madeCells #[.bool false] 14641) 4 (0, 0)) ∧ w.heap.size ≤ s.1 ∧ w.heap.size ≤ s.2 ∧ Below w.heap.size w w')) ?_ ?_
  rotate_left
  · intro hCont
    refine two_ (i := 0) (j := 1) (Ni := some 14) (Nj := some 15) #[true, false, false, false] #[false, true, false, false] rfl rfl rfl rfl (two_of HT_.out (by kernel_rfl)) (by decide) (by decide) (fun K hK => ?_) (fun K hK => ?_)
    · refine value_ (v := .slice (some ⟨W0.heap.size, 0, none⟩) 14641 14641) (w1 := W0.alloc (.cells (madeCells #[.int .i64 0] 14641) 3)) (by rfl) rfl (by go_simp; rw [make_ints]; rfl) ?_
      refine hK.out _ _ trivial (fun hHeld => ?_)
      clear hK K
      (try simp only [Act.put, List.setIfInBounds_toArray, List.set_cons_zero, List.set_cons_succ])
      refine pure_ (i := 2) (N := some 4) (v := ?_) (a' := ?_) #[true, false, true, false] rfl rfl (any_of HT_.out (by kernel_rfl)) (fun _ _ _ h => h) (Or.inl ⟨by rfl, ?_⟩) ?_ ?_
      rotate_left
      · intro w'
        go_simp
        with_reducible rfl
      rotate_left
      · simp only [Act.put, List.setIfInBounds_toArray, List.set_cons_zero, List.set_cons_succ, i64_w, i32_w]
        rfl
      refine one_ (i := 1) (N := some 15) #[true, true, true, false] rfl rfl (one_of HT_.out (by kernel_rfl)) (by decide) (fun K hK => ?_)
      refine value_ (v := .slice (some ⟨W0.heap.size + 1, 0, none⟩) 14641 14641) (w1 := (W0.alloc (.cells (madeCells #[.int .i64 0] 14641) 3)).alloc (.cells (madeCells #[.bool false] 14641) 4)) (by rfl) rfl (by go_simp; rw [make_bools]; simp [Result.andThen]) ?_
      refine hK.out _ _ trivial (fun hHeld => ?_)
      clear hK K
      refine norm_ (by simp only [putAll, Act.put, List.setIfInBounds_toArray, List.set_cons_zero, List.set_cons_succ]) (hCont (W0.heap.size, W0.heap.size + 1) _ ⟨two_new W0 _ _, two_new1 W0 _ _, by omega, by omega, (HB.out.alloc (by omega) _).alloc (by simp; omega) _⟩)
    · refine value_ (v := .slice (some ⟨W0.heap.size, 0, none⟩) 14641 14641) (w1 := W0.alloc (.cells (madeCells #[.bool false] 14641) 4)) (by rfl) rfl (by go_simp; rw [make_bools]; rfl) ?_
      refine hK.out _ _ trivial (fun hHeld => ?_)
      clear hK K
      (try simp only [Act.put, List.setIfInBounds_toArray, List.set_cons_zero, List.set_cons_succ])
      refine one_ (i := 0) (N := some 14) #[true, true, false, false] rfl rfl (one_of HT_.out (by kernel_rfl)) (by decide) (fun K hK => ?_)
      refine value_ (v := .slice (some ⟨W0.heap.size + 1, 0, none⟩) 14641 14641) (w1 := (W0.alloc (.cells (madeCells #[.bool false] 14641) 4)).alloc (.cells (madeCells #[.int .i64 0] 14641) 3)) (by rfl) rfl (by go_simp; rw [make_ints]; simp [Result.andThen]) ?_
      refine hK.out _ _ trivial (fun hHeld => ?_)
      clear hK K
      (try simp only [Act.put, List.setIfInBounds_toArray, List.set_cons_zero, List.set_cons_succ])
      refine pure_ (i := 2) (N := some 4) (v := ?_) (a' := ?_) #[true, true, true, false] rfl rfl (any_of HT_.out (by kernel_rfl)) (fun _ _ _ h => h) (Or.inl ⟨by rfl, ?_⟩) ?_ ?_
      rotate_left
      · intro w'
        go_simp
        with_reducible rfl
      rotate_left
      · simp only [Act.put, List.setIfInBounds_toArray, List.set_cons_zero, List.set_cons_succ, i64_w, i32_w]
        rfl
      refine norm_ (by simp only [putAll, Act.put, List.setIfInBounds_toArray, List.set_cons_zero, List.set_cons_succ]) (hCont (W0.heap.size + 1, W0.heap.size) _ ⟨two_new1 W0 _ _, two_new W0 _ _, by omega, by omega, (HB.out.alloc (by omega) _).alloc (by simp; omega) _⟩)
  rintro ⟨cb, tb⟩ W1 hF
  obtain ⟨hcb, htb, hc0, ht0, hB⟩ := hF.out
  have HC0 := Aside0.mk hcb
  have HTB := Aside0.mk htb
  have HB1 := Aside0.mk hB
  clear hF hcb htb hB HB hsz hHeld
  refine norm_ (a' := ?_) ?_ ?_
  rotate_left
  · simp only [putAll, Act.put, List.setIfInBounds_toArray, List.set_cons_zero, List.set_cons_succ]
    rfl
  refine pure_ (i := 3) (N := some 5) (v := ?_) (a' := ?_) #[true, true, true, true] rfl rfl (any_of HT_.out (by kernel_rfl)) (fun _ _ _ h => h) (Or.inl ⟨by rfl, ?_⟩) ?_ ?_
  rotate_left
  · intro w'
    go_simp
    with_reducible rfl
  rotate_left
  · simp only [Act.put, List.setIfInBounds_toArray, List.set_cons_zero, List.set_cons_succ, i64_w, i32_w]
    rfl
  refine done_ (done_of HT_.out (by kernel_rfl)) ?_
  clear HT_ HW_
  have hb00 : Box 0 := ⟨by decide, by decide⟩
  have hplt := atN_lt hb00 hb00
  obtain ⟨p, hpe⟩ : ∃ p, p = atN 0 0 := ⟨_, rfl⟩
  rw [← hpe] at HT0 hplt
  have hpi : (p : Int) < 14641 := by omega
  obtain ⟨cv, fv⟩ : W1.cell? ⟨cb, p, none⟩ = some (.int .i64 0) ∧ W1.frozen? ⟨cb, p, none⟩ = false := ⟨(blk_cell HC0.out p).trans (made_at _ _ _ hplt), blk_frozen HC0.out p⟩
  replace hpe := Aside0.mk hpe
  go_wp2_with (first | (go_at_call 73; (with_reducible refine (HT0.out _).mono ?_); rintro e w9 ⟨rfl, ⟨nd0, rfl⟩⟩))
  have HH0 : Aside0 (HhAt ((W1.drewN nd0).setCell ⟨cb, p, none⟩ (.int .i64 n)) w.heap.size cb tb (hpM n (fun _ _ => 0)) (hpT (fun _ _ => 0))) := ⟨by
    rw [hpe.out]
    exact hh_start n hc0 ht0 HC0.out HTB.out⟩
  have HBB : Aside0 (Below w.heap.size w ((W1.drewN nd0).setCell ⟨cb, p, none⟩ (.int .i64 n))) := ⟨(pw_below_drewN HB1.out nd0).setCell (p := ⟨cb, p, none⟩) hc0 _⟩
  have HL0 := Aside0.mk (Legal.zero n)
  have HN0 : Aside0 (∀ a b, 0 ≤ hp n (fun _ _ => 0) a b) := ⟨fun a b => by rw [hp_zero]; split <;> omega⟩
  clear HC0 HTB HB1 HT0 cv fv
  go_loopg [6] 1210 (fun m v6 wr => ∃ (more : Bool) (u : Odo), v6 = .bool more ∧ Aside0 (1209 - S2 u + (if more = true then 1 else 0) ≤ m) ∧ Aside0 (HhAt wr w.heap.size cb tb (hpM n u) (hpT u)) ∧ Aside0 (Legal n u) ∧ Aside0 (∀ a b, 0 ≤ hp n u a b) ∧ Aside0 (more = false → ∀ a b, hp n u a b ≤ 3) ∧ Aside0 (Below w.heap.size w wr))
  case atStart => exact ⟨true, fun _ _ => 0, rfl, ⟨by rw [S2_nul]; decide⟩, HH0, HL0, HN0, ⟨fun e => by cases e⟩, HBB⟩
  case round =>
    clear HH0 HBB HL0 HN0 hpe hplt hpi
    obtain ⟨more, u, rfl, HI, HH, HL, HN, HS, HB⟩ := hrel
    cases more with
    | false =>
      go_wp2_with (fail)
      refine bodyPost_ret (v := .tuple #[.slice (some ⟨cb, 0, none⟩) 14641 14641, .slice (some ⟨tb, 0, none⟩) 14641 14641]) (by simp [results, Try.results95, go_sem]) rfl ?_
      exact ⟨cb, tb, u, rfl, HB.out, HH, HL, ⟨fun a b => ⟨HN.out a b, HS.out (by first | rfl | trivial) a b⟩⟩⟩
    | true =>
      cases gk with
      | zero => exact absurd HI.out (by have := (S2_bd HL.out hn.2).2; simp; omega)
      | succ m =>
        have HSC := Aside0.mk (Scan.start HL.out HN.out)
        go_upto_region 6 with (fail)
        go_wp2_with (fail)
        go_loopg [6, 7] 119 (fun k v6 v7 wq => ∃ (more : Bool) (u1 : Odo) (x : Int), v6 = .bool more ∧ v7 = .int .i64 x ∧ Aside0 (-59 ≤ x ∧ x + (k : Int) = 60) ∧ Aside0 (Scan n u u1 more x (-59)) ∧ Aside0 (HhAt wq w.heap.size cb tb (hpM n u1) (hpT u1)) ∧ Aside0 (Below w.heap.size w wq))
        case atStart => exact ⟨false, u, -59, rfl, rfl, ⟨by decide⟩, HSC, HH, HB⟩
        case round =>
          clear HSC HH HB HS HN HL
          obtain ⟨more, u1, x, rfl, rfl, HX, HC, HH, HB⟩ := hrel
          cases gk with
          | zero =>
            have hx60 : x = 60 := by have := HX.out.2; omega
            subst hx60
            have hle : ¬ ((60 : Int) ≤ 59) := by omega
            have hfin := Aside0.mk (fun hm => HC.out.finish hn.2 hm)
            have hmo := Aside0.mk HC.out.more
            have HL1 := Aside0.mk HC.out.legal
            have HN1 := Aside0.mk HC.out.nn
            have hsm := Aside0.mk HC.out.same
            go_wp2_with (fail)
            go_roundg m
            case measure => omega
            case rel =>
              refine ⟨more, u1, rfl, ⟨?_⟩, HH, HL1, HN1, hfin, HB⟩
              have hI := HI.out
              simp only [if_true] at hI
              cases more with
              | true => have := hmo.out rfl; simp only [if_true]; omega
              | false => rw [(hsm.out rfl).1]; simp only [Bool.false_eq_true, if_false]; omega
          | succ kx =>
            have hle : x ≤ 59 := by have := HX.out.2; omega
            have hxb : Box x := ⟨by have := HX.out.1; omega, by omega⟩
            have hx1 := HX.out.1
            have hwx := wrap_id (x := x + 1) (by omega) (by omega)
            go_upto_region 9 with (fail)
            go_wp2_with (fail)
            go_loopg [6, 8] 119 (fun k v6 v8 wq => ∃ (more : Bool) (u1 : Odo) (y : Int), v6 = .bool more ∧ v8 = .int .i64 y ∧ Aside0 (-59 ≤ y ∧ y + (k : Int) = 60) ∧ Aside0 (Scan n u u1 more x y) ∧ Aside0 (HhAt wq w.heap.size cb tb (hpM n u1) (hpT u1)) ∧ Aside0 (Below w.heap.size w wq))
            case atStart => exact ⟨more, u1, -59, rfl, rfl, ⟨by decide⟩, HC, HH, HB⟩
            case round =>
              clear HC HH HB
              obtain ⟨more, u1, y, rfl, rfl, HY, HC, HH, HB⟩ := hrel
              cases gk with
              | zero =>
                have hy60 : y = 60 := by have := HY.out.2; omega
                subst hy60
                have hley : ¬ ((60 : Int) ≤ 59) := by omega
                go_wp2_with (fail)
                (try simp only [hwx])
                go_roundg kx
                case measure => omega
                case rel => exact ⟨more, u1, x + 1, rfl, by first | rfl | go_num, ⟨by have := HX.out; omega⟩, ⟨HC.out.row⟩, HH, HB⟩
              | succ ky =>
                have hley : y ≤ 59 := by have := HY.out.2; omega
                have hyb : Box y := ⟨by have := HY.out.1; omega, by omega⟩
                have hy1 := HY.out.1
                have hwy := wrap_id (x := y + 1) (by omega) (by omega)
                have HN := Aside0.mk (at_quiet hxb hyb)
                have hplt := atN_lt hxb hyb
                obtain ⟨p, hpe⟩ : ∃ p, p = atN x y := ⟨_, rfl⟩
                rw [← hpe] at HN hplt
                have hpi : (p : Int) < 14641 := by omega
                have hp0 : (0 : Int) ≤ (p : Int) := by omega
                replace hpe := Aside0.mk hpe
                go_upto_region 12 with (fail)
                go_upto_region 13 with (first | (go_at_call 73; (with_reducible refine (HN.out _).mono ?_); rintro e w9 ⟨rfl, ⟨nd, rfl⟩⟩))
                have HH1 := Aside0.mk (HH.out.drewN nd)
                have HB1 : Aside0 (Below w.heap.size w (wr.drewN nd)) := ⟨pw_below_drewN HB.out nd⟩
                clear HH HB
                generalize wr.drewN nd = W2 at *
                obtain ⟨cv, fv⟩ := HH1.out.chip_at hxb hyb
                obtain ⟨tv, gv⟩ := HH1.out.top_at hxb hyb
                rw [← hpe.out] at cv fv tv gv
                have hh0 := hp_le HC.out.legal hn.2 hn.1 x y
                have hh1 := HC.out.nn x y
                obtain ⟨h, hh⟩ : ∃ h, h = hp n u1 x y := ⟨_, rfl⟩
                have hMh : (hpM n u1 x y).getD 0 = h := by rw [hh]; rfl
                rw [hMh] at cv
                rw [← hh] at hh0 hh1
                replace hh := Aside0.mk hh
                by_cases h4 : h < 4
                · go_wp2_with (fail)
                  (try simp only [hwy])
                  go_roundg ky
                  case measure => omega
                  case rel => exact ⟨more, u1, y + 1, rfl, by first | rfl | go_num, ⟨hbY HY.out⟩, ⟨HC.out.small (by rw [← hh.out]; exact h4)⟩, HH1, HB1⟩
                · obtain ⟨k1, k2, k3, k4⟩ := quo4' (h := h) (by omega)
                  obtain ⟨t, ht⟩ : ∃ t, t = h / 4 := ⟨_, rfl⟩
                  rw [← ht] at k1 k2 k3 k4
                  have ht2 : t ≤ 1250 := by omega
                  replace ht := Aside0.mk ht
                  have hwa := wrap_id (x := 4 * t) (by omega) (by omega)
                  have hwb : IntKind.i64.wrap (4 * t) = 4 * t := by rw [i64_w]; exact hwa
                  have hwc := wrap_id (x := h - 4 * t) (by omega) (by omega)
                  have hwd : IntKind.i64.wrap (h - 4 * t) = h - 4 * t := by rw [i64_w]; exact hwc
                  go_upto_region 16 with (fail)
                  obtain ⟨T, hT⟩ : ∃ T, T = fun a b => if a = x ∧ b = y then true else hpT u1 a b := ⟨_, rfl⟩
                  have HH2 : Aside0 (HhAt (W2.setCell ⟨tb, p, none⟩ (.bool true)) w.heap.size cb tb (hpM n u1) T) := ⟨by rw [hT, hpe.out]; exact HH1.out.setT hxb hyb⟩
                  have HB2 : Aside0 (Below w.heap.size w (W2.setCell ⟨tb, p, none⟩ (.bool true))) := ⟨HB1.out.setCell (p := ⟨tb, p, none⟩) ht0 _⟩
                  replace hT := Aside0.mk hT
                  clear HH1 HB1 cv fv tv gv
                  generalize W2.setCell ⟨tb, p, none⟩ (.bool true) = W3 at *
                  obtain ⟨cv, fv⟩ := HH2.out.chip_at hxb hyb
                  rw [← hpe.out] at cv fv
                  rw [hMh] at cv
                  go_wp2_with (fail)
                  (try simp only [hwa, hwc])
                  have HH3 : Aside0 (HhAt (W3.setCell ⟨cb, p, none⟩ (.int .i64 (h - 4 * t))) w.heap.size cb tb (heapM (hpM n u1) x y t 0) T) := ⟨by
                    have e : heapM (hpM n u1) x y t 0 = upd (hpM n u1) x y (h - 4 * t) := by rw [← hMh]; rfl
                    rw [hpe.out, e]
                    exact HH2.out.setC hxb hyb _⟩
                  have HB3 : Aside0 (Below w.heap.size w (W3.setCell ⟨cb, p, none⟩ (.int .i64 (h - 4 * t)))) := ⟨HB2.out.setCell (p := ⟨cb, p, none⟩) hc0 _⟩
                  clear HH2 HB2 cv fv
                  have hbx5 := (HC.out.legal.topple hn.2 k2 (by rw [← hh.out]; exact k3)).1
                  go_loopg [11] 4 (fun q v11 wq => ∃ (j : Nat), v11 = .int .i64 (j : Int) ∧ Aside0 (j + q = 4) ∧ Aside0 (HhAt wq w.heap.size cb tb (heapM (hpM n u1) x y t j) T) ∧ Aside0 (Below w.heap.size w wq))
                  case atStart => exact ⟨0, rfl, ⟨rfl⟩, HH3, HB3⟩
                  case round =>
                    clear HH3 HB3 HN hpe hplt hpi hp0
                    obtain ⟨j, rfl, HJ, HH, HB⟩ := hrel
                    cases gk with
                    | zero =>
                      have hj : j = 4 := hbJ0 HJ.out
                      have hji : ¬ ((j : Int) < 4) := by rw [hj]; decide
                      have HHe := HH
                      rw [hj, hT.out] at HHe
                      go_wp2_with (fail)
                      (try simp only [hwy])
                      go_roundg ky
                      case measure => omega
                      case rel => exact ⟨true, bump u1 x y t, y + 1, rfl, by first | rfl | go_num, ⟨hbY HY.out⟩, ⟨HC.out.topple hn.2 k2 (by rw [← hh.out]; exact k3)⟩, ⟨hh_topple HHe.out HC.out.legal k2⟩, HB⟩
                    | succ q =>
                      have hji : (j : Int) < 4 := hbJi HJ.out
                      have hj4 : j ≤ 4 := hbJl HJ.out
                      have hwj := hbW HJ.out
                      have HM := Aside0.mk (move_quiet (r := (j : Int)) hxb hyb)
                      obtain ⟨pq, hpq⟩ : ∃ pq, pq = mv4 (j : Int) x y := ⟨_, rfl⟩
                      have hpb2 : Box pq.1 ∧ Box pq.2 := by
                        rw [hpq]
                        exact hbMv hbx5
                      rw [← hpq] at HM
                      have HN := Aside0.mk (at_quiet hpb2.1 hpb2.2)
                      have hplt := atN_lt hpb2.1 hpb2.2
                      obtain ⟨p2, hp2⟩ : ∃ p2, p2 = atN pq.1 pq.2 := ⟨_, rfl⟩
                      rw [← hp2] at HN hplt
                      have hpi : (p2 : Int) < 14641 := hbP hplt
                      obtain ⟨g, hgg⟩ : ∃ g, g = (heapM (hpM n u1) x y t j pq.1 pq.2).getD 0 := ⟨_, rfl⟩
                      have hgb : -5000 ≤ g ∧ g ≤ 10000 := by
                        rw [hgg]
                        exact heap_bd4 HC.out.legal hn.2 hn.1 HC.out.nn rfl x y t (hbT k2) ht2 pq.1 pq.2 hj4
                      have hMn : heapM (hpM n u1) x y t (j + 1) = upd (heapM (hpM n u1) x y t j) pq.1 pq.2 (g + t) := by rw [hgg, hpq]; rfl
                      obtain ⟨cv, fv⟩ := HH.out.chip_at hpb2.1 hpb2.2
                      rw [← hp2] at cv fv
                      rw [← hgg] at cv
                      replace hMn := Aside0.mk hMn
                      replace hgg := Aside0.mk hgg
                      replace hp2 := Aside0.mk hp2
                      clear hpq
                      have hga := hbG hgb k2 ht2
                      have hgc : IntKind.i64.wrap (g + t) = g + t := by rw [i64_w]; exact hga
                      have hbx1 := hpb2.1
                      have hbx2 := hpb2.2
                      go_upto_region 22 with (first | (go_at_call 96; (with_reducible refine (HM.out _).mono ?_); rintro e w9 ⟨rfl, ⟨ne, rfl⟩⟩))
                      go_wp2_with (first | (go_at_call 73; (with_reducible refine (HN.out _).mono ?_); rintro e w9 ⟨rfl, ⟨nf, rfl⟩⟩))
                      (try simp only [hwj, hga])
                      go_roundg q
                      case measure => omega
                      case rel => exact ⟨j + 1, by first | rfl | go_num, ⟨hbJ HJ.out⟩, ⟨by rw [hMn.out, hp2.out]; exact (HH.out.drewN _).setC hpb2.1 hpb2.2 _⟩, ⟨(pw_below_drewN HB.out (ne + nf)).setCell (p := ⟨cb, p2, none⟩) hc0 _⟩⟩
end Go.Proofs.Ytjedhjeijpbobaa.G8
