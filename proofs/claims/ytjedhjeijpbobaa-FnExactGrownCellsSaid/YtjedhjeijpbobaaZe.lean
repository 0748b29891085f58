/-
  The heap's end, as a function of the number of chips. The map of chips: a look-up, and an entry that is made and then stored into.
-/
import Derived.Test.YtjedhjeijpbobaaZc
import Derived.Test.YtjedhjeijpbobaaZd
import Derived.Test.YtjedhjeijpbobaaZb
import Derived.WideKeyEntry
/-! ## Hy -/
namespace Go.Proofs.Ytjedhjeijpbobaa.G8
set_option linter.unusedVariables false
set_option linter.unusedSimpArgs false
def rowL (p : Int → Int → Bool) (x : Int) : Nat → Int → List (Int × Int)
  | 0, _ => []
  | k + 1, y => if p x y = true then (x, y) :: rowL p x k (y + 1) else rowL p x k (y + 1)
def gridL (p : Int → Int → Bool) (lo : Int) (m : Nat) : Nat → Int → List (Int × Int)
  | 0, _ => []
  | k + 1, x => rowL p x m lo ++ gridL p lo m k (x + 1)
theorem mem_rowL (p : Int → Int → Bool) (x a b : Int) : ∀ (k : Nat) (y : Int), (a, b) ∈ rowL p x k y ↔ a = x ∧ y ≤ b ∧ b < y + k ∧ p a b = true
  | 0, y => by simp [rowL]; omega
  | k + 1, y => by
    have ih := mem_rowL p x a b k (y + 1)
    unfold rowL
    by_cases q : p x y = true
    · rw [if_pos q, List.mem_cons, ih, Prod.mk.injEq]
      constructor
      · rintro (⟨rfl, rfl⟩ | ⟨h1, h2, h3, h4⟩)
        · exact ⟨rfl, by omega, by omega, q⟩
        · exact ⟨h1, by omega, by omega, h4⟩
      · rintro ⟨h1, h2, h3, h4⟩
        by_cases e : b = y
        · exact .inl ⟨h1, e⟩
        · exact .inr ⟨h1, by omega, by omega, h4⟩
    · rw [if_neg q, ih]
      constructor
      · rintro ⟨h1, h2, h3, h4⟩; exact ⟨h1, by omega, by omega, h4⟩
      · rintro ⟨h1, h2, h3, h4⟩
        have e : b ≠ y := by rintro rfl; rw [h1] at h4; exact q h4
        exact ⟨h1, by omega, by omega, h4⟩
theorem mem_gridL (p : Int → Int → Bool) (lo : Int) (m : Nat) (a b : Int) : ∀ (k : Nat) (x : Int), (a, b) ∈ gridL p lo m k x ↔ x ≤ a ∧ a < x + k ∧ lo ≤ b ∧ b < lo + m ∧ p a b = true
  | 0, x => by simp [gridL]; omega
  | k + 1, x => by
    unfold gridL
    rw [List.mem_append, mem_rowL, mem_gridL p lo m a b k (x + 1)]
    constructor
    · rintro (⟨rfl, h2, h3, h4⟩ | ⟨h1, h2, h3, h4, h5⟩)
      · exact ⟨by omega, by omega, h2, h3, h4⟩
      · exact ⟨by omega, by omega, h3, h4, h5⟩
    · rintro ⟨h1, h2, h3, h4, h5⟩
      by_cases e : a = x
      · exact .inl ⟨e, h3, h4, h5⟩
      · exact .inr ⟨by omega, by omega, h3, h4, h5⟩
theorem sorted_rowL (p : Int → Int → Bool) (x : Int) : ∀ (k : Nat) (y : Int), (rowL p x k y).Pairwise lexLt
  | 0, y => List.Pairwise.nil
  | k + 1, y => by
    have ih := sorted_rowL p x k (y + 1)
    unfold rowL
    split
    · refine List.Pairwise.cons (fun c hc => ?_) ih
      have := (mem_rowL p x c.1 c.2 k (y + 1)).1 hc
      unfold lexLt
      simp only
      omega
    · exact ih
theorem sorted_gridL (p : Int → Int → Bool) (lo : Int) (m : Nat) : ∀ (k : Nat) (x : Int), (gridL p lo m k x).Pairwise lexLt
  | 0, x => List.Pairwise.nil
  | k + 1, x => by
    unfold gridL
    rw [List.pairwise_append]
    refine ⟨sorted_rowL p x m lo, sorted_gridL p lo m k (x + 1), fun c hc d hd => ?_⟩
    have h1 := (mem_rowL p x c.1 c.2 m lo).1 hc
    have h2 := (mem_gridL p lo m d.1 d.2 k (x + 1)).1 hd
    unfold lexLt
    omega
theorem lex_irrefl (c : Int × Int) : ¬ lexLt c c := by unfold lexLt; omega
theorem lex_asymm {c d : Int × Int} (h : lexLt c d) : ¬ lexLt d c := by unfold lexLt at *; omega
/-- Two lists in order with the same members are one. -/
theorem lex_one : ∀ {l m : List (Int × Int)}, l.Pairwise lexLt → m.Pairwise lexLt → (∀ c, c ∈ l ↔ c ∈ m) → l = m
  | [], [], _, _, _ => rfl
  | [], d :: m, _, _, h => absurd ((h d).2 (by simp)) (by simp)
  | c :: l, [], _, _, h => absurd ((h c).1 (by simp)) (by simp)
  | c :: l, d :: m, hl, hm, h => by
    obtain ⟨l1, l2⟩ := List.pairwise_cons.1 hl
    obtain ⟨m1, m2⟩ := List.pairwise_cons.1 hm
    have e : c = d := by
      have h1 := (h c).1 (by simp)
      have h2 := (h d).2 (by simp)
      rw [List.mem_cons] at h1 h2
      rcases h1 with h1 | h1
      · exact h1
      · rcases h2 with h2 | h2
        · exact h2.symm
        · exact absurd (m1 c h1) (lex_asymm (l1 d h2))
    subst e
    congr 1
    refine lex_one l2 m2 fun x => ?_
    have hx := h x
    rw [List.mem_cons, List.mem_cons] at hx
    constructor
    · intro k
      rcases hx.1 (.inr k) with e | e
      · subst e; exact absurd (l1 x k) (lex_irrefl x)
      · exact e
    · intro k
      rcases hx.2 (.inr k) with e | e
      · subst e; exact absurd (m1 x k) (lex_irrefl x)
      · exact e
/-- A heap let fall until it stands. -/
def stab (n : Int) : Nat → Odo → Odo
  | 0, u => u
  | k + 1, u => match gridL (fun a b => decide (4 ≤ hp n u a b)) (-6) 13 13 (-6) with
    | [] => u
    | c :: _ => stab n k (bump u c.1 c.2 1)
theorem stab_ok {n : Int} (hn : n ≤ 250) : ∀ (k : Nat) (u : Odo), Legal n u → (∀ a b, 0 ≤ hp n u a b) → 1209 - S2 u < k → Legal n (stab n k u) ∧ (∀ a b, 0 ≤ hp n (stab n k u) a b ∧ hp n (stab n k u) a b ≤ 3)
  | 0, u, h, _, hk => by have := (S2_bd h hn).2; omega
  | k + 1, u, h, hnn, hk => by
    unfold stab
    split
    · rename_i e
      refine ⟨h, fun a b => ⟨hnn a b, ?_⟩⟩
      by_cases q : -6 ≤ a ∧ a ≤ 6 ∧ -6 ≤ b ∧ b ≤ 6
      · by_cases q2 : 4 ≤ hp n u a b
        · have := (mem_gridL (fun a b => decide (4 ≤ hp n u a b)) (-6) 13 a b 13 (-6)).2 ⟨by omega, by omega, by omega, by omega, decide_eq_true q2⟩
          rw [e] at this
          simp at this
        · omega
      · rw [hp_out h hn q]; omega
    · rename_i c l e
      have hc : (c.1, c.2) ∈ gridL (fun a b => decide (4 ≤ hp n u a b)) (-6) 13 13 (-6) := by rw [e]; simp
      have h4 := of_decide_eq_true ((mem_gridL _ _ _ _ _ _ _).1 hc).2.2.2.2
      obtain ⟨h1, h2, h3, h5⟩ := h.topple hn (t := 1) (by omega) (x := c.1) (y := c.2) (by omega)
      refine stab_ok hn k _ h2 (fun a b => ?_) (by rw [h3]; omega)
      have := hnn a b
      rw [hp_bump]
      split
      · rename_i e2
        rw [e2.1, e2.2] at *
        omega
      · split <;> omega
def heapU (n : Int) : Odo := stab n 1210 (fun _ _ => 0)
def hotB (n : Int) (a b : Int) : Bool := decide (0 < hp n (heapU n) a b) || decide (0 < heapU n a b)
def heapCs (n : Int) : List (Int × Int) := gridL (hotB n) (-60) 121 121 (-60)
theorem heapU_ok {n : Int} (h : 0 ≤ n ∧ n ≤ 250) : Legal n (heapU n) ∧ (∀ a b, 0 ≤ hp n (heapU n) a b ∧ hp n (heapU n) a b ≤ 3) :=
  stab_ok h.2 1210 _ (Legal.zero n) (fun a b => by rw [hp_zero]; split <;> omega) (by rw [S2_nul]; decide)
theorem heapU_is {n : Int} (h : 0 ≤ n ∧ n ≤ 250) {u : Odo} (hu : Legal n u) (hs : ∀ a b, hp n u a b ≤ 3) : u = heapU n :=
  hu.unique (heapU_ok h).1 hs (fun a b => ((heapU_ok h).2 a b).2)
theorem hot_near {n : Int} {u : Odo} (hu : Legal n u) (hn : n ≤ 250) {a b : Int} (h : hot n u a b) : -6 ≤ a ∧ a ≤ 6 ∧ -6 ≤ b ∧ b ≤ 6 := by
  by_cases q : -6 ≤ a ∧ a ≤ 6 ∧ -6 ≤ b ∧ b ≤ 6
  · exact q
  · have h1 := hp_out hu hn q
    have h2 := hu.le hn a b
    rw [v250_out (by omega)] at h2
    unfold hot at h
    omega
theorem hotB_iff (n a b : Int) : hotB n a b = true ↔ hot n (heapU n) a b := by unfold hotB hot; simp
theorem mem_heapCs {n : Int} (h : 0 ≤ n ∧ n ≤ 250) (a b : Int) : (a, b) ∈ heapCs n ↔ hot n (heapU n) a b := by
  unfold heapCs
  rw [mem_gridL, hotB_iff]
  constructor
  · exact fun k => k.2.2.2.2
  · intro k
    have := hot_near (heapU_ok h).1 h.2 k
    exact ⟨by omega, by omega, by omega, by omega, k⟩
theorem HList.eq {n : Int} (h : 0 ≤ n ∧ n ≤ 250) {cs : List (Int × Int)} (hl : HList n (heapU n) 61 (-60) cs) : cs = heapCs n := by
  refine lex_one hl.sorted (sorted_gridL _ _ _ _ _) fun c => ?_
  have h1 := hl.finish c.1 c.2
  have h2 := mem_heapCs h c.1 c.2
  rw [h2, h1]
  constructor
  · exact fun k => k.2.2
  · intro k
    have := hot_near (heapU_ok h).1 h.2 k
    exact ⟨⟨by omega, by omega⟩, ⟨by omega, by omega⟩, k⟩
theorem sqF_le (v : Int) : ∀ (cs : List (Int × Int)) (m : Int), sqF m cs ≤ v ↔ m ≤ v ∧ ∀ c ∈ cs, sq c ≤ v
  | [], m => by simp [sqF]
  | c :: cs, m => by
    show sqF (if m > sq c then m else sq c) cs ≤ v ↔ _
    rw [sqF_le v cs]
    constructor
    · rintro ⟨h1, h2⟩
      refine ⟨by split at h1 <;> omega, fun d hd => ?_⟩
      rw [List.mem_cons] at hd
      rcases hd with rfl | hd
      · split at h1 <;> omega
      · exact h2 d hd
    · rintro ⟨h1, h2⟩
      have := h2 c (by simp)
      exact ⟨by split <;> omega, fun d hd => h2 d (by simp [hd])⟩
theorem sqF_same {cs ds : List (Int × Int)} (m : Int) (h : ∀ c, c ∈ cs ↔ c ∈ ds) : sqF m cs = sqF m ds := by
  have h1 := (sqF_le (sqF m ds) cs m).2 (by
    have := (sqF_le (sqF m ds) ds m).1 (Int.le_refl _)
    exact ⟨this.1, fun c hc => this.2 c ((h c).1 hc)⟩)
  have h2 := (sqF_le (sqF m cs) ds m).2 (by
    have := (sqF_le (sqF m cs) cs m).1 (Int.le_refl _)
    exact ⟨this.1, fun c hc => this.2 c ((h c).2 hc)⟩)
  omega
def heapV (n : Int) : Int := if 1 ≤ n ∧ n ≤ 250 then sqF 0 (heapCs n) else 0
def okHeap (n : Int) : Bool := decide (1 ≤ n ∧ n ≤ 250)
theorem heap_none : heapCs 0 = [] := by
  rcases hq : heapCs 0 with _ | ⟨c, l⟩
  · rfl
  · exfalso
    have h0 : (0 : Int) ≤ 0 ∧ (0 : Int) ≤ 250 := by omega
    have hz : heapU 0 = fun _ _ => 0 := ((heapU_is h0 (Legal.zero 0) (fun a b => by rw [hp_zero]; split <;> omega))).symm
    have h1 := (mem_heapCs h0 c.1 c.2).1 (by rw [hq]; simp)
    rw [hz] at h1
    unfold hot at h1
    rw [hp_zero] at h1
    simp only [Int.lt_irrefl, or_false] at h1
    split at h1 <;> omega
end Go.Proofs.Ytjedhjeijpbobaa.G8

/-! ## Hr -/
namespace Go.Proofs.Ytjedhjeijpbobaa.G8
open Go.RowKit Go.Maps Go.MapKept Go.WideShapes Go.ChangeMaps Go.Proofs.YtjedhjeijpbobaaW.PrintWords Go.Proofs.YtjedhjeijpbobaaW.PrintLast Go.Proofs.YtjedhjeijpbobaaW.PrintMore
set_option linter.unusedVariables false
set_option linter.unusedSimpArgs false
theorem zeroAll (u : World) : (zeroValue 3).run Try.prog u = .ok (.int .i64 0) u := zero3 u
set_option maxRecDepth 100000 in
/-- 'm[k]': what the field tells, or 0. -/
theorem MapIs.look0 {w : World} {gm N : Nat} {F : Fld} (h : MapIs w gm N F) {x y : Int} (hx : (Lit.int .i64 x).wf = true) (hy : (Lit.int .i64 y).wf = true) :
    (Instr.lookup 67 (.map (some gm)) (cellV x y) false).run Try.prog w = .ok (.int .i64 ((F x y).getD 0)) w := by
  obtain ⟨D, hown, hfi⟩ := h
  have hhas := hfi.has x y hx hy
  have hval := hfi.val x y
  obtain ⟨es, clock, hb, Ft, hs, rfl⟩ := hown
  rcases Maps.fit_look false law76 Try.underlying67 (zeroAll w) hb Ft (key_is x y hx hy) with ⟨hrun, _, hat⟩ | ⟨e0, q, _, _, hrun, hRv, hat, _⟩
  · rw [Maps.has_false_of_atKey hat] at hhas
    rw [hrun]
    cases hF : F x y with
    | none => rfl
    | some r => rw [hF] at hhas; cases hhas
  · rw [Maps.has_true_of_atKey hat] at hhas
    rw [hrun]
    cases hF : F x y with
    | none => rw [hF] at hhas; cases hhas
    | some r =>
      have h1 := hval r hx hy hF
      rw [hat] at h1
      obtain ⟨c, hc1, hc2, _⟩ := plainElem_int_inv Try.underlying3 hRv
      have h2 := congrArg Prod.fst hc2
      rw [h1] at h2
      simp only at h2
      injection h2 with h2
      injection h2 with _ h2
      simp only [Bool.false_eq_true, if_false]
      rw [hc1, ← h2]
      rfl
set_option maxRecDepth 100000 in
/-- Looking up again, once the entry is there. -/
theorem look_mid {w w6 : World} {gm N : Nat} {F : Fld} (h : MapIs w gm N F) {x y : Int} (hx : (Lit.int .i64 x).wf = true) (hy : (Lit.int .i64 y).wf = true) (hN : N ≤ 80000000) {v : Value}
    (hrun : (Instr.mapEntry 67 (.map (some gm)) (cellV x y)).run Try.prog w = .ok v w6) : (Instr.lookup 67 (.map (some gm)) (cellV x y) false).run Try.prog w6 = .ok (.int .i64 ((F x y).getD 0)) w6 := by
  have hkey := key_is x y hx hy
  have hM := h
  obtain ⟨D, hown, hfi⟩ := h
  have hhas := hfi.has x y hx hy
  obtain ⟨w8, u1, u2, _⟩ := hown.update law76 Try.underlying67 (by unfold maxLen; omega) hkey (plainElem_int (a := 0) Try.underlying3 (by decide))
  have hM8 : MapIs w8 gm (N + 1) (upd F x y 0) := ⟨_, u2, hfi.put hown.isMap hx hy⟩
  obtain ⟨es, clock, hb, Ft, hs, rfl⟩ := hown
  rcases klaw76.find w hkey es.toList Ft.keys with ⟨h1, h2⟩ | ⟨j, e0, h1, h2, h3⟩
  · simp [Instr.mapEntry, run_underlying Try.underlying67, MapKept.run_getObj_map hb, klaw76.check w false hkey, h1, zeroAll, MapKept.run_setObj_map _ hb, Result.andThen] at hrun
    simp [Instr.mapUpdate, run_underlying Try.underlying67, MapKept.run_getObj_map hb, klaw76.check w false hkey, h1, MapKept.run_setObj_map _ hb, Result.andThen] at u1
    have e : w8 = w6 := u1.symm.trans hrun.2
    rw [e] at hM8
    have hl := hM8.look0 hx hy
    have hF : F x y = none := by
      rcases Maps.fit_look false law76 Try.underlying67 (zeroAll w) hb Ft hkey with ⟨_, _, hat⟩ | ⟨q0, q, q1, q2, _⟩
      · rw [Maps.has_false_of_atKey hat] at hhas
        cases hF : F x y with
        | none => rfl
        | some r => rw [hF] at hhas; cases hhas
      · exact absurd q2 (h2 q0 q1)
    rw [hF]
    have e2 : (upd F x y 0 x y).getD 0 = 0 := by unfold upd; rw [if_pos ⟨rfl, rfl⟩]; rfl
    rw [e2] at hl
    exact hl
  · have hj : es[j]? = some e0 := by simpa using h2
    simp [Instr.mapEntry, run_underlying Try.underlying67, MapKept.run_getObj_map hb, klaw76.check w false hkey, h1, hj, h3, klaw76.stays w hkey, MapKept.run_setObj_map _ hb, Result.andThen] at hrun
    have hsame : es.modify j (fun e => { e with key := cellV x y }) = es := by
      apply Array.ext'
      rw [Array.toList_modify]
      apply List.ext_getElem?
      intro i
      rw [List.getElem?_modify]
      by_cases q : j = i
      · subst q
        rw [h2]
        simp [← h3]
      · simp [q]
    have e : w6.heap[gm]? = w.heap[gm]? := by
      rw [← hrun.2, hsame]
      first
        | exact (heap_setBlock_same hb _).trans hb.symm
        | exact (MapKept.heap_set hb).1.trans hb.symm
        | (simp [hb]; done)
        | (trace_state; fail)
    exact (hM.move e).look0 hx hy
set_option maxRecDepth 100000 in
/-- 'm[k] op= v' in its parts: the look-up, ahead of the entry and behind it; the entry; the store into it. -/
theorem MapIs.entry {w : World} {gm N : Nat} {F : Fld} (h : MapIs w gm N F) {x y : Int} (hx : (Lit.int .i64 x).wf = true) (hy : (Lit.int .i64 y).wf = true) (hN : N ≤ 80000000) {r : Int} (hr : (Lit.int .i64 r).wf = true) :
    ∃ (c : Value) (st : Int) (w6 w8 : World), (Instr.mapEntry 67 (.map (some gm)) (cellV x y)).run Try.prog w = .ok (.tuple #[c, .int .i64 st]) w6 ∧ w.grownBy w6 (some gm) ∧
      (Instr.lookup 67 (.map (some gm)) (cellV x y) false).run Try.prog w6 = .ok (.int .i64 ((F x y).getD 0)) w6 ∧
      (Instr.entryStore 67 (.map (some gm)) (.int .i64 st) (.int .i64 r)).run Try.prog w6 = .ok () w8 ∧ MapIs w8 gm (N + 1) (upd F x y r) ∧ w6.grownBy w8 (some gm) := by
  have hkey := key_is x y hx hy
  have hM := h
  obtain ⟨D, hown, hfi⟩ := h
  obtain ⟨w9, u1, u2, u3⟩ := hown.update law76 Try.underlying67 (by unfold maxLen; omega) hkey (plainElem_int (a := r) Try.underlying3 hr)
  have hM9 : MapIs w9 gm (N + 1) (upd F x y r) := ⟨_, u2, hfi.put hown.isMap hx hy⟩
  obtain ⟨es, clock, hb, Ft, hs, rfl⟩ := hown
  obtain ⟨v0, st, es1, clock1, hE, _, hS⟩ := WideElems.entry_then_store klaw76 Try.underlying67 zeroAll hb Ft hkey
  have hb6 : (setBlock w gm (.map es1 clock1)).heap[gm]? = some (.map es1 clock1) := heap_setBlock_same hb _
  obtain ⟨es', clock', hS1, hS2⟩ := hS (setBlock w gm (.map es1 clock1)) (.int .i64 r) hb6
  have e9 : w9 = setBlock w gm (.map es' clock') := by
    rw [hS2] at u1
    injection u1 with _ u1
    exact u1.symm
  have e8 : (setBlock (setBlock w gm (.map es1 clock1)) gm (.map es' clock')).heap[gm]? = w9.heap[gm]? := by
    rw [heap_setBlock_same hb6, e9, heap_setBlock_same hb]
  refine ⟨v0, st, setBlock w gm (.map es1 clock1), setBlock (setBlock w gm (.map es1 clock1)) gm (.map es' clock'), hE, ?_, look_mid hM hx hy hN hE, hS1, hM9.move e8, ?_⟩
  · exact ⟨rfl, rfl, rfl, by simp [setBlock], fun i _ hi => heap_setBlock_other hb _ (fun e => hi (by rw [e]))⟩
  · exact ⟨rfl, rfl, rfl, by simp [setBlock], fun i _ hi => heap_setBlock_other hb6 _ (fun e => hi (by rw [e]))⟩
end Go.Proofs.Ytjedhjeijpbobaa.G8
