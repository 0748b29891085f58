/-
  The heap's end, as a function of the number of chips.
-/
import Derived.Test.YtjedhjeijpbobaaHx
import Derived.Test.YtjedhjeijpbobaaFe
namespace Go.Proofs.Ytjedhjeijpbobaa.G8
set_option linter.unusedVariables false
set_option linter.unusedSimpArgs false
def rowL (p : Int → Int → Bool) (x : Int) : Nat → Int → List (Int × Int)
  | 0, _ => []
  | k + 1, y => if p x y = true then (x, y) :: rowL p x k (y + 1) else rowL p x k (y + 1)
def gridL (p : Int → Int → Bool) (lo : Int) (m : Nat) : Nat → Int → List (Int × Int)
  | 0, _ => []
  | k + 1, x => rowL p x m lo ++ gridL p lo m k (x + 1)
theorem mem_rowL (p : Int → Int → Bool) (x a b : Int) : ∀ (k : Nat) (y : Int), (a, b) ∈ rowL p x k y ↔ a = x ∧ y ≤ b ∧ b < y + k ∧ p a b = true
  | 0, y => by simp [rowL]; omega
  | k + 1, y => by
    have ih := mem_rowL p x a b k (y + 1)
    unfold rowL
    by_cases q : p x y = true
    · rw [if_pos q, List.mem_cons, ih, Prod.mk.injEq]
      constructor
      · rintro (⟨rfl, rfl⟩ | ⟨h1, h2, h3, h4⟩)
        · exact ⟨rfl, by omega, by omega, q⟩
        · exact ⟨h1, by omega, by omega, h4⟩
      · rintro ⟨h1, h2, h3, h4⟩
        by_cases e : b = y
        · exact .inl ⟨h1, e⟩
        · exact .inr ⟨h1, by omega, by omega, h4⟩
    · rw [if_neg q, ih]
      constructor
      · rintro ⟨h1, h2, h3, h4⟩; exact ⟨h1, by omega, by omega, h4⟩
      · rintro ⟨h1, h2, h3, h4⟩
        have e : b ≠ y := by rintro rfl; rw [h1] at h4; exact q h4
        exact ⟨h1, by omega, by omega, h4⟩
theorem mem_gridL (p : Int → Int → Bool) (lo : Int) (m : Nat) (a b : Int) : ∀ (k : Nat) (x : Int), (a, b) ∈ gridL p lo m k x ↔ x ≤ a ∧ a < x + k ∧ lo ≤ b ∧ b < lo + m ∧ p a b = true
  | 0, x => by simp [gridL]; omega
  | k + 1, x => by
    unfold gridL
    rw [List.mem_append, mem_rowL, mem_gridL p lo m a b k (x + 1)]
    constructor
    · rintro (⟨rfl, h2, h3, h4⟩ | ⟨h1, h2, h3, h4, h5⟩)
      · exact ⟨by omega, by omega, h2, h3, h4⟩
      · exact ⟨by omega, by omega, h3, h4, h5⟩
    · rintro ⟨h1, h2, h3, h4, h5⟩
      by_cases e : a = x
      · exact .inl ⟨e, h3, h4, h5⟩
      · exact .inr ⟨by omega, by omega, h3, h4, h5⟩
theorem sorted_rowL (p : Int → Int → Bool) (x : Int) : ∀ (k : Nat) (y : Int), (rowL p x k y).Pairwise lexLt
  | 0, y => List.Pairwise.nil
  | k + 1, y => by
    have ih := sorted_rowL p x k (y + 1)
    unfold rowL
    split
    · refine List.Pairwise.cons (fun c hc => ?_) ih
      have := (mem_rowL p x c.1 c.2 k (y + 1)).1 hc
      unfold lexLt
      simp only
      omega
    · exact ih
theorem sorted_gridL (p : Int → Int → Bool) (lo : Int) (m : Nat) : ∀ (k : Nat) (x : Int), (gridL p lo m k x).Pairwise lexLt
  | 0, x => List.Pairwise.nil
  | k + 1, x => by
    unfold gridL
    rw [List.pairwise_append]
    refine ⟨sorted_rowL p x m lo, sorted_gridL p lo m k (x + 1), fun c hc d hd => ?_⟩
    have h1 := (mem_rowL p x c.1 c.2 m lo).1 hc
    have h2 := (mem_gridL p lo m d.1 d.2 k (x + 1)).1 hd
    unfold lexLt
    omega
theorem lex_irrefl (c : Int × Int) : ¬ lexLt c c := by unfold lexLt; omega
theorem lex_asymm {c d : Int × Int} (h : lexLt c d) : ¬ lexLt d c := by unfold lexLt at *; omega
/-- Two lists in order with the same members are one. -/
theorem lex_one : ∀ {l m : List (Int × Int)}, l.Pairwise lexLt → m.Pairwise lexLt → (∀ c, c ∈ l ↔ c ∈ m) → l = m
  | [], [], _, _, _ => rfl
  | [], d :: m, _, _, h => absurd ((h d).2 (by simp)) (by simp)
  | c :: l, [], _, _, h => absurd ((h c).1 (by simp)) (by simp)
  | c :: l, d :: m, hl, hm, h => by
    obtain ⟨l1, l2⟩ := List.pairwise_cons.1 hl
    obtain ⟨m1, m2⟩ := List.pairwise_cons.1 hm
    have e : c = d := by
      have h1 := (h c).1 (by simp)
      have h2 := (h d).2 (by simp)
      rw [List.mem_cons] at h1 h2
      rcases h1 with h1 | h1
      · exact h1
      · rcases h2 with h2 | h2
        · exact h2.symm
        · exact absurd (m1 c h1) (lex_asymm (l1 d h2))
    subst e
    congr 1
    refine lex_one l2 m2 fun x => ?_
    have hx := h x
    rw [List.mem_cons, List.mem_cons] at hx
    constructor
    · intro k
      rcases hx.1 (.inr k) with e | e
      · subst e; exact absurd (l1 x k) (lex_irrefl x)
      · exact e
    · intro k
      rcases hx.2 (.inr k) with e | e
      · subst e; exact absurd (m1 x k) (lex_irrefl x)
      · exact e
/-- A heap let fall until it stands. -/
def stab (n : Int) : Nat → Odo → Odo
  | 0, u => u
  | k + 1, u => match gridL (fun a b => decide (4 ≤ hp n u a b)) (-6) 13 13 (-6) with
    | [] => u
    | c :: _ => stab n k (bump u c.1 c.2 1)
theorem stab_ok {n : Int} (hn : n ≤ 250) : ∀ (k : Nat) (u : Odo), Legal n u → (∀ a b, 0 ≤ hp n u a b) → 1209 - S2 u < k → Legal n (stab n k u) ∧ (∀ a b, 0 ≤ hp n (stab n k u) a b ∧ hp n (stab n k u) a b ≤ 3)
  | 0, u, h, _, hk => by have := (S2_bd h hn).2; omega
  | k + 1, u, h, hnn, hk => by
    unfold stab
    split
    · rename_i e
      refine ⟨h, fun a b => ⟨hnn a b, ?_⟩⟩
      by_cases q : -6 ≤ a ∧ a ≤ 6 ∧ -6 ≤ b ∧ b ≤ 6
      · by_cases q2 : 4 ≤ hp n u a b
        · have := (mem_gridL (fun a b => decide (4 ≤ hp n u a b)) (-6) 13 a b 13 (-6)).2 ⟨by omega, by omega, by omega, by omega, decide_eq_true q2⟩
          rw [e] at this
          simp at this
        · omega
      · rw [hp_out h hn q]; omega
    · rename_i c l e
      have hc : (c.1, c.2) ∈ gridL (fun a b => decide (4 ≤ hp n u a b)) (-6) 13 13 (-6) := by rw [e]; simp
      have h4 := of_decide_eq_true ((mem_gridL _ _ _ _ _ _ _).1 hc).2.2.2.2
      obtain ⟨h1, h2, h3, h5⟩ := h.topple hn (t := 1) (by omega) (x := c.1) (y := c.2) (by omega)
      refine stab_ok hn k _ h2 (fun a b => ?_) (by rw [h3]; omega)
      have := hnn a b
      rw [hp_bump]
      split
      · rename_i e2
        rw [e2.1, e2.2] at *
        omega
      · split <;> omega
def heapU (n : Int) : Odo := stab n 1210 (fun _ _ => 0)
def hotB (n : Int) (a b : Int) : Bool := decide (0 < hp n (heapU n) a b) || decide (0 < heapU n a b)
def heapCs (n : Int) : List (Int × Int) := gridL (hotB n) (-60) 121 121 (-60)
theorem heapU_ok {n : Int} (h : 0 ≤ n ∧ n ≤ 250) : Legal n (heapU n) ∧ (∀ a b, 0 ≤ hp n (heapU n) a b ∧ hp n (heapU n) a b ≤ 3) :=
  stab_ok h.2 1210 _ (Legal.zero n) (fun a b => by rw [hp_zero]; split <;> omega) (by rw [S2_nul]; decide)
theorem heapU_is {n : Int} (h : 0 ≤ n ∧ n ≤ 250) {u : Odo} (hu : Legal n u) (hs : ∀ a b, hp n u a b ≤ 3) : u = heapU n :=
  hu.unique (heapU_ok h).1 hs (fun a b => ((heapU_ok h).2 a b).2)
theorem hot_near {n : Int} {u : Odo} (hu : Legal n u) (hn : n ≤ 250) {a b : Int} (h : hot n u a b) : -6 ≤ a ∧ a ≤ 6 ∧ -6 ≤ b ∧ b ≤ 6 := by
  by_cases q : -6 ≤ a ∧ a ≤ 6 ∧ -6 ≤ b ∧ b ≤ 6
  · exact q
  · have h1 := hp_out hu hn q
    have h2 := hu.le hn a b
    rw [v250_out (by omega)] at h2
    unfold hot at h
    omega
theorem hotB_iff (n a b : Int) : hotB n a b = true ↔ hot n (heapU n) a b := by unfold hotB hot; simp
theorem mem_heapCs {n : Int} (h : 0 ≤ n ∧ n ≤ 250) (a b : Int) : (a, b) ∈ heapCs n ↔ hot n (heapU n) a b := by
  unfold heapCs
  rw [mem_gridL, hotB_iff]
  constructor
  · exact fun k => k.2.2.2.2
  · intro k
    have := hot_near (heapU_ok h).1 h.2 k
    exact ⟨by omega, by omega, by omega, by omega, k⟩
theorem HList.eq {n : Int} (h : 0 ≤ n ∧ n ≤ 250) {cs : List (Int × Int)} (hl : HList n (heapU n) 61 (-60) cs) : cs = heapCs n := by
  refine lex_one hl.sorted (sorted_gridL _ _ _ _ _) fun c => ?_
  have h1 := hl.finish c.1 c.2
  have h2 := mem_heapCs h c.1 c.2
  rw [h2, h1]
  constructor
  · exact fun k => k.2.2
  · intro k
    have := hot_near (heapU_ok h).1 h.2 k
    exact ⟨⟨by omega, by omega⟩, ⟨by omega, by omega⟩, k⟩
theorem sqF_le (v : Int) : ∀ (cs : List (Int × Int)) (m : Int), sqF m cs ≤ v ↔ m ≤ v ∧ ∀ c ∈ cs, sq c ≤ v
  | [], m => by simp [sqF]
  | c :: cs, m => by
    show sqF (if m > sq c then m else sq c) cs ≤ v ↔ _
    rw [sqF_le v cs]
    constructor
    · rintro ⟨h1, h2⟩
      refine ⟨by split at h1 <;> omega, fun d hd => ?_⟩
      rw [List.mem_cons] at hd
      rcases hd with rfl | hd
      · split at h1 <;> omega
      · exact h2 d hd
    · rintro ⟨h1, h2⟩
      have := h2 c (by simp)
      exact ⟨by split <;> omega, fun d hd => h2 d (by simp [hd])⟩
theorem sqF_same {cs ds : List (Int × Int)} (m : Int) (h : ∀ c, c ∈ cs ↔ c ∈ ds) : sqF m cs = sqF m ds := by
  have h1 := (sqF_le (sqF m ds) cs m).2 (by
    have := (sqF_le (sqF m ds) ds m).1 (Int.le_refl _)
    exact ⟨this.1, fun c hc => this.2 c ((h c).1 hc)⟩)
  have h2 := (sqF_le (sqF m cs) ds m).2 (by
    have := (sqF_le (sqF m cs) cs m).1 (Int.le_refl _)
    exact ⟨this.1, fun c hc => this.2 c ((h c).2 hc)⟩)
  omega
def heapV (n : Int) : Int := if 1 ≤ n ∧ n ≤ 250 then sqF 0 (heapCs n) else 0
def okHeap (n : Int) : Bool := decide (1 ≤ n ∧ n ≤ 250)
theorem heap_none : heapCs 0 = [] := by
  rcases hq : heapCs 0 with _ | ⟨c, l⟩
  · rfl
  · exfalso
    have h0 : (0 : Int) ≤ 0 ∧ (0 : Int) ≤ 250 := by omega
    have hz : heapU 0 = fun _ _ => 0 := ((heapU_is h0 (Legal.zero 0) (fun a b => by rw [hp_zero]; split <;> omega))).symm
    have h1 := (mem_heapCs h0 c.1 c.2).1 (by rw [hq]; simp)
    rw [hz] at h1
    unfold hot at h1
    rw [hp_zero] at h1
    simp only [Int.lt_irrefl, or_false] at h1
    split at h1 <;> omega
end Go.Proofs.Ytjedhjeijpbobaa.G8
