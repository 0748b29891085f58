/-
  The walk of chips on a branching tree as a plain function of numbers and lists, and that 200 chips of every tree that may be asked for come to an end: no Go and no memory here.
-/
namespace Go.Proofs.Ytmechelmnpoddaa.Es

/-- A list's number at a place, 0 behind its end. -/
def nth (l : List Nat) (i : Nat) : Nat := l.getD i 0

/-- One chip, from the node 'at' on the level 'lv', behind 'st' steps: whether it escapes, its steps, the rotors, the visits. -/
def run (b inner : Nat) : Nat → Nat → Nat → Nat → List Nat → List Nat → Option (Bool × Nat × List Nat × List Nat)
  | 0, _, _, _, _, _ => none
  | k + 1, at_, lv, st, rot, vis =>
    if at_ < inner then
      if st < 100000 ∧ nth rot at_ ≤ b then
        if 0 < (nth rot at_ + 1) % (b + 1) then
          if lv + 1 < vis.length ∧ nth vis (lv + 1) < 100000 then
            run b inner k (at_ * b + (nth rot at_ + 1) % (b + 1)) (lv + 1) (st + 1) (rot.set at_ ((nth rot at_ + 1) % (b + 1))) (vis.set (lv + 1) (nth vis (lv + 1) + 1))
          else none
        else if at_ = 0 then (if lv = 0 then some (false, st + 1, rot.set at_ ((nth rot at_ + 1) % (b + 1)), vis) else none)
        else if 0 < lv ∧ lv - 1 < vis.length ∧ nth vis (lv - 1) < 100000 then
          run b inner k ((at_ - 1) / b) (lv - 1) (st + 1) (rot.set at_ ((nth rot at_ + 1) % (b + 1))) (vis.set (lv - 1) (nth vis (lv - 1) + 1))
        else none
      else none
    else some (true, st, rot, vis)

/-- One chip, from the root. -/
def chip (b inner : Nat) (rot vis : List Nat) : Option (Bool × Nat × List Nat × List Nat) :=
  if 0 < vis.length ∧ nth vis 0 < 100000 then run b inner 5000 0 0 0 rot (vis.set 0 (nth vis 0 + 1)) else none

/-- 1 for a chip that escapes, 0 for one that comes home. -/
def endN (e : Bool) : Nat := if e then 1 else 0

structure St where
  rot : List Nat
  vis : List Nat
  ends : List Nat
  trips : List Nat

/-- n chips, one after the other. -/
def chips (b inner : Nat) : Nat → St → Option St
  | 0, s => some s
  | n + 1, s => match chip b inner s.rot s.vis with
    | none => none
    | some (e, st, rot, vis) => chips b inner n ⟨rot, vis, s.ends ++ [endN e], s.trips ++ [st]⟩

def start (d inner k : Nat) : St := ⟨List.replicate inner k, List.replicate (d + 1) 0, [], []⟩

def inner (b d : Nat) : Nat := (b ^ d - 1) / (b - 1)

/-- The trees that may be asked for. -/
def trees : List (Nat × Nat) := [(2, 1), (2, 2), (2, 3), (2, 4), (2, 5), (2, 6), (3, 1), (3, 2), (3, 3), (3, 4)]

/-! ### The same over packed lists, for the kernel's reckoning -/
/-- A number that is reckoned before it is handed on. -/
def fN {α : Type} (n : Nat) (f : Nat → α) : α := match n with | 0 => f 0 | m + 1 => f (m + 1)
theorem fN_eq {α : Type} (n : Nat) (f : Nat → α) : fN n f = f n := by cases n <;> rfl

def runP (b inner nv : Nat) : Nat → Nat → Nat → Nat → Nat → Nat → Option (Bool × Nat × Nat × Nat)
  | 0, _, _, _, _, _ => none
  | k + 1, at_, lv, st, R, V =>
    bif Nat.blt at_ inner then
      fN ((R >>> (2 * at_)) % 4) fun old =>
      bif (Nat.blt st 100000 && Nat.ble old b) then
        fN ((old + 1) % (b + 1)) fun r =>
        fN ((R + r <<< (2 * at_)) - old <<< (2 * at_)) fun R1 =>
        bif Nat.blt 0 r then
          fN ((V >>> (20 * (lv + 1))) % 1048576) fun ov =>
          bif (Nat.blt (lv + 1) nv && Nat.blt ov 100000) then
            fN (at_ * b + r) fun at1 => fN (st + 1) fun st1 => fN (lv + 1) fun lv1 => fN (V + 1 <<< (20 * lv1)) fun V1 => runP b inner nv k at1 lv1 st1 R1 V1
          else none
        else bif Nat.beq at_ 0 then (bif Nat.beq lv 0 then some (false, st + 1, R1, V) else none)
        else
          fN ((V >>> (20 * (lv - 1))) % 1048576) fun ov =>
          bif (Nat.blt 0 lv && Nat.blt (lv - 1) nv && Nat.blt ov 100000) then
          fN ((at_ - 1) / b) fun at1 => fN (st + 1) fun st1 => fN (lv - 1) fun lv1 => fN (V + 1 <<< (20 * lv1)) fun V1 => runP b inner nv k at1 lv1 st1 R1 V1
        else none
      else none
    else some (true, st, R, V)
def chipsP (b inner nv : Nat) : Nat → Nat → Nat → Bool
  | 0, _, _ => true
  | n + 1, R, V => bif (Nat.blt 0 nv && Nat.blt (V % 1048576) 100000) then match runP b inner nv 5000 0 0 0 R (V + 1) with
    | none => false
    | some (_, _, R1, V1) => chipsP b inner nv n R1 V1
    else false
def okP (b d k : Nat) : Bool := chipsP b (inner b d) (d + 1) 200 (k * ((4 ^ inner b d - 1) / 3)) 0
theorem all_okP : (trees.all fun p => (List.range (p.1 + 1)).all fun k => okP p.1 p.2 k) = true := by decide +kernel

/-- A list as one number. -/
def pk (B : Nat) : List Nat → Nat
  | [] => 0
  | x :: t => x + B * pk B t
theorem pk_get (B : Nat) (hB : 0 < B) : ∀ (l : List Nat) (i : Nat), (∀ x ∈ l, x < B) → pk B l / B ^ i % B = nth l i
  | [], i, _ => by simp [pk, nth]
  | x :: t, 0, h => by
    have hx : x < B := h x (by simp)
    simp [pk, nth, Nat.add_mul_mod_self_left, Nat.mod_eq_of_lt hx]
  | x :: t, i + 1, h => by
    have hx : x < B := h x (by simp)
    have ih := pk_get B hB t i (fun y hy => h y (by simp [hy]))
    have e : (x + B * pk B t) / B ^ (i + 1) = pk B t / B ^ i := by
      rw [Nat.pow_succ, Nat.mul_comm (B ^ i) B, ← Nat.div_div_eq_div_mul, Nat.add_mul_div_left _ _ hB, Nat.div_eq_of_lt hx, Nat.zero_add]
    simp only [pk]
    rw [e, ih]
    simp [nth]
theorem pk_set (B : Nat) : ∀ (l : List Nat) (i r : Nat), i < l.length → pk B (l.set i r) + nth l i * B ^ i = pk B l + r * B ^ i
  | [], i, r, h => by simp at h
  | x :: t, 0, r, _ => by simp [pk, nth]; omega
  | x :: t, i + 1, r, h => by
    have ih := pk_set B t i r (by simpa using h)
    simp only [List.set_cons_succ, pk]
    have e1 : nth (x :: t) (i + 1) = nth t i := by simp [nth]
    rw [e1]
    have hp : B ^ (i + 1) = B * B ^ i := by rw [Nat.pow_succ, Nat.mul_comm]
    have m1 : nth t i * (B * B ^ i) = B * (nth t i * B ^ i) := by rw [Nat.mul_left_comm]
    have m2 : r * (B * B ^ i) = B * (r * B ^ i) := by rw [Nat.mul_left_comm]
    rw [hp, m1, m2]
    have := congrArg (B * ·) ih
    simp only [Nat.mul_add] at this
    omega
theorem pk_set_eq (B : Nat) (l : List Nat) (i r : Nat) (h : i < l.length) : (pk B l + r * B ^ i) - nth l i * B ^ i = pk B (l.set i r) := by
  have := pk_set B l i r h
  omega
theorem pk_replicate4 (n k : Nat) : pk 4 (List.replicate n k) = k * ((4 ^ n - 1) / 3) := by
  have h3 : ∀ n, 3 * ((4 ^ n - 1) / 3) + 1 = 4 ^ n := by
    intro n
    induction n with
    | zero => rfl
    | succ n ih => rw [Nat.pow_succ]; omega
  induction n with
  | zero => simp [pk]
  | succ n ih =>
    rw [List.replicate_succ]
    simp only [pk]
    rw [ih]
    have a := h3 n
    have c := h3 (n + 1)
    have hp : 4 ^ (n + 1) = 4 * 4 ^ n := by rw [Nat.pow_succ, Nat.mul_comm]
    have e : (4 ^ (n + 1) - 1) / 3 = 1 + 4 * ((4 ^ n - 1) / 3) := by omega
    rw [e, Nat.mul_add, Nat.mul_one, Nat.mul_left_comm]
theorem pk_replicate0 (B n : Nat) : pk B (List.replicate n 0) = 0 := by
  induction n with
  | zero => rfl
  | succ n ih => rw [List.replicate_succ]; simp only [pk]; rw [ih]; simp

/-- What is packed is well: numbers below the base. -/
structure Fits (inner nv : Nat) (rot vis : List Nat) : Prop where
  lr : rot.length = inner
  br : ∀ x ∈ rot, x < 4
  lv : vis.length = nv
  bv : ∀ x ∈ vis, x < 1048576

theorem mem_set {l : List Nat} {i r B : Nat} (h : ∀ x ∈ l, x < B) (hr : r < B) : ∀ x ∈ l.set i r, x < B := by
  intro x hx
  rcases List.mem_or_eq_of_mem_set hx with h1 | h1
  · exact h x h1
  · omega

theorem getR {inner nv : Nat} {rot vis : List Nat} (f : Fits inner nv rot vis) (i : Nat) : (pk 4 rot >>> (2 * i)) % 4 = nth rot i := by
  rw [Nat.shiftRight_eq_div_pow, Nat.pow_mul]
  exact pk_get 4 (by decide) rot i f.br
theorem getV {inner nv : Nat} {rot vis : List Nat} (f : Fits inner nv rot vis) (i : Nat) : (pk 1048576 vis >>> (20 * i)) % 1048576 = nth vis i := by
  rw [Nat.shiftRight_eq_div_pow, Nat.pow_mul]
  exact pk_get 1048576 (by decide) vis i f.bv
theorem setR {inner nv : Nat} {rot vis : List Nat} (f : Fits inner nv rot vis) (i r : Nat) (hi : i < inner) : (pk 4 rot + r <<< (2 * i)) - nth rot i <<< (2 * i) = pk 4 (rot.set i r) := by
  rw [Nat.shiftLeft_eq, Nat.shiftLeft_eq, Nat.pow_mul]
  exact pk_set_eq 4 rot i r (by rw [f.lr]; exact hi)
theorem setV {inner nv : Nat} {rot vis : List Nat} (f : Fits inner nv rot vis) (i : Nat) (hi : i < nv) : pk 1048576 vis + 1 <<< (20 * i) = pk 1048576 (vis.set i (nth vis i + 1)) := by
  rw [Nat.shiftLeft_eq, Nat.pow_mul]
  have := pk_set 1048576 vis i (nth vis i + 1) (by rw [f.lv]; exact hi)
  have e : (nth vis i + 1) * 1048576 ^ i = nth vis i * 1048576 ^ i + 1 * 1048576 ^ i := Nat.add_mul _ _ _
  show pk 1048576 vis + 1 * 1048576 ^ i = _
  omega
theorem getD_of_le {l : List Nat} {i : Nat} (h : ¬ i < l.length) : nth l i = 0 := by
  unfold nth
  rw [List.getD_eq_getElem?_getD, List.getElem?_eq_none (by omega)]; rfl

theorem run_of_P (b inner nv : Nat) (hb : b ≤ 3) : ∀ (k at_ lv st : Nat) (rot vis : List Nat), Fits inner nv rot vis → ∀ e s R V,
    runP b inner nv k at_ lv st (pk 4 rot) (pk 1048576 vis) = some (e, s, R, V) →
    ∃ rot1 vis1, run b inner k at_ lv st rot vis = some (e, s, rot1, vis1) ∧ R = pk 4 rot1 ∧ V = pk 1048576 vis1 ∧ Fits inner nv rot1 vis1 := by
  intro k
  induction k with
  | zero => intro at_ lv st rot vis _ e s R V h; simp [runP] at h
  | succ k ih =>
    intro at_ lv st rot vis f e s R V h
    simp only [runP, fN_eq, getR f] at h
    simp only [run]
    by_cases h1 : at_ < inner
    · have hB : Nat.blt at_ inner = true := by simpa using h1
      rw [hB, cond_true] at h
      rw [if_pos h1]
      by_cases h2 : st < 100000 ∧ nth rot at_ ≤ b
      · have hB2 : (Nat.blt st 100000 && Nat.ble (nth rot at_) b) = true := by simpa using h2
        rw [hB2, cond_true] at h
        rw [if_pos h2]
        have hr4 : (nth rot at_ + 1) % (b + 1) < 4 := Nat.lt_of_lt_of_le (Nat.mod_lt _ (by omega)) (by omega)
        rw [setR f _ _ h1] at h
        have f1 : Fits inner nv (rot.set at_ ((nth rot at_ + 1) % (b + 1))) vis := ⟨by rw [List.length_set]; exact f.lr, mem_set f.br hr4, f.lv, f.bv⟩
        generalize hr : (nth rot at_ + 1) % (b + 1) = r at *
        by_cases h3 : 0 < r
        · have hB3 : Nat.blt 0 r = true := by simpa using h3
          rw [hB3, cond_true, getV f] at h
          rw [if_pos h3]
          by_cases h4 : lv + 1 < vis.length ∧ nth vis (lv + 1) < 100000
          · have hB4 : (Nat.blt (lv + 1) nv && Nat.blt (nth vis (lv + 1)) 100000) = true := by rw [← f.lv]; simpa using h4
            rw [hB4, cond_true, setV f _ (by rw [← f.lv]; exact h4.1)] at h
            rw [if_pos h4]
            exact ih _ _ _ _ _ ⟨f1.lr, f1.br, by rw [List.length_set]; exact f.lv, mem_set f.bv (by omega)⟩ e s R V h
          · have hB4 : (Nat.blt (lv + 1) nv && Nat.blt (nth vis (lv + 1)) 100000) = false := by
              rw [← f.lv, Bool.eq_false_iff]; intro hh; exact h4 (by simpa using hh)
            rw [hB4, cond_false] at h
            cases h
        · have hB3 : Nat.blt 0 r = false := by rw [Bool.eq_false_iff]; intro hh; exact h3 (by simpa using hh)
          rw [hB3, cond_false] at h
          rw [if_neg h3]
          by_cases h5 : at_ = 0
          · have hB5 : Nat.beq at_ 0 = true := by rw [h5]; rfl
            rw [hB5, cond_true] at h
            rw [if_pos h5]
            by_cases h6 : lv = 0
            · have hB6 : Nat.beq lv 0 = true := by rw [h6]; rfl
              rw [hB6, cond_true] at h
              rw [if_pos h6]
              injection h with h
              injection h with e1 h
              injection h with e2 h
              injection h with e3 e4
              exact ⟨_, _, by rw [e1, e2], e3.symm, e4.symm, f1⟩
            · have hB6 : Nat.beq lv 0 = false := by rw [Bool.eq_false_iff]; intro hh; exact h6 (Nat.eq_of_beq_eq_true hh)
              rw [hB6, cond_false] at h
              cases h
          · have hB5 : Nat.beq at_ 0 = false := by rw [Bool.eq_false_iff]; intro hh; exact h5 (Nat.eq_of_beq_eq_true hh)
            rw [hB5, cond_false, getV f] at h
            rw [if_neg h5]
            by_cases h7 : 0 < lv ∧ lv - 1 < vis.length ∧ nth vis (lv - 1) < 100000
            · have hB7 : (Nat.blt 0 lv && Nat.blt (lv - 1) nv && Nat.blt (nth vis (lv - 1)) 100000) = true := by rw [← f.lv]; simpa [and_assoc] using h7
              rw [hB7, cond_true, setV f _ (by rw [← f.lv]; exact h7.2.1)] at h
              rw [if_pos h7]
              exact ih _ _ _ _ _ ⟨f1.lr, f1.br, by rw [List.length_set]; exact f.lv, mem_set f.bv (by omega)⟩ e s R V h
            · have hB7 : (Nat.blt 0 lv && Nat.blt (lv - 1) nv && Nat.blt (nth vis (lv - 1)) 100000) = false := by
                rw [← f.lv, Bool.eq_false_iff]; intro hh; exact h7 (by simpa [and_assoc] using hh)
              rw [hB7, cond_false] at h
              cases h
      · have hB2 : (Nat.blt st 100000 && Nat.ble (nth rot at_) b) = false := by rw [Bool.eq_false_iff]; intro hh; exact h2 (by simpa using hh)
        rw [hB2, cond_false] at h
        cases h
    · have hB : Nat.blt at_ inner = false := by rw [Bool.eq_false_iff]; intro hh; exact h1 (by simpa using hh)
      rw [hB, cond_false] at h
      rw [if_neg h1]
      injection h with h
      injection h with e1 h
      injection h with e2 h
      injection h with e3 e4
      exact ⟨_, _, by rw [e1, e2], e3.symm, e4.symm, f⟩

theorem chips_of_P (b inner nv : Nat) (hb : b ≤ 3) : ∀ (n : Nat) (s : St), Fits inner nv s.rot s.vis → chipsP b inner nv n (pk 4 s.rot) (pk 1048576 s.vis) = true → ∃ s1, chips b inner n s = some s1 := by
  intro n
  induction n with
  | zero => intro s _ _; exact ⟨s, rfl⟩
  | succ n ih =>
    intro s f h
    simp only [chipsP] at h
    have h0 := getV f 0
    rw [Nat.mul_zero, Nat.shiftRight_zero] at h0
    rw [h0] at h
    by_cases h1 : 0 < s.vis.length ∧ nth s.vis 0 < 100000
    · have hB : (Nat.blt 0 nv && Nat.blt (nth s.vis 0) 100000) = true := by rw [← f.lv]; simpa using h1
      rw [hB, cond_true] at h
      have e := setV f 0 (by rw [← f.lv]; exact h1.1)
      rw [Nat.mul_zero, Nat.shiftLeft_zero] at e
      rw [e] at h
      have f1 : Fits inner nv s.rot (s.vis.set 0 (nth s.vis 0 + 1)) := ⟨f.lr, f.br, by rw [List.length_set]; exact f.lv, mem_set f.bv (by omega)⟩
      cases hr : runP b inner nv 5000 0 0 0 (pk 4 s.rot) (pk 1048576 (s.vis.set 0 (nth s.vis 0 + 1))) with
      | none => rw [hr] at h; simp at h
      | some q =>
        obtain ⟨e1, s1, R, V⟩ := q
        rw [hr] at h
        obtain ⟨rot1, vis1, hrun, rfl, rfl, f2⟩ := run_of_P b inner nv hb 5000 0 0 0 _ _ f1 e1 s1 R V hr
        have hc : chip b inner s.rot s.vis = some (e1, s1, rot1, vis1) := by rw [chip, if_pos h1]; exact hrun
        obtain ⟨s2, hs2⟩ := ih ⟨rot1, vis1, s.ends ++ [endN e1], s.trips ++ [s1]⟩ f2 h
        exact ⟨s2, by simp only [chips]; rw [hc]; exact hs2⟩
    · have hB : (Nat.blt 0 nv && Nat.blt (nth s.vis 0) 100000) = false := by
        rw [← f.lv, Bool.eq_false_iff]; intro hh; exact h1 (by simpa using hh)
      rw [hB, cond_false] at h
      cases h

/-- 200 chips come to an end on every tree that may be asked for. -/
theorem all_end (b d k : Nat) (h : (b, d) ∈ trees) (hk : k ≤ b) : ∃ s, chips b (inner b d) 200 (start d (inner b d) k) = some s := by
  have h1 := List.all_eq_true.1 all_okP (b, d) h
  have h2 : okP b d k = true := List.all_eq_true.1 h1 k (by simp; omega)
  have hb : b ≤ 3 := by
    simp [trees] at h
    omega
  refine chips_of_P b (inner b d) (d + 1) hb 200 (start d (inner b d) k) ⟨by simp [start], ?_, by simp [start], ?_⟩ ?_
  · intro x hx; simp [start] at hx; omega
  · intro x hx; simp [start] at hx; omega
  · simp only [start]
    rw [pk_replicate4, pk_replicate0]
    exact h2

theorem chips_add (b inner : Nat) : ∀ (m n : Nat) (s : St), chips b inner (m + n) s = (chips b inner m s).bind (chips b inner n)
  | 0, n, s => by simp [chips]
  | m + 1, n, s => by
    rw [show m + 1 + n = (m + n) + 1 by omega]
    simp only [chips]
    cases chip b inner s.rot s.vis with
    | none => rfl
    | some q => exact chips_add b inner m n _
/-- n chips of at most 200 come to an end. -/
theorem end_of (b d k n : Nat) (h : (b, d) ∈ trees) (hk : k ≤ b) (hn : n ≤ 200) : ∃ s, chips b (inner b d) n (start d (inner b d) k) = some s := by
  obtain ⟨s, hs⟩ := all_end b d k h hk
  rw [show 200 = n + (200 - n) by omega, chips_add] at hs
  cases hc : chips b (inner b d) n (start d (inner b d) k) with
  | none => rw [hc] at hs; cases hs
  | some s1 => exact ⟨s1, rfl⟩

end Go.Proofs.Ytmechelmnpoddaa.Es
